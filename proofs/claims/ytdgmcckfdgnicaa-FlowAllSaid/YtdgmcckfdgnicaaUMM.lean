/-
  A part of the proof of a statement of this seat.
-/
import Derived.Test.YtdgmcckfdgnicaaUJM
set_option linter.unusedVariables false
set_option linter.unusedSimpArgs false
set_option maxRecDepth 20000
set_option maxHeartbeats 8000000
namespace Go.Proofs.Ytdgmcckfdgnicaa
open Go Go.Aw Go.Proofs
theorem Steps.more {H:AHeap} {e:Nat} {s s':E} {q:Q} {X H2:AHeap} (h:EndI H e s q) (k:Steps (H++X) e q s' H2):Steps H e q s' H2:=Steps.trans (h.more X) Frm.app (fun j hj=> .inl hj) k
def openT (s:E) (p:Sg):E:=if s.opener=true∨s.state=1∨s.state=5 then s else if s.state=0 then {s with state:=2,base:=p.seq,answer:=true} else {s with answer:=true}
theorem takeOpen {H:AHeap} {e:Nat} {s:E} {q:Q} (h:EndI H e s q) (p:Sg):AC Try.prog 64 [ptr e,p.v] H (fun r H2=>r= .ret noVal∧Steps H e q (openT s p) H2):=by
 have hc:=h.cell
 have hcl:=lt_of_get hc
 simp only [endC] at hc
 have hse:∀(o o1:AObj),((H++[o1]).set e o)[H.length]? =some o1:=fun o o1=>by rw [List.getElem?_set_ne (by omega)];simp
 unfold openT Sg.v Sg.c sgC
 by_cases h0:s.opener=true∨s.state=1∨s.state=5
 ·rw [if_pos h0]
  cases hop:s.opener with
  |true=>
   refine AC.enter Try.func64 rfl (by kernel_rfl) 46 rfl [] rfl (by simp) fun hsc B=> ?_
   repeat first|refine kw4 hc hcl @hgetl hop ?_|exact kwy
   exact ⟨_,_,.refl _ _ _,rfl,Steps.more h (Steps.refl (h.more _))⟩
  | false=>
   by_cases h1:s.state=1
   ·have h1':(s.state==1)=true:=by simp [h1]
    refine AC.enter Try.func64 rfl (by kernel_rfl) 46 rfl [] rfl (by simp) fun hsc B=> ?_
    repeat first|refine kw5 hc hcl @hgetl hop h1' ?_|exact kwy
    exact ⟨_,_,.refl _ _ _,rfl,Steps.more h (Steps.refl (h.more _))⟩
   ·have h1':(s.state==1)=false:=by simp [h1]
    have h5':(s.state==5)=true:=by simp [hop] at h0;simp;omega
    refine AC.enter Try.func64 rfl (by kernel_rfl) 46 rfl [] rfl (by simp) fun hsc B=> ?_
    repeat first|refine kw6 hc hcl @hgetl hop h1' h5' ?_|exact kwy
    exact ⟨_,_,.refl _ _ _,rfl,Steps.more h (Steps.refl (h.more _))⟩
 ·rw [if_neg h0]
  have hop:s.opener=false:=by cases ho:s.opener with|false=>rfl|true=>exact absurd (.inl ho) h0
  have h1':(s.state==1)=false:=by simp;intro hx;exact h0 (.inr (.inl hx))
  have h5':(s.state==5)=false:=by simp;intro hx;exact h0 (.inr (.inr hx))
  by_cases hz:s.state=0
  ·rw [if_pos hz]
   have hz':(s.state==0)=true:=by simp [hz]
   refine AC.enter Try.func64 rfl (by kernel_rfl) 46 rfl [] rfl (by simp) fun hsc B=> ?_
   repeat first|refine kw7 hc hcl @hgetl hop h1' h5' hz' ?_|exact kwy
   apply AWP.regionX [6,10] [(0,0),(0,1),(0,1),(0,1),(0,0),(0,0),(0,0),(1,0),(1,0),(1,0),(1,0)] [33,34,35,36,37,38,39,40,41] [_,_] [(33,_),(34,_),(35,_),(36,_),(37,_),(38,_),(39,_),(40,_),(41,_)]
   ·kernel_rfl
   ·kernel_rfl
   ·kernel_rfl
   ·kernel_rfl
   ·rfl
   ·simp only [eachB,runB]
    repeat' with_reducible refine And.intro ?_ ?_
    iterate 2 all_goals try ((repeat' first|with_reducible refine And.intro ?_ ?_|refine kx4 hc hcl @hgetl hse ?_|exact kwy|exact rfl);done)
   repeat first|refine kw3 hc hcl @hgetl ?_|exact kwy
   have hS:=Steps.put (h.more [.cells [.int .i64 p.kind,.int .i64 p.conn,.int .i64 p.seq,.int .i64 p.ack,.int .i64 p.window,.string (bs p.marks),.string (bs p.body),.int .i64 p.time,.int .i64 p.late] ⟨44,0,true,0,none⟩]) {s with state:=2,base:=p.seq,answer:=true} q.told rfl rfl rfl
   simp only [endC,hop] at hS
   try simp only [hop]
   exact ⟨_,_,.refl _ _ _,rfl,Steps.more h hS⟩
  ·rw [if_neg hz]
   have hz':(s.state==0)=false:=by simp [hz]
   refine AC.enter Try.func64 rfl (by kernel_rfl) 46 rfl [] rfl (by simp) fun hsc B=> ?_
   repeat first|refine kw7 hc hcl @hgetl hop h1' h5' hz' ?_|exact kwy
   have hS:=Steps.put (h.more [.cells [.int .i64 p.kind,.int .i64 p.conn,.int .i64 p.seq,.int .i64 p.ack,.int .i64 p.window,.string (bs p.marks),.string (bs p.body),.int .i64 p.time,.int .i64 p.late] ⟨44,0,true,0,none⟩]) {s with answer:=true} q.told rfl rfl rfl
   simp only [endC,hop] at hS
   try simp only [hop]
   exact ⟨_,_,.refl _ _ _,rfl,Steps.more h hS⟩
def dropT (s:E):E:=if s.state≠0∧s.state≠4 then {s with state:=5,replies:=false} else s
theorem takeDrop {H:AHeap} {e:Nat} {s:E} {q:Q} (h:EndI H e s q) (p:Sg):AC Try.prog 67 [ptr e,p.v] H (fun r H2=>r= .ret noVal∧Steps H e q (dropT s) H2):=by
 have hc:=h.cell
 have hcl:=lt_of_get hc
 simp only [endC] at hc
 unfold dropT Sg.v Sg.c sgC
 by_cases h0:s.state=0
 ·have h0':(s.state != 0)=false:=by simp [h0]
  rw [if_neg (fun hx=>hx.1 h0)]
  refine AC.enter Try.func67 rfl (by kernel_rfl) 23 rfl [] rfl (by simp) fun hsc B=> ?_
  repeat first|refine kw4 hc hcl @hgetl h0' ?_|exact kwy
  exact ⟨_,_,.refl _ _ _,rfl,Steps.more h (Steps.refl (h.more _))⟩
 ·have h0':(s.state != 0)=true:=by simp [h0]
  by_cases h4:s.state=4
  ·have h4':(s.state != 4)=false:=by simp [h4]
   rw [if_neg (fun hx=>hx.2 h4)]
   refine AC.enter Try.func67 rfl (by kernel_rfl) 23 rfl [] rfl (by simp) fun hsc B=> ?_
   repeat first|refine kw5 hc hcl @hgetl h0' h4' ?_|exact kwy
   exact ⟨_,_,.refl _ _ _,rfl,Steps.more h (Steps.refl (h.more _))⟩
  ·have h4':(s.state != 4)=true:=by simp [h4]
   rw [if_pos ⟨h0,h4⟩]
   refine AC.enter Try.func67 rfl (by kernel_rfl) 23 rfl [] rfl (by simp) fun hsc B=> ?_
   repeat first|refine kw5 hc hcl @hgetl h0' h4' ?_|exact kwy
   have hS:=Steps.put (h.more [.cells [.int .i64 p.kind,.int .i64 p.conn,.int .i64 p.seq,.int .i64 p.ack,.int .i64 p.window,.string (bs p.marks),.string (bs p.body),.int .i64 p.time,.int .i64 p.late] ⟨44,0,true,0,none⟩]) {s with state:=5,replies:=false} q.told rfl rfl rfl
   simp only [endC] at hS
   exact ⟨_,_,.refl _ _ _,rfl,Steps.more h hS⟩
end Go.Proofs.Ytdgmcckfdgnicaa

set_option linter.unusedVariables false
set_option linter.unusedSimpArgs false
set_option maxRecDepth 20000
namespace Go.Proofs.Ytdgmcckfdgnicaa
open Go Go.Aw Go.Proofs
def kept? (l:List (Int×Sg)) (k:Int):Option Sg:=(l.find? fun x=>x.1==k).map (·.2)
theorem sameK_int (a b:Int):sameK (.int .i64 a) (.int .i64 b)=(a==b):=by simp [sameK]
theorem mIx_cons (k:Value) (e:Value×Value×Nat) (es:MEs):mIx k (e::es)=if sameK k e.1=true then some 0 else (mIx k es).map (· +1):=by
 unfold mIx
 rw [List.findIdx?_cons]
theorem mGet_esOf {k:Int}:∀{l:List (Int×Sg)} {st:List Nat},st.length=l.length→mGet (.int .i64 k) (esOf l st)=(kept? l k).map Sg.v
 |[],[],_=>rfl
 |[],_::_,h=>by simp at h
 |_::_,[],h=>by simp at h
 | x::l,a::st,h=>by
  have ih:=mGet_esOf (k:=k) (l:=l) (st:=st) (by simpa using h)
  unfold mGet kept? at*
  rw [show esOf (x::l) (a::st)=entV (x,a)::esOf l st from rfl,mIx_cons]
  rw [show (entV (x,a)).1= .int .i64 x.1 from rfl,sameK_int,List.find?_cons]
  by_cases hk:k=x.1
  ·rw [if_pos (by simp [hk]),show (x.1==k)=true from by simp [hk]]
   rfl
  ·rw [if_neg (by simpa using hk),show (x.1==k)=false from by simpa using fun e=>hk e.symm]
   cases hm:mIx (.int .i64 k) (esOf l st) with
   |none=>rw [hm] at ih;simpa using ih
   |some j=>rw [hm] at ih;simpa using ih
theorem keysB_esOf (l:List (Int×Sg)) (st:List Nat):keysB (some (.int .i64)) (esOf l st)=true:=by
 unfold keysB esOf
 rw [List.all_map,List.all_eq_true]
 intro x _
 simp [entV,keyB]
theorem mIx_none {k:Int}:∀{l:List (Int×Sg)} {st:List Nat},st.length=l.length→kept? l k=none→mIx (.int .i64 k) (esOf l st)=none
 |[],[],_,_=>rfl
 |[],_::_,h,_=>by simp at h
 |_::_,[],h,_=>by simp at h
 |x::l,a::st,h,hk=>by
  unfold kept? at hk
  rw [Option.map_eq_none_iff,List.find?_eq_none] at hk
  have h1:x.1≠k:=by simpa using hk x (List.mem_cons_self ..)
  have ih:=mIx_none (k:=k) (l:=l) (st:=st) (by simpa using h) (by unfold kept?;rw [Option.map_eq_none_iff,List.find?_eq_none];exact fun y hy=>hk y (List.mem_cons_of_mem _ hy))
  rw [show esOf (x::l) (a::st)=entV (x,a)::esOf l st from rfl,mIx_cons]
  rw [show (entV (x,a)).1= .int .i64 x.1 from rfl,sameK_int,if_neg (by simpa using fun e=>h1 e.symm),ih]
  rfl
theorem mPut_new {k:Int} {p:Sg} {ck:Nat} {l:List (Int×Sg)} {st:List Nat} (h:MapIs st ck l) (hk:kept? l k=none):mPut (.int .i64 k) p.v ck (esOf l st)=esOf (l++[(k,p)]) (st++[ck])∧mCk (.int .i64 k) ck (esOf l st)=ck+1∧MapIs (st++[ck]) (ck+1) (l++[(k,p)]):=by
 have hi:=mIx_none (k:=k) h.len hk
 refine ⟨?_,?_,?_,?_,?_,?_⟩
 ·unfold mPut
  rw [hi]
  unfold esOf
  rw [List.zip_append h.len.symm,List.map_append]
  rfl
 ·unfold mCk
  rw [hi];rfl
 ·rw [List.length_append,List.length_append,h.len];rfl
 ·rw [List.nodup_append]
  refine ⟨h.nodup,by simp,fun a ha b hb e=> ?_⟩
  rw [List.mem_singleton] at hb
  have:=h.old a ha
  omega
 ·intro x hx
  rcases List.mem_append.1 hx with hx|hx
  ·have:=h.old x hx;omega
  ·rw [List.mem_singleton] at hx;omega
 ·rw [List.map_append,List.nodup_append]
  refine ⟨h.keys,by simp,fun a ha b hb e=> ?_⟩
  simp at hb
  subst hb;subst e
  obtain ⟨x,hx,rfl⟩:=List.mem_map.1 ha
  unfold kept? at hk
  rw [Option.map_eq_none_iff,List.find?_eq_none] at hk
  exact hk x hx (by simp)
theorem mDel_esOf {k:Int}:∀{l:List (Int×Sg)} {st:List Nat},st.length=l.length→(l.map (·.1)).Nodup→∃st2,mDel (.int .i64 k) (esOf l st)=esOf (l.filter fun x=>x.1 != k) st2∧st2.length=(l.filter fun x=>x.1 != k).length∧st2.Sublist st
 |[],[],_,_=>⟨[],rfl,rfl,.slnil⟩
 |[],_::_,h,_=>by simp at h
 |_::_,[],h,_=>by simp at h
 | x ::l,a::st,h,hn=>by
  rw [List.map_cons,List.nodup_cons] at hn
  have hl:st.length=l.length:=by simpa using h
  by_cases hk:k=x.1
  ·refine ⟨st,?_,?_,List.sublist_cons_self ..⟩
   ·unfold mDel
    rw [show esOf (x::l) (a::st)=entV (x,a)::esOf l st from rfl,mIx_cons,show (entV (x,a)).1= .int .i64 x.1 from rfl,sameK_int,if_pos (by simp [hk])]
    rw [List.filter_cons,if_neg (by simp [hk]),List.filter_eq_self.2 fun y hy=> ?_]
    ·rfl
    ·have:y.1≠k:=fun e=>hn.1 (by rw [← hk,←e];exact List.mem_map.2 ⟨y,hy,rfl⟩)
     simpa using this
   ·rw [List.filter_cons,if_neg (by simp [hk]),List.filter_eq_self.2 fun y hy=> ?_]
    ·exact hl
    ·have:y.1≠k:=fun e=>hn.1 (by rw [← hk,←e];exact List.mem_map.2 ⟨y,hy,rfl⟩)
     simpa using this
  ·obtain ⟨st2,h1,h2,h3⟩:=mDel_esOf (k:=k) hl hn.2
   refine ⟨a::st2,?_,?_,h3.cons_cons a⟩
   ·unfold mDel at*
    rw [show esOf (x::l) (a::st)=entV (x,a)::esOf l st from rfl,mIx_cons,show (entV (x,a)).1= .int .i64 x.1 from rfl,sameK_int,if_neg (by simpa using hk),List.filter_cons,if_pos (by simpa using fun e=>hk e.symm)]
    rw [show ∀m s2,esOf (x::m) (a::s2)=entV (x,a)::esOf m s2 from fun _ _=>rfl,←h1]
    cases hm:mIx (.int .i64 k) (esOf l st)<;> rfl
   ·rw [List.filter_cons,if_pos (by simpa using fun e=>hk e.symm),List.length_cons,List.length_cons,h2]
theorem MapIs.del {k:Int} {ck:Nat} {l:List (Int×Sg)} {st:List Nat} (h:MapIs st ck l):∃st2,mDel (.int .i64 k) (esOf l st)=esOf (l.filter fun x=>x.1 != k) st2∧MapIs st2 ck (l.filter fun x=>x.1 != k):=by
 obtain ⟨st2,h1,h2,h3⟩:=mDel_esOf (k:=k) h.len h.keys
 exact ⟨st2,h1,h2,h3.nodup h.nodup,fun x hx=>h.old x (h3.subset hx),(List.filter_sublist.map _).nodup h.keys⟩
end Go.Proofs.Ytdgmcckfdgnicaa

set_option linter.unusedVariables false
set_option linter.unusedSimpArgs false
set_option maxRecDepth 20000
set_option maxHeartbeats 8000000
namespace Go.Proofs.Ytdgmcckfdgnicaa
open Go Go.Aw Go.Proofs
def passStep (s:E) (p:Sg):E:={s with kept:=s.kept.filter (fun x=>x.1 != (s.base+1)%65536),base:=(s.base+1)%65536,ready:=s.ready++p.body,ended:=p.kind==4}
def passGo:Nat→E→E
 |0,s=>s
 |f+1,s=>match kept? s.kept ((s.base+1)%65536) with
  |none=>s
  |some p=>if s.ended=true then s else passGo f (passStep s p)
theorem kept_filter {l:List (Int×Sg)} {k:Int} {p:Sg} (h:kept? l k=some p):(l.filter fun x=>x.1 != k).length<l.length:=by
 unfold kept? at h
 rw [Option.map_eq_some_iff] at h
 obtain ⟨x,hx,_⟩:=h
 have hm:=List.mem_of_find?_eq_some hx
 have hk:=List.find?_some hx
 refine Nat.lt_of_le_of_ne (List.length_filter_le _ _) fun e=> ?_
 have:=List.length_filter_eq_length_iff.1 e x hm
 simp only [bne_iff_ne,ne_eq] at this
 exact this (by simpa using hk)
theorem passGo_fuel:∀{f g:Nat} {s:E},s.kept.length<f→s.kept.length<g→passGo f s=passGo g s
 |0,g,s,h,_=>by omega
 |f+1,0,s,_,h=>by omega
 | f+1,g+1,s,h1,h2=>by
  unfold passGo
  cases hk:kept? s.kept ((s.base+1)%65536) with
  |none=>rfl
  |some p=>
   have hlt:(passStep s p).kept.length<s.kept.length:=kept_filter hk
   dsimp only
   rw [passGo_fuel (f:=f) (g:=g) (s:=passStep s p) (by omega) (by omega)]
theorem keptB_filter {k:Int} {p:Sg}:∀{l:List (Int×Sg)},kept? l k=some p→keptB (l.filter fun x=>x.1 != k)+p.body.length≤keptB l
 |[],h=>by simp [kept?] at h
 | x::l,h=>by
  have hle:∀l:List (Int×Sg),keptB (l.filter fun x=>x.1 != k)≤keptB l:=fun l=>by
   induction l with
   |nil=>simp [keptB]
   |cons y l ih=>
    rw [List.filter_cons]
    unfold keptB at*
    split<;> simp only [List.map_cons,List.sum_cons]<;> omega
  unfold kept? at h
  rw [List.find?_cons] at h
  by_cases hx:x.1=k
  ·rw [show (x.1==k)=true from by simp [hx]] at h
   have hp:x.2=p:=by simpa using h
   rw [List.filter_cons,if_neg (by simp [hx])]
   have:=hle l
   unfold keptB at*
   rw [List.map_cons,List.sum_cons,hp]
   omega
  ·rw [show (x.1==k)=false from by simpa using hx] at h
   have ih:=keptB_filter (l:=l) (k:=k) (p:=p) h
   rw [List.filter_cons,if_pos (by simpa using hx)]
   unfold keptB at*
   rw [List.map_cons,List.sum_cons,List.map_cons,List.sum_cons]
   omega
def passR (s:E):E:=passGo (s.kept.length+1) s
theorem EndI.setMap {H:AHeap} {e:Nat} {s:E} {q:Q} (h:EndI H e s q) {st2:List Nat} {ck2:Nat} {l2:List (Int×Sg)} (hm:MapIs st2 ck2 l2):EndI (H.set q.m (.amap (esOf l2 st2) ck2 true)) e {s with kept:=l2} {q with st:=st2,ck:=ck2}:=by
 have hF:Frm [q.m] H (H.set q.m (.amap (esOf l2 st2) ck2 true)):=Frm.set (Frm.refl _ _) (.inl (List.mem_singleton.2 rfl))
 have hnd:=h.nodup
 unfold Q.names at hnd
 rw [List.nodup_cons,List.nodup_cons] at hnd
 have hn:∀j∈q.wj++(q.fj++(q.wn++q.fn)),j∉[q.m]:=fun j hj hm=>hnd.2.1 (List.mem_singleton.1 hm ▸ hj)
 exact
 {cell:=hF.get h.cell (fun hm=>hnd.1 (by rw [List.mem_singleton.1 hm];exact List.mem_cons_self ..))
  wrow:=h.wrow.frm hF fun j hj=>hn j (by simp [hj])
  frow:=h.frow.frm hF fun j hj=>hn j (by simp [hj])
  wpk:=h.wpk.frm hF fun j hj=>hn j (by simp [hj])
  fpk:=h.fpk.frm hF fun j hj=>hn j (by simp [hj])
  map:=List.getElem?_set_self (lt_of_get h.map)
  mis:=hm
  nodup:=h.nodup}
theorem pass {H:AHeap} {e:Nat} {s:E} {q:Q} (h:EndI H e s q) (hb:0≤s.base∧s.base<65536) (hR:s.ready.length+keptB s.kept<1099511627776):AC Try.prog 74 [ptr e] H (fun r H2=>r= .ret noVal∧Steps H e q (passR s) H2):=by
 refine AC.enter Try.func74 rfl (by kernel_rfl) 60 rfl [] rfl (by simp) fun hsc B=> ?_
 repeat first|refine kw0 ?_|exact kwy
 refine AWP.loopP (fun s2:E×AHeap=>⟨[(0,ptr e)],[],s2.2⟩) (fun s2=>Steps H e q s2.1 s2.2∧(0≤s2.1.base∧s2.1.base<65536)∧passR s=passR s2.1∧s2.1.ready.length+keptB s2.1.kept<1099511627776) (fun s2=>s2.1.kept.length) (s,H) ?_ ⟨Steps.refl h,hb,rfl,hR⟩ ?_
 ·exact Weak.env (by simp [envIn,lk_cons,wth_some])
 rintro ⟨s1,H1⟩ ⟨⟨q1,h1,hF1,hn1⟩,hb1,hpr,hR1⟩
 simp only at h1 hF1 hb1 hpr hR1
 have hc1:=h1.cell
 have hcl1:=lt_of_get hc1
 simp only [endC] at hc1
 have hm1:=h1.map
 have hml1:=lt_of_get hm1
 have hget:=mGet_esOf (k:=(s1.base+1)%65536) h1.mis.len
 have hkb:=keysB_esOf s1.kept q1.st
 have hw1:IntKind.i64.wrap (s1.base+1)=s1.base+1:=IntWalk.i64_in _ (by omega)
 have hn:(s1.base+1).tmod 65536=(s1.base+1)%65536:=Int.tmod_eq_emod_of_nonneg (by omega)
 cases hk:kept? s1.kept ((s1.base+1)%65536) with
 |none=>
  rw [hk] at hget
  simp only [Option.map_none] at hget
  repeat first|refine kw7 hc1 hm1 hn hget hw1 @Option.getD_none.{0} @Option.isSome_none.{0} ?_|exact kwy
  refine ⟨hkb,?_⟩
  repeat first|refine kw7 hc1 hm1 hn hget hw1 @Option.getD_none.{0} @Option.isSome_none.{0} ?_|exact kwy
  refine ⟨_,_,.refl _ _ _,rfl,?_⟩
  rw [hpr]
  unfold passR passGo
  rw [hk]
  exact ⟨q1,h1.more _,hF1.more,hn1⟩
 | some p=>
  rw [hk] at hget
  simp only [Option.map_some] at hget
  cases hend:s1.ended with
  |true=>
   repeat first|with_reducible refine kc ?_|((with_reducible first|refine kr ?_ ?_|refine kt ?_ ?_);exact rfl)|((with_reducible refine kf ?_ ?_);exact rfl)|simp only [go_sem,sevalprocAttr,reduceCtorEq,hc1,hm1,hn,hget,hw1,hend,Sg.v,Sg.c,sgC,Option.getD_some,Option.isSome_some,hgetl,hcl1,hml1]|simp (disch:=omega) only [wz]
   refine ⟨hkb,?_⟩
   repeat first|with_reducible refine kc ?_|((with_reducible first|refine kr ?_ ?_|refine kt ?_ ?_);exact rfl)|((with_reducible refine kf ?_ ?_);exact rfl)|simp only [go_sem,sevalprocAttr,reduceCtorEq,hc1,hm1,hn,hget,hw1,hend,Sg.v,Sg.c,sgC,Option.getD_some,Option.isSome_some,hgetl,hcl1,hml1]|simp (disch:=omega) only [wz]
   refine ⟨_,_,.refl _ _ _,rfl,?_⟩
   rw [hpr]
   unfold passR passGo
   rw [hk]
   dsimp only
   rw [if_pos hend]
   exact ⟨q1,h1.more _,hF1.more,hn1⟩
  | false=>
   repeat first|with_reducible refine kc ?_|((with_reducible first|refine kr ?_ ?_|refine kt ?_ ?_);exact rfl)|((with_reducible refine kf ?_ ?_);exact rfl)|simp only [go_sem,sevalprocAttr,reduceCtorEq,hc1,hm1,hn,hget,hw1,hend,Sg.v,Sg.c,sgC,Option.getD_some,Option.isSome_some,hgetl,hcl1,hml1]|simp (disch:=omega) only [wz]
   refine ⟨hkb,?_⟩
   repeat first|with_reducible refine kc ?_|((with_reducible first|refine kr ?_ ?_|refine kt ?_ ?_);exact rfl)|((with_reducible refine kf ?_ ?_);exact rfl)|simp only [go_sem,sevalprocAttr,reduceCtorEq,hc1,hm1,hn,hget,hw1,hend,Sg.v,Sg.c,sgC,Option.getD_some,Option.isSome_some,hgetl,hcl1,hml1]|simp (disch:=omega) only [wz]
   refine ⟨hkb,?_⟩
   obtain ⟨st2,hdel,hmis2⟩:=h1.mis.del (k:=(s1.base+1)%65536)
   have h1m:=h1.more [.cells [.int .i64 p.kind,.int .i64 p.conn,.int .i64 p.seq,.int .i64 p.ack,.int .i64 p.window,.string (bs p.marks),.string (bs p.body),.int .i64 p.time,.int .i64 p.late] ⟨44,0,true,0,none⟩]
   have h2:=h1m.setMap hmis2
   have hmn:q1.m≠e:=h1.ne (by simp)
   obtain ⟨H2,hH2⟩:∃H2,(H1++[AObj.cells [.int .i64 p.kind,.int .i64 p.conn,.int .i64 p.seq,.int .i64 p.ack,.int .i64 p.window,.string (bs p.marks),.string (bs p.body),.int .i64 p.time,.int .i64 p.late] ⟨44,0,true,0,none⟩]).set q1.m (.amap (esOf (s1.kept.filter fun x=>x.1 != (s1.base+1)%65536) st2) q1.ck true)=H2:=⟨_,rfl⟩
   rw [hH2] at h2
   have hS2:H2[H1.length]? =some (.cells [.int .i64 p.kind,.int .i64 p.conn,.int .i64 p.seq,.int .i64 p.ack,.int .i64 p.window,.string (bs p.marks),.string (bs p.body),.int .i64 p.time,.int .i64 p.late] ⟨44,0,true,0,none⟩):=by
    rw [← hH2,List.getElem?_set_ne (by omega)];simp
   have hF2:Frm (q1.names e) H1 H2:=by
    rw [← hH2]
    exact (Frm.app (S:=q1.names e)).set (.inl (by simp [Q.names]))
   have hc2:=h2.cell
   simp only [endC] at hc2
   have hcl2:=lt_of_get hc2
   have hse:∀o,(H2.set e o)[H1.length]? =H2[H1.length]? :=fun o=>List.getElem?_set_ne (by omega)
   have hSP:=Steps.trans h1 hF1 hn1 (Steps.trans h2 hF2 (fun j hj=> .inl hj) (Steps.put h2 (passStep s1 p) q1.told rfl rfl rfl))
   simp only [endC] at hSP
   have hkB:=keptB_filter hk
   have hlen2:s1.ready.length+p.body.length≤9223372036854775807:=by omega
   repeat first|refine kw4 hdel hH2 hc2 hcl2 ?_|exact kwy
   apply AWP.regionX [11] [(0,0),(0,0),(0,0),(0,0),(0,0),(0,0),(0,0),(0,0),(0,0),(0,0),(0,0),(0,0)] [42,43,44,45,46,47,48,49,50,51,52] [_] [(42,_),(43,_),(44,_),(45,_),(46,_),(47,_),(48,_),(49,_),(50,_),(51,_),(52,_)]
   ·kernel_rfl
   ·kernel_rfl
   ·kernel_rfl
   ·kernel_rfl
   ·rfl
   ·simp only [eachB,runB]
    repeat' with_reducible refine And.intro ?_ ?_
    iterate 2 all_goals try ((repeat' first|with_reducible refine And.intro ?_ ?_|refine kx5 hc2 hcl2 hse hS2 hlen2 ?_|exact kwy|exact rfl);done)
   repeat first|refine kw4 hc2 hcl2 hse hS2 ?_|exact kwy
   have hkl:=kept_filter hk
   refine ⟨(passStep s1 p,_),Weak.env (by simp [envIn,lk_cons,wth_some]),hSP,by simp only [passStep];omega,by simp only [passStep];omega,?_,by simp only [passStep,List.length_append];omega,hkl⟩
   rw [hpr]
   unfold passR
   rw [passGo,hk]
   dsimp only
   rw [if_neg (by rw [hend];decide)]
   exact passGo_fuel hkl (Nat.lt_succ_self _)
end Go.Proofs.Ytdgmcckfdgnicaa
