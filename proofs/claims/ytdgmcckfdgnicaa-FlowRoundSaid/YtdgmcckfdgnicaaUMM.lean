/-
  A part of the proof of a statement of this seat.
-/
import Derived.Test.YtdgmcckfdgnicaaUL
set_option linter.unusedVariables false
set_option linter.unusedSimpArgs false
set_option maxRecDepth 20000
set_option maxHeartbeats 8000000
namespace Go.Proofs.Ytdgmcckfdgnicaa
open Go Go.Aw Go.Proofs
theorem Steps.more {H:AHeap} {e:Nat} {s s':E} {q:Q} {X H2:AHeap} (h:EndI H e s q) (k:Steps (H++X) e q s' H2):Steps H e q s' H2:=Steps.trans (h.more X) Frm.app (fun j hj=> .inl hj) k
def openT (s:E) (p:Sg):E:=if s.opener=true∨s.state=1∨s.state=5 then s else if s.state=0 then {s with state:=2,base:=p.seq,answer:=true} else {s with answer:=true}
theorem takeOpen {H:AHeap} {e:Nat} {s:E} {q:Q} (h:EndI H e s q) (p:Sg):AC Try.prog 64 [ptr e,p.v] H (fun r H2=>r= .ret noVal∧Steps H e q (openT s p) H2):=by
 have hc:=h.cell
 have hcl:=lt_of_get hc
 simp only [endC] at hc
 have hse:∀(o o1:AObj),((H++[o1]).set e o)[H.length]? =some o1:=fun o o1=>by rw [List.getElem?_set_ne (by omega)];simp
 unfold openT Sg.v Sg.c sgC
 by_cases h0:s.opener=true∨s.state=1∨s.state=5
 ·rw [if_pos h0]
  cases hop:s.opener with
  |true=>
   refine AC.enter Try.func64 rfl (by kernel_rfl) 46 rfl [] rfl (by simp) fun hsc B=> ?_
   repeat first|with_reducible refine kc ?_|((with_reducible first|refine kr ?_ ?_|refine kt ?_ ?_);exact rfl)|((with_reducible refine kf ?_ ?_);exact rfl)|simp only [go_sem,sevalprocAttr,reduceCtorEq,hc,hcl,hgetl,hop]|simp (disch:=omega) only [wz]
   exact ⟨_,_,.refl _ _ _,rfl,Steps.more h (Steps.refl (h.more _))⟩
  | false=>
   by_cases h1:s.state=1
   ·have h1':(s.state==1)=true:=by simp [h1]
    refine AC.enter Try.func64 rfl (by kernel_rfl) 46 rfl [] rfl (by simp) fun hsc B=> ?_
    repeat first|with_reducible refine kc ?_|((with_reducible first|refine kr ?_ ?_|refine kt ?_ ?_);exact rfl)|((with_reducible refine kf ?_ ?_);exact rfl)|simp only [go_sem,sevalprocAttr,reduceCtorEq,hc,hcl,hgetl,hop,h1']|simp (disch:=omega) only [wz]
    exact ⟨_,_,.refl _ _ _,rfl,Steps.more h (Steps.refl (h.more _))⟩
   ·have h1':(s.state==1)=false:=by simp [h1]
    have h5':(s.state==5)=true:=by simp [hop] at h0;simp;omega
    refine AC.enter Try.func64 rfl (by kernel_rfl) 46 rfl [] rfl (by simp) fun hsc B=> ?_
    repeat first|with_reducible refine kc ?_|((with_reducible first|refine kr ?_ ?_|refine kt ?_ ?_);exact rfl)|((with_reducible refine kf ?_ ?_);exact rfl)|simp only [go_sem,sevalprocAttr,reduceCtorEq,hc,hcl,hgetl,hop,h1',h5']|simp (disch:=omega) only [wz]
    exact ⟨_,_,.refl _ _ _,rfl,Steps.more h (Steps.refl (h.more _))⟩
 ·rw [if_neg h0]
  have hop:s.opener=false:=by cases ho:s.opener with|false=>rfl|true=>exact absurd (.inl ho) h0
  have h1':(s.state==1)=false:=by simp;intro hx;exact h0 (.inr (.inl hx))
  have h5':(s.state==5)=false:=by simp;intro hx;exact h0 (.inr (.inr hx))
  by_cases hz:s.state=0
  ·rw [if_pos hz]
   have hz':(s.state==0)=true:=by simp [hz]
   refine AC.enter Try.func64 rfl (by kernel_rfl) 46 rfl [] rfl (by simp) fun hsc B=> ?_
   repeat first|with_reducible refine kc ?_|((with_reducible first|refine kr ?_ ?_|refine kt ?_ ?_);exact rfl)|((with_reducible refine kf ?_ ?_);exact rfl)|simp only [go_sem,sevalprocAttr,reduceCtorEq,hc,hcl,hgetl,hop,h1',h5',hz']|simp (disch:=omega) only [wz]
   apply AWP.regionX [6,10] [(0,0),(0,1),(0,1),(0,1),(0,0),(0,0),(0,0),(1,0),(1,0),(1,0),(1,0)] [33,34,35,36,37,38,39,40,41] [_,_] [(33,_),(34,_),(35,_),(36,_),(37,_),(38,_),(39,_),(40,_),(41,_)]
   ·kernel_rfl
   ·kernel_rfl
   ·kernel_rfl
   ·kernel_rfl
   ·rfl
   ·simp only [eachB,runB]
    repeat' with_reducible refine And.intro ?_ ?_
    all_goals try (
     repeat' first
      |with_reducible refine And.intro ?_ ?_|with_reducible refine kc ?_|((with_reducible first|refine kr ?_ ?_|refine kt ?_ ?_);exact rfl)|((with_reducible refine kf ?_ ?_);exact rfl)|simp only [go_sem,sevalprocAttr,reduceCtorEq,hc,hcl,hgetl,hse,stepS,hpL,List.getD_cons_zero,List.getD_cons_succ,List.contains_cons,List.contains_nil,and_imp,forall_eq,implies_true,List.map_cons,List.map_nil]|simp (disch:=omega) only [wz]
      |exact rfl
     done)
    all_goals (
     repeat' first
      |with_reducible refine And.intro ?_ ?_|with_reducible refine kc ?_|((with_reducible first|refine kr ?_ ?_|refine kt ?_ ?_);exact rfl)|((with_reducible refine kf ?_ ?_);exact rfl)|simp only [go_sem,sevalprocAttr,reduceCtorEq,hc,hcl,hgetl,hse,stepS,hpL,List.getD_cons_zero,List.getD_cons_succ,List.contains_cons,List.contains_nil,and_imp,forall_eq,implies_true,List.map_cons,List.map_nil]|simp (disch:=omega) only [wz]
      |exact rfl)
   repeat first|with_reducible refine kc ?_|((with_reducible first|refine kr ?_ ?_|refine kt ?_ ?_);exact rfl)|((with_reducible refine kf ?_ ?_);exact rfl)|simp only [go_sem,sevalprocAttr,reduceCtorEq,hc,hcl,hgetl]|simp (disch:=omega) only [wz]
   have hS:=Steps.put (h.more [.cells [.int .i64 p.kind,.int .i64 p.conn,.int .i64 p.seq,.int .i64 p.ack,.int .i64 p.window,.string (bs p.marks),.string (bs p.body),.int .i64 p.time,.int .i64 p.late] ⟨44,0,true,0,none⟩]) {s with state:=2,base:=p.seq,answer:=true} q.told rfl rfl rfl
   simp only [endC,hop] at hS
   try simp only [hop]
   exact ⟨_,_,.refl _ _ _,rfl,Steps.more h hS⟩
  ·rw [if_neg hz]
   have hz':(s.state==0)=false:=by simp [hz]
   refine AC.enter Try.func64 rfl (by kernel_rfl) 46 rfl [] rfl (by simp) fun hsc B=> ?_
   repeat first|with_reducible refine kc ?_|((with_reducible first|refine kr ?_ ?_|refine kt ?_ ?_);exact rfl)|((with_reducible refine kf ?_ ?_);exact rfl)|simp only [go_sem,sevalprocAttr,reduceCtorEq,hc,hcl,hgetl,hop,h1',h5',hz']|simp (disch:=omega) only [wz]
   have hS:=Steps.put (h.more [.cells [.int .i64 p.kind,.int .i64 p.conn,.int .i64 p.seq,.int .i64 p.ack,.int .i64 p.window,.string (bs p.marks),.string (bs p.body),.int .i64 p.time,.int .i64 p.late] ⟨44,0,true,0,none⟩]) {s with answer:=true} q.told rfl rfl rfl
   simp only [endC,hop] at hS
   try simp only [hop]
   exact ⟨_,_,.refl _ _ _,rfl,Steps.more h hS⟩
def dropT (s:E):E:=if s.state≠0∧s.state≠4 then {s with state:=5,replies:=false} else s
theorem takeDrop {H:AHeap} {e:Nat} {s:E} {q:Q} (h:EndI H e s q) (p:Sg):AC Try.prog 67 [ptr e,p.v] H (fun r H2=>r= .ret noVal∧Steps H e q (dropT s) H2):=by
 have hc:=h.cell
 have hcl:=lt_of_get hc
 simp only [endC] at hc
 unfold dropT Sg.v Sg.c sgC
 by_cases h0:s.state=0
 ·have h0':(s.state != 0)=false:=by simp [h0]
  rw [if_neg (fun hx=>hx.1 h0)]
  refine AC.enter Try.func67 rfl (by kernel_rfl) 23 rfl [] rfl (by simp) fun hsc B=> ?_
  repeat first|with_reducible refine kc ?_|((with_reducible first|refine kr ?_ ?_|refine kt ?_ ?_);exact rfl)|((with_reducible refine kf ?_ ?_);exact rfl)|simp only [go_sem,sevalprocAttr,reduceCtorEq,hc,hcl,hgetl,h0']|simp (disch:=omega) only [wz]
  exact ⟨_,_,.refl _ _ _,rfl,Steps.more h (Steps.refl (h.more _))⟩
 ·have h0':(s.state != 0)=true:=by simp [h0]
  by_cases h4:s.state=4
  ·have h4':(s.state != 4)=false:=by simp [h4]
   rw [if_neg (fun hx=>hx.2 h4)]
   refine AC.enter Try.func67 rfl (by kernel_rfl) 23 rfl [] rfl (by simp) fun hsc B=> ?_
   repeat first|with_reducible refine kc ?_|((with_reducible first|refine kr ?_ ?_|refine kt ?_ ?_);exact rfl)|((with_reducible refine kf ?_ ?_);exact rfl)|simp only [go_sem,sevalprocAttr,reduceCtorEq,hc,hcl,hgetl,h0',h4']|simp (disch:=omega) only [wz]
   exact ⟨_,_,.refl _ _ _,rfl,Steps.more h (Steps.refl (h.more _))⟩
  ·have h4':(s.state != 4)=true:=by simp [h4]
   rw [if_pos ⟨h0,h4⟩]
   refine AC.enter Try.func67 rfl (by kernel_rfl) 23 rfl [] rfl (by simp) fun hsc B=> ?_
   repeat first|with_reducible refine kc ?_|((with_reducible first|refine kr ?_ ?_|refine kt ?_ ?_);exact rfl)|((with_reducible refine kf ?_ ?_);exact rfl)|simp only [go_sem,sevalprocAttr,reduceCtorEq,hc,hcl,hgetl,h0',h4']|simp (disch:=omega) only [wz]
   have hS:=Steps.put (h.more [.cells [.int .i64 p.kind,.int .i64 p.conn,.int .i64 p.seq,.int .i64 p.ack,.int .i64 p.window,.string (bs p.marks),.string (bs p.body),.int .i64 p.time,.int .i64 p.late] ⟨44,0,true,0,none⟩]) {s with state:=5,replies:=false} q.told rfl rfl rfl
   simp only [endC] at hS
   exact ⟨_,_,.refl _ _ _,rfl,Steps.more h hS⟩
end Go.Proofs.Ytdgmcckfdgnicaa

set_option linter.unusedVariables false
set_option linter.unusedSimpArgs false
set_option maxRecDepth 20000
namespace Go.Proofs.Ytdgmcckfdgnicaa
open Go Go.Aw Go.Proofs
def kept? (l:List (Int×Sg)) (k:Int):Option Sg:=(l.find? fun x=>x.1==k).map (·.2)
theorem sameK_int (a b:Int):sameK (.int .i64 a) (.int .i64 b)=(a==b):=by simp [sameK]
theorem mIx_cons (k:Value) (e:Value×Value×Nat) (es:MEs):mIx k (e::es)=if sameK k e.1=true then some 0 else (mIx k es).map (· +1):=by
 unfold mIx
 rw [List.findIdx?_cons]
theorem mGet_esOf {k:Int}:∀{l:List (Int×Sg)} {st:List Nat},st.length=l.length→mGet (.int .i64 k) (esOf l st)=(kept? l k).map Sg.v
 |[],[],_=>rfl
 |[],_::_,h=>by simp at h
 |_::_,[],h=>by simp at h
 | x::l,a::st,h=>by
  have ih:=mGet_esOf (k:=k) (l:=l) (st:=st) (by simpa using h)
  unfold mGet kept? at*
  rw [show esOf (x::l) (a::st)=entV (x,a)::esOf l st from rfl,mIx_cons]
  rw [show (entV (x,a)).1= .int .i64 x.1 from rfl,sameK_int,List.find?_cons]
  by_cases hk:k=x.1
  ·rw [if_pos (by simp [hk]),show (x.1==k)=true from by simp [hk]]
   rfl
  ·rw [if_neg (by simpa using hk),show (x.1==k)=false from by simpa using fun e=>hk e.symm]
   cases hm:mIx (.int .i64 k) (esOf l st) with
   |none=>rw [hm] at ih;simpa using ih
   |some j=>rw [hm] at ih;simpa using ih
theorem keysB_esOf (l:List (Int×Sg)) (st:List Nat):keysB (some (.int .i64)) (esOf l st)=true:=by
 unfold keysB esOf
 rw [List.all_map,List.all_eq_true]
 intro x _
 simp [entV,keyB]
theorem mIx_none {k:Int}:∀{l:List (Int×Sg)} {st:List Nat},st.length=l.length→kept? l k=none→mIx (.int .i64 k) (esOf l st)=none
 |[],[],_,_=>rfl
 |[],_::_,h,_=>by simp at h
 |_::_,[],h,_=>by simp at h
 |x::l,a::st,h,hk=>by
  unfold kept? at hk
  rw [Option.map_eq_none_iff,List.find?_eq_none] at hk
  have h1:x.1≠k:=by simpa using hk x (List.mem_cons_self ..)
  have ih:=mIx_none (k:=k) (l:=l) (st:=st) (by simpa using h) (by unfold kept?;rw [Option.map_eq_none_iff,List.find?_eq_none];exact fun y hy=>hk y (List.mem_cons_of_mem _ hy))
  rw [show esOf (x::l) (a::st)=entV (x,a)::esOf l st from rfl,mIx_cons]
  rw [show (entV (x,a)).1= .int .i64 x.1 from rfl,sameK_int,if_neg (by simpa using fun e=>h1 e.symm),ih]
  rfl
theorem mPut_new {k:Int} {p:Sg} {ck:Nat} {l:List (Int×Sg)} {st:List Nat} (h:MapIs st ck l) (hk:kept? l k=none):mPut (.int .i64 k) p.v ck (esOf l st)=esOf (l++[(k,p)]) (st++[ck])∧mCk (.int .i64 k) ck (esOf l st)=ck+1∧MapIs (st++[ck]) (ck+1) (l++[(k,p)]):=by
 have hi:=mIx_none (k:=k) h.len hk
 refine ⟨?_,?_,?_,?_,?_,?_⟩
 ·unfold mPut
  rw [hi]
  unfold esOf
  rw [List.zip_append h.len.symm,List.map_append]
  rfl
 ·unfold mCk
  rw [hi];rfl
 ·rw [List.length_append,List.length_append,h.len];rfl
 ·rw [List.nodup_append]
  refine ⟨h.nodup,by simp,fun a ha b hb e=> ?_⟩
  rw [List.mem_singleton] at hb
  have:=h.old a ha
  omega
 ·intro x hx
  rcases List.mem_append.1 hx with hx|hx
  ·have:=h.old x hx;omega
  ·rw [List.mem_singleton] at hx;omega
 ·rw [List.map_append,List.nodup_append]
  refine ⟨h.keys,by simp,fun a ha b hb e=> ?_⟩
  simp at hb
  subst hb;subst e
  obtain ⟨x,hx,rfl⟩:=List.mem_map.1 ha
  unfold kept? at hk
  rw [Option.map_eq_none_iff,List.find?_eq_none] at hk
  exact hk x hx (by simp)
theorem mDel_esOf {k:Int}:∀{l:List (Int×Sg)} {st:List Nat},st.length=l.length→(l.map (·.1)).Nodup→∃st2,mDel (.int .i64 k) (esOf l st)=esOf (l.filter fun x=>x.1 != k) st2∧st2.length=(l.filter fun x=>x.1 != k).length∧st2.Sublist st
 |[],[],_,_=>⟨[],rfl,rfl,.slnil⟩
 |[],_::_,h,_=>by simp at h
 |_::_,[],h,_=>by simp at h
 | x ::l,a::st,h,hn=>by
  rw [List.map_cons,List.nodup_cons] at hn
  have hl:st.length=l.length:=by simpa using h
  by_cases hk:k=x.1
  ·refine ⟨st,?_,?_,List.sublist_cons_self ..⟩
   ·unfold mDel
    rw [show esOf (x::l) (a::st)=entV (x,a)::esOf l st from rfl,mIx_cons,show (entV (x,a)).1= .int .i64 x.1 from rfl,sameK_int,if_pos (by simp [hk])]
    rw [List.filter_cons,if_neg (by simp [hk]),List.filter_eq_self.2 fun y hy=> ?_]
    ·rfl
    ·have:y.1≠k:=fun e=>hn.1 (by rw [← hk,←e];exact List.mem_map.2 ⟨y,hy,rfl⟩)
     simpa using this
   ·rw [List.filter_cons,if_neg (by simp [hk]),List.filter_eq_self.2 fun y hy=> ?_]
    ·exact hl
    ·have:y.1≠k:=fun e=>hn.1 (by rw [← hk,←e];exact List.mem_map.2 ⟨y,hy,rfl⟩)
     simpa using this
  ·obtain ⟨st2,h1,h2,h3⟩:=mDel_esOf (k:=k) hl hn.2
   refine ⟨a::st2,?_,?_,h3.cons_cons a⟩
   ·unfold mDel at*
    rw [show esOf (x::l) (a::st)=entV (x,a)::esOf l st from rfl,mIx_cons,show (entV (x,a)).1= .int .i64 x.1 from rfl,sameK_int,if_neg (by simpa using hk),List.filter_cons,if_pos (by simpa using fun e=>hk e.symm)]
    rw [show ∀m s2,esOf (x::m) (a::s2)=entV (x,a)::esOf m s2 from fun _ _=>rfl,←h1]
    cases hm:mIx (.int .i64 k) (esOf l st)<;> rfl
   ·rw [List.filter_cons,if_pos (by simpa using fun e=>hk e.symm),List.length_cons,List.length_cons,h2]
theorem MapIs.del {k:Int} {ck:Nat} {l:List (Int×Sg)} {st:List Nat} (h:MapIs st ck l):∃st2,mDel (.int .i64 k) (esOf l st)=esOf (l.filter fun x=>x.1 != k) st2∧MapIs st2 ck (l.filter fun x=>x.1 != k):=by
 obtain ⟨st2,h1,h2,h3⟩:=mDel_esOf (k:=k) h.len h.keys
 exact ⟨st2,h1,h2,h3.nodup h.nodup,fun x hx=>h.old x (h3.subset hx),(List.filter_sublist.map _).nodup h.keys⟩
end Go.Proofs.Ytdgmcckfdgnicaa
