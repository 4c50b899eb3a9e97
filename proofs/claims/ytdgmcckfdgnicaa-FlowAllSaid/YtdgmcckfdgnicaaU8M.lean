/-
  A part of the proof of a statement of this seat.
-/
import Derived.Test.YtdgmcckfdgnicaaU5M
set_option linter.unusedVariables false
set_option linter.unusedSimpArgs false
set_option maxRecDepth 20000
set_option maxHeartbeats 4000000
namespace Go.Proofs.Ytdgmcckfdgnicaa
open Go Go.Aw Go.Proofs
structure Pk where
 kind:Int
 number:Int
 body:List UInt8
 sent:Int
 times:Int
 later:Int
 quick:Bool
 lost:Bool
instance:Inhabited Pk:=⟨⟨0,0,[],0,0,0,false,false⟩⟩
def pkC (p:Pk):List Value:= [.int .i64 p.kind,.int .i64 p.number,.string (bs p.body),.int .i64 p.sent,.int .i64 p.times,.int .i64 p.later,.bool p.quick,.bool p.lost]
abbrev kP:CK:=⟨81,0,true,0,none⟩
abbrev ptr (n:Nat):Value:= .pointer (some ⟨n,0,none⟩)
def szP (p:Pk):Int:=max 1 (p.body.length:Int)
theorem size (n:Nat) (p:Pk) (H:AHeap) (h:H[n]? =some (.cells (pkC p) kP)):ARet Try.prog 68 [ptr n] H (.int .i64 (szP p)) H:=by
 unfold pkC at h
 unfold szP
 refine AC.enter Try.func68 rfl (by kernel_rfl) 9 rfl [.tmp 2] rfl (by simp) fun hsc B=> ?_
 repeat first|with_reducible refine kc ?_|((with_reducible first|refine kr ?_ ?_|refine kt ?_ ?_);exact rfl)|((with_reducible refine kf ?_ ?_);exact rfl)|simp only [go_sem,sevalprocAttr,reduceCtorEq,h,minMaxW]|simp (disch:=omega) only [wz]|with_reducible_and_instances exact finR|((with_reducible refine finR' ?_ ?_)<;> rfl)|((with_reducible refine finD hsc (NRel.of_plain ?_));exact rfl)
def RowP (H:AHeap) (v:Value) (l:List Nat) (js:List Nat):Prop:=
 (v= .slice none 0 0∧l=[]∧js=[])∨∃j off cap cs,v= .slice (some ⟨j,off,none⟩) l.length cap∧js=[j]∧H[j]? =some (.cells cs ⟨79,1,true,0,none⟩)∧off+cap=cs.length∧l.length≤cap∧(cs.drop off).take l.length=l.map ptr
theorem RowP.lenW {H H':AHeap} {v:Value} {l js:List Nat} {K:Value→AHeap→Prop} (h:RowP H v l js):lenW Try.prog 69 v H' K=K (.int .i64 (l.length:Nat)) H':=by
 rcases h with ⟨rfl,rfl,_⟩|⟨j,off,cap,cs,rfl,_⟩
 ·simp only [go_sem,sevalprocAttr,reduceCtorEq]
 ·simp only [go_sem,sevalprocAttr,reduceCtorEq]
theorem RowP.get {H:AHeap} {v:Value} {l js:List Nat} (h:RowP H v l js) {i n:Nat} (hi:l[i]? =some n):
  ∃j off cap cs,v= .slice (some ⟨j,off,none⟩) l.length cap∧js=[j]∧H[j]? =some (.cells cs ⟨79,1,true,0,none⟩)∧off+cap=cs.length∧l.length≤cap∧(cs.drop off).take l.length=l.map ptr∧cs[off+i]? =some (ptr n):=by
 rcases h with ⟨_,rfl,_⟩|⟨j,off,cap,cs,h1,h2,h3,h4,h5,h6⟩
 ·simp at hi
 ·refine ⟨j,off,cap,cs,h1,h2,h3,h4,h5,h6,?_⟩
  have hlt:=(List.getElem?_eq_some_iff.1 hi).1
  have:((cs.drop off).take l.length)[i]? =some (ptr n):=by rw [h6,List.getElem?_map,hi];rfl
  rw [List.getElem?_take_of_lt hlt,List.getElem?_drop] at this
  exact this
theorem RowP.frm {S:List Nat} {H H2:AHeap} {v:Value} {l js:List Nat} (h:RowP H v l js) (hf:Frm S H H2) (hs:∀j∈js,j∉S):RowP H2 v l js:=by
 rcases h with h|⟨j,off,cap,cs,h1,rfl,h3,h4⟩
 ·exact .inl h
 ·exact .inr ⟨j,off,cap,cs,h1,rfl,hf.get h3 (hs j (List.mem_singleton.2 rfl)),h4⟩
structure SeqI (P:Program) (f:FuncId) (cap:List Value) (l:List (List Value)) (Hok:Nat→AHeap→Prop):Prop where
 body:∃fn,P.funcs[f]? =some fn∧fn.body.isSome=true∧(fn.name== "runtime.NumGoroutine")=false
 run:∀(i:Nat) (H:AHeap) (I:Nat→AHeap→Prop) (D:AHeap→Prop),I 0 H→ (∀ n H1,I n H1→Hok n H1)→
  (∀ n args H1,l[n]? =some args→I n H1→AY P i args H1 (fun u H2=>∃b,u= .bool b∧(b=true→I (n+1) H2)∧(b=false→D H2)))→
  AC P f (.func (.yield i) ⟨[]⟩ ⟨[]⟩::cap) H (fun r H2=>r= .ret noVal∧(I l.length H2∨D H2))
theorem AWP.rangeI {g:Cfg} {Q:AExit→ASt→Prop} {env:List (Nat×Value)} {ds:List ADef} {H:AHeap} {gop:Operand} {ps:List Tmp} {assign body:Code} {f:FuncId} {cap:List Value} {l:List (List Value)} {Hok:Nat→AHeap→Prop} (hs:SeqI g.P f cap l Hok) (hlr:g.lr=none) (hn0:g.n0≤H.length) (hg:ev ⟨env,ds,H⟩ gop=some (.func (.func f) ⟨[]⟩ ⟨cap⟩))
  (h:∀L:ALoop,L= ⟨.ready,none,env,g.N.n,ps,assign,body⟩→∃(I:Nat→AHeap→Prop) (D:AHeap→Prop),I 0 (H++ [.loop L])∧ (∀ n H1,I n H1→Hok n H1)∧
   (∀ n args H1,l[n]? =some args→I n H1→AY g.P H.length args H1 (fun u H2=>∃b,u= .bool b∧(b=true→I (n+1) H2)∧(b=false→D H2)))∧
   (∀ H2,I l.length H2∨D H2→loopK g Q ⟨env,ds,H⟩ (.ret noVal) H2)):AWP g (.rangeFunc gop ps.toArray assign body) Q ⟨env,ds,H⟩:=by
 obtain ⟨fn,h1,h2,h3⟩:=hs.body
 refine AWP.rangeL h1 hlr hn0 hg h2 h3 fun L hL=> ?_
 obtain ⟨I,D,h0,hok,hy,hk⟩:=h L hL
 refine (hs.run H.length _ I D h0 hok hy).mono ?_
 rintro r H2 ⟨rfl,h⟩
 exact hk H2 h
def nl (fl:List Pk) (i:Nat):Bool:=match fl[i]? with|some p=> !p.lost|none=>false
def underN (fl:List Pk):List Nat:=(List.range fl.length).filter (nl fl)
def underA (fn:List Nat) (fl:List Pk):List (List Value):=(underN fl).map fun i=>[ptr (fn.getD i 0)]
def rankP (fl:List Pk) (i:Nat):Nat:=((List.range i).filter (nl fl)).length
def UOk (e j:Nat) (fv:Value) (fn fj:List Nat) (fl:List Pk) (k:Nat) (H:AHeap):Prop:=
 (∃ kk,H[j]? =some (.cells [ptr e] kk))∧ (∃ cs kk,H[e]? =some (.cells cs kk)∧cs[1]? =some fv)∧RowP H fv fn fj∧fn.length=fl.length∧
 ∀i n p,fn[i]? =some n→fl[i]? =some p→∃cs kk b,H[n]? =some (.cells cs kk)∧cs[7]? =some (.bool b)∧(p.lost=true→b=true)∧(p.lost=false→k≤rankP fl i→b=false)
theorem under (e:Nat) (H:AHeap):ARet Try.prog 57 [ptr e] H (.func (.func 69) ⟨[]⟩ ⟨[ptr H.length]⟩) (H++ [.cells [ptr e] ⟨100,0,true,0,none⟩]):=by
 refine AC.enter Try.func57 rfl (by kernel_rfl) 4 rfl [.tmp 2] rfl (by simp) fun hsc B=> ?_
 repeat first|refine kw0 ?_|exact kwz
theorem under1 (e j:Nat) (fv:Value) (fn fj:List Nat) (fl:List Pk) (hl:fl.length<1099511627776):SeqI Try.prog 69 [ptr j] (underA fn fl) (UOk e j fv fn fj fl):=by
 refine ⟨⟨_,Try.func69,by kernel_rfl,by kernel_rfl⟩,fun i H I D h0 hok hy=> ?_⟩
 obtain ⟨⟨kj,hj0⟩,⟨cs0,ke,hc0,hc1⟩,hr0,hll,_⟩:=hok 0 H h0
 have q1:∀H' K,lenW Try.prog 69 fv H' K=K (.int .i64 (fn.length:Nat)) H':=fun H' K=>hr0.lenW
 refine AC.enter Try.func69 rfl (by kernel_rfl) 26 rfl [] rfl (by simp) fun hsc B=> ?_
 repeat first|with_reducible refine kc ?_|((with_reducible first|refine kr ?_ ?_|refine kt ?_ ?_);exact rfl)|((with_reducible refine kf ?_ ?_);exact rfl)|simp only [go_sem,sevalprocAttr,reduceCtorEq,hj0,hc0,hc1,q1]|simp (disch:=omega) only [wz]
 refine AWP.loopP (fun s2:Nat×AHeap=>⟨[(0,.func (.yield i) ⟨[]⟩ ⟨[]⟩),(8,fv),(9,.int .i64 (fn.length:Nat)),(10,.int .i64 (s2.1:Nat))],[],s2.2⟩) (fun s2=>s2.1≤fn.length∧I (rankP fl s2.1) s2.2) (fun s2=>fn.length - s2.1) (0,H) ?_ ⟨by simp,h0⟩ ?_
 ·exact Weak.env (by simp [envIn,lk_cons,wth_some])
 rintro ⟨n,H1⟩ ⟨hn,hn1⟩
 simp only at hn hn1
 by_cases hc:n<fn.length
 ·have hc':(n:Int)<(fn.length:Int):=by omega
  obtain ⟨_,_,hr,_,hp⟩:=hok _ H1 hn1
  obtain ⟨ji,off,cap,cs,hv,_,hji,_,_,_,hg⟩:=hr.get (List.getElem?_eq_getElem hc)
  obtain ⟨cp,kp,b,hpn,hp7,hb1,hb2⟩:=hp n _ _ (List.getElem?_eq_getElem hc) (List.getElem?_eq_getElem (by omega))
  have hnl:nl fl n= !fl[n].lost:=by unfold nl;rw [List.getElem?_eq_getElem (by omega)]
  have hfs:=filter_range_succ (p:=nl fl) (i:=n)
  subst hv
  cases hlost:(fl[n]'(by omega)).lost with
  | false=>
   have hb:=hb2 hlost (Nat.le_refl _)
   subst hb
   rw [hlost] at hnl
   rw [hnl,if_pos (show (!false)=true from rfl)] at hfs
   have hl2:(underA fn fl)[rankP fl n]? =some [ptr fn[n]]:=by
    unfold underA underN rankP
    rw [List.getElem?_map,filter_range_get (by omega) hnl,Option.map_some,List.getD_eq_getElem?_getD,List.getElem?_eq_getElem hc];rfl
   have hyy:=hy _ _ H1 hl2 hn1
   repeat first|refine kw5 hc' hji hg hpn hp7 ?_|exact kwy
   refine AY.mono hyy ?_
   rintro v H2 ⟨b,rfl,hb1,hb2⟩
   cases b with
   |true=>
    repeat first|refine kw0 ?_|exact kwy
    exact ⟨(n+1,H2),Weak.env (by simp [envIn,lk_cons,wth_some]),by omega,by unfold rankP;rw [hfs];exact hb1 rfl,by simp;omega⟩
   |false=>
    repeat first|refine kw0 ?_|exact kwy
    exact ⟨_,_,.refl _ _ _,rfl,.inr (hb2 rfl)⟩
  |true=>
   have hb:=hb1 hlost
   subst hb
   rw [hlost] at hnl
   rw [hnl,if_neg (show ¬ (!true)=true by decide)] at hfs
   repeat first|refine kw5 hc' hji hg hpn hp7 ?_|exact kwy
   exact ⟨(n+1,H1),Weak.env (by simp [envIn,lk_cons,wth_some]),by omega,by unfold rankP;rw [hfs];exact hn1,by simp;omega⟩
 ·have:n=fn.length:=by omega
  subst this
  have hc':¬(fn.length:Int)<(fn.length:Int):=by omega
  repeat first|refine kw1 hc' ?_|exact kwy
  exact ⟨_,_,.refl _ _ _,rfl,.inl (by unfold underA underN;rw [List.length_map,←hll];exact hn1)⟩
end Go.Proofs.Ytdgmcckfdgnicaa

set_option linter.unusedVariables false
set_option linter.unusedSimpArgs false
set_option maxRecDepth 20000
set_option maxHeartbeats 4000000
namespace Go.Proofs.Ytdgmcckfdgnicaa
open Go Go.Aw Go.Proofs
def PksAt (H:AHeap) (fn:List Nat) (fl:List Pk):Prop:=fn.length=fl.length∧∀(i n:Nat) (p:Pk),fn[i]? =some n→fl[i]? =some p→H[n]? =some (.cells (pkC p) kP)
theorem PksAt.frm {S:List Nat} {H H2:AHeap} {fn:List Nat} {fl:List Pk} (h:PksAt H fn fl) (hf:Frm S H H2) (hs:∀j∈fn,j∉S):PksAt H2 fn fl:=
 ⟨h.1,fun i n p a b=>hf.get (h.2 i n p a b) (hs n (List.mem_of_getElem? a))⟩
theorem PksAt.uok {H:AHeap} {e j:Nat} {fv:Value} {fn fj:List Nat} {fl:List Pk} (h:PksAt H fn fl) (hj:∃kk,H[j]? =some (.cells [ptr e] kk)) (he:∃cs kk,H[e]? =some (.cells cs kk)∧cs[1]? =some fv) (hr:RowP H fv fn fj) (k:Nat):UOk e j fv fn fj fl k H:=
 ⟨hj,he,hr,h.1,fun i n p a b=>⟨pkC p,kP,p.lost,h.2 i n p a b,rfl,fun h=>h,fun h _=>h⟩⟩
def flyN (fl:List Pk):Nat:=(underN fl).length
def szsU (fl:List Pk) (n:Nat):Int:=(((underN fl).take n).map fun i=>szP (fl.getD i default)).sum
def flyB (fl:List Pk):Int:=szsU fl (underN fl).length
theorem underA_get {fn:List Nat} {fl:List Pk} {n:Nat} {args:List Value} (hll:fn.length=fl.length) (h:(underA fn fl)[n]? =some args):
  ∃i m p,(underN fl)[n]? =some i∧fn[i]? =some m∧fl[i]? =some p∧p.lost=false∧args=[ptr m]:=by
 unfold underA at h
 rw [List.getElem?_map] at h
 cases hi:(underN fl)[n]? with
 |none=>rw [hi] at h;cases h
 |some i=>
  rw [hi] at h
  have hm:=List.mem_of_getElem? hi
  unfold underN at hm
  rw [List.mem_filter,List.mem_range] at hm
  have h2:=hm.2
  unfold nl at h2
  rw [List.getElem?_eq_getElem hm.1] at h2
  have hfn:fn[i]? =some fn[i]:=List.getElem?_eq_getElem (by omega)
  refine ⟨i,_,_,rfl,hfn,List.getElem?_eq_getElem hm.1,by simpa using h2,?_⟩
  have h3:[ptr (fn.getD i 0)]=args:=by simpa using h
  rw [← h3,List.getD_eq_getElem?_getD,hfn];rfl
theorem szsU_succ {fl:List Pk} {n i:Nat} {p:Pk} (h:(underN fl)[n]? =some i) (hp:fl[i]? =some p):szsU fl (n+1)=szsU fl n+szP p:=by
 unfold szsU
 rw [List.take_add_one,h]
 simp [List.getD_eq_getElem?_getD,hp]
theorem szsU_le {fl:List Pk} {B:Nat} (hb:∀p∈fl,p.body.length≤B) (n:Nat):0≤szsU fl n∧szsU fl n≤(n:Int)*(B+1):=by
 induction n with
 |zero=>unfold szsU;simp
 | succ n ih=>
  cases h:(underN fl)[n]? with
  |none=>
   have:szsU fl (n+1)=szsU fl n:=by unfold szsU;rw [List.take_add_one,h];simp
   rw [this,Int.natCast_add,Int.add_mul]
   omega
  | some i=>
   obtain ⟨p,hp⟩:∃p,fl[i]? =some p:=by
    have hm:=List.mem_of_getElem? h
    unfold underN at hm
    rw [List.mem_filter,List.mem_range] at hm
    exact ⟨_,List.getElem?_eq_getElem hm.1⟩
   rw [szsU_succ h hp]
   have:=hb p (List.mem_of_getElem? hp)
   unfold szP
   rw [Int.natCast_add,Int.add_mul]
   omega
theorem flyN_le (fl:List Pk):flyN fl≤fl.length:=by
 unfold flyN underN
 have:=List.length_filter_le (nl fl) (List.range fl.length)
 rwa [List.length_range] at this
theorem flying (e:Nat) (fv:Value) (fn fj:List Nat) (fl:List Pk) (H:AHeap) (he:∃cs kk,H[e]? =some (.cells cs kk)∧cs[1]? =some fv) (hr:RowP H fv fn fj) (hp:PksAt H fn fl) (hl:fl.length<1099511627776) (hb:∀p∈fl,p.body.length≤100000):
  ARet Try.prog 48 [ptr e] H (.tuple ⟨[.int .i64 (flyN fl:Nat),.int .i64 (flyB fl)]⟩) H:=by
 refine AC.enter Try.func48 rfl (by kernel_rfl) 16 rfl [.cell 2 3,.cell 3 3] rfl (by simp) fun hsc B=> ?_
 repeat first|with_reducible refine (under _ _).use ?_|refine kw0 ?_|exact kwz
 refine AWP.rangeI (under1 e (H.length+2) fv fn fj fl hl) rfl (by simp) (by simp only [go_sem,sevalprocAttr,reduceCtorEq]) fun L hL=>
  ⟨fun n H1=>∃R,n≤(underN fl).length∧H1=H++ (.cells [.int .i64 (n:Nat)] ⟨3,0,true,0,none⟩:: .cells [.int .i64 (szsU fl n)] ⟨3,0,true,0,none⟩:: .cells [ptr e] ⟨100,0,true,0,none⟩:: .loop L::R),fun _=>False,
  ⟨[],Nat.zero_le _,by simp only [List.append_assoc,List.cons_append,List.nil_append];rfl⟩,?_,?_,?_⟩
 ·rintro n H1 ⟨R,h1,rfl⟩
  obtain ⟨cs,kk,h3,h4⟩:=he
  exact (hp.frm (S:=[]) Frm.app (by simp)).uok ⟨⟨100,0,true,0,none⟩,by simp⟩ ⟨cs,kk,by rw [hgetl (lt_of_get h3)];exact h3,h4⟩ (hr.frm (S:=[]) Frm.app (by simp)) n
 ·rintro n args H1 ha ⟨R,hn,rfl⟩
  obtain ⟨i,m,p,h1,h2,h3,h4,rfl⟩:=underA_get hp.1 ha
  have hm:=hp.2 i m p h2 h3
  have hml:=lt_of_get hm
  have hs:=szsU_succ h1 h3
  have hle:=szsU_le hb n
  have hn2:=(List.getElem?_eq_some_iff.1 h1).1
  have hfl:(underN fl).length≤fl.length:=flyN_le fl
  have hz:0≤szP p∧szP p≤100001:=by have:=hb p (List.mem_of_getElem? h3);unfold szP;omega
  simp only [go_sem,sevalprocAttr,reduceCtorEq]
  refine AY.of (L:=L) (by simp only [go_sem,sevalprocAttr,reduceCtorEq]) (by rw [hL]) (by rw [hL];rfl) (by rw [hL];simp) fun hsc2 lr B2=> ?_
  subst hL
  simp only [zipEnv]
  have hs1:szsU fl (n+1)=szsU fl n+szP p:=hs
  repeat first|refine kw0 ?_|exact kwz
  refine AWP.regionM 3 [0,2] [] (.both (.run [0,2]) (.run [2,0])) (by kernel_rfl) (by decide) (by kernel_rfl) (by kernel_rfl) (by kernel_rfl) ?_
  repeat' first|with_reducible refine canW_n ?_|with_reducible refine canW_m (by decide) ?_|((with_reducible apply canW_p (by decide));focus (intro H;(simp only [go_sem,sevalprocAttr,reduceCtorEq,List.map_cons,List.map_nil]);exact rfl))|with_reducible refine memW_b ?_ ?_|with_reducible refine memW_s rfl ?_|with_reducible refine memW_r rfl ?_|with_reducible refine memW_e ?_|simp only [List.take_succ_cons,List.take_zero,List.drop_succ_cons,List.drop_zero]|omega|with_reducible refine And.intro ?_ ?_|with_reducible refine (size m p _ (by simp [hgetl hml,hm])).use ?_|refine kw2 @List.map_cons.{0,0} @List.map_nil.{0,0} ?_|exact kwz|fail
  all_goals exact ⟨_,.refl _ _ _,true,rfl,fun _=>⟨by omega,R,by rw [hs];simp⟩,fun e=>by cases e⟩
 ·rintro H2 (⟨R,hn,rfl⟩|h)
  ·subst hL
   have hul:(underA fn fl).length=(underN fl).length:=by unfold underA;rw [List.length_map]
   rw [hul]
   unfold flyN flyB
   repeat first|refine kw0 ?_|exact kwz
   refine AWP.regionM 3 [0,1,2] [] (.both (.step 0 (.both (.run [1,2]) (.run [2,1]))) (.run [1,0,2])) (by kernel_rfl) (by decide) (by kernel_rfl) (by kernel_rfl) (by kernel_rfl) ?_
   repeat' first|with_reducible refine canW_n ?_|with_reducible refine canW_m (by decide) ?_|((with_reducible apply canW_p (by decide));focus (intro H;(simp only [go_sem,sevalprocAttr,reduceCtorEq,List.map_cons,List.map_nil]);exact rfl))|with_reducible refine memW_b ?_ ?_|with_reducible refine memW_s rfl ?_|with_reducible refine memW_r rfl ?_|with_reducible refine memW_e ?_|simp only [List.take_succ_cons,List.take_zero,List.drop_succ_cons,List.drop_zero]|omega|with_reducible refine And.intro ?_ ?_|refine kw2 @List.map_cons.{0,0} @List.map_nil.{0,0} ?_|exact kwz|fail
  ·exact h.elim
end Go.Proofs.Ytdgmcckfdgnicaa
