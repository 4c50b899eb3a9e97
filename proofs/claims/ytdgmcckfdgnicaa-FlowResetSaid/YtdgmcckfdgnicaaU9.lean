/-
 How many packets are under way,how many bytes;the earliest.
-/
import Derived.Test.YtdgmcckfdgnicaaU8
set_option linter.unusedVariables false
set_option linter.unusedSimpArgs false
set_option maxRecDepth 20000
set_option maxHeartbeats 4000000
namespace Go.Proofs.Ytdgmcckfdgnicaa
open Go Go.Aw Go.Proofs
def PksAt (H:AHeap) (fn:List Nat) (fl:List Pk):Prop:=fn.length=fl.length∧∀(i n:Nat) (p:Pk),fn[i]? =some n→fl[i]? =some p→H[n]? =some (.cells (pkC p) kP)
theorem PksAt.frm {S:List Nat} {H H2:AHeap} {fn:List Nat} {fl:List Pk} (h:PksAt H fn fl) (hf:Frm S H H2) (hs:∀j∈fn,j∉S):PksAt H2 fn fl:=
 ⟨h.1,fun i n p a b=>hf.get (h.2 i n p a b) (hs n (List.mem_of_getElem? a))⟩
theorem PksAt.uok {H:AHeap} {e j:Nat} {fv:Value} {fn fj:List Nat} {fl:List Pk} (h:PksAt H fn fl) (hj:∃kk,H[j]? =some (.cells [ptr e] kk)) (he:∃cs kk,H[e]? =some (.cells cs kk)∧cs[1]? =some fv) (hr:RowP H fv fn fj) (k:Nat):UOk e j fv fn fj fl k H:=
 ⟨hj,he,hr,h.1,fun i n p a b=>⟨pkC p,kP,p.lost,h.2 i n p a b,rfl,fun h=>h,fun h _=>h⟩⟩
def flyN (fl:List Pk):Nat:=(underN fl).length
def szsU (fl:List Pk) (n:Nat):Int:=(((underN fl).take n).map fun i=>szP (fl.getD i default)).sum
def flyB (fl:List Pk):Int:=szsU fl (underN fl).length
theorem underA_get {fn:List Nat} {fl:List Pk} {n:Nat} {args:List Value} (hll:fn.length=fl.length) (h:(underA fn fl)[n]? =some args):
  ∃i m p,(underN fl)[n]? =some i∧fn[i]? =some m∧fl[i]? =some p∧p.lost=false∧args=[ptr m]:=by
 unfold underA at h
 rw [List.getElem?_map] at h
 cases hi:(underN fl)[n]? with
 |none=>rw [hi] at h;cases h
 |some i=>
  rw [hi] at h
  have hm:=List.mem_of_getElem? hi
  unfold underN at hm
  rw [List.mem_filter,List.mem_range] at hm
  have h2:=hm.2
  unfold nl at h2
  rw [List.getElem?_eq_getElem hm.1] at h2
  have hfn:fn[i]? =some fn[i]:=List.getElem?_eq_getElem (by omega)
  refine ⟨i,_,_,rfl,hfn,List.getElem?_eq_getElem hm.1,by simpa using h2,?_⟩
  have h3:[ptr (fn.getD i 0)]=args:=by simpa using h
  rw [← h3,List.getD_eq_getElem?_getD,hfn];rfl
theorem szsU_succ {fl:List Pk} {n i:Nat} {p:Pk} (h:(underN fl)[n]? =some i) (hp:fl[i]? =some p):szsU fl (n+1)=szsU fl n+szP p:=by
 unfold szsU
 rw [List.take_add_one,h]
 simp [List.getD_eq_getElem?_getD,hp]
theorem szsU_le {fl:List Pk} {B:Nat} (hb:∀p∈fl,p.body.length≤B) (n:Nat):0≤szsU fl n∧szsU fl n≤(n:Int)*(B+1):=by
 induction n with
 |zero=>unfold szsU;simp
 | succ n ih=>
  cases h:(underN fl)[n]? with
  |none=>
   have:szsU fl (n+1)=szsU fl n:=by unfold szsU;rw [List.take_add_one,h];simp
   rw [this,Int.natCast_add,Int.add_mul]
   omega
  | some i=>
   obtain ⟨p,hp⟩:∃p,fl[i]? =some p:=by
    have hm:=List.mem_of_getElem? h
    unfold underN at hm
    rw [List.mem_filter,List.mem_range] at hm
    exact ⟨_,List.getElem?_eq_getElem hm.1⟩
   rw [szsU_succ h hp]
   have:=hb p (List.mem_of_getElem? hp)
   unfold szP
   rw [Int.natCast_add,Int.add_mul]
   omega
theorem flyN_le (fl:List Pk):flyN fl≤fl.length:=by
 unfold flyN underN
 have:=List.length_filter_le (nl fl) (List.range fl.length)
 rwa [List.length_range] at this
theorem flying (e:Nat) (fv:Value) (fn fj:List Nat) (fl:List Pk) (H:AHeap) (he:∃cs kk,H[e]? =some (.cells cs kk)∧cs[1]? =some fv) (hr:RowP H fv fn fj) (hp:PksAt H fn fl) (hl:fl.length<1099511627776) (hb:∀p∈fl,p.body.length≤100000):
  ARet Try.prog 48 [ptr e] H (.tuple ⟨[.int .i64 (flyN fl:Nat),.int .i64 (flyB fl)]⟩) H:=by
 refine AC.enter Try.func48 rfl (by kernel_rfl) 16 rfl [.cell 2 3,.cell 3 3] rfl (by simp) fun hsc B=> ?_
 repeat first|with_reducible refine kc ?_|((with_reducible first|refine kr ?_ ?_|refine kt ?_ ?_);exact rfl)|((with_reducible refine kf ?_ ?_);exact rfl)|with_reducible refine (under _ _).use ?_|simp only [go_sem,sevalprocAttr,reduceCtorEq]|simp (disch:=omega) only [wz]|with_reducible_and_instances exact finR|((with_reducible refine finR' ?_ ?_)<;> rfl)|((with_reducible refine finD hsc (NRel.of_plain ?_));exact rfl)
 refine AWP.rangeI (under1 e (H.length+2) fv fn fj fl hl) rfl (by simp) (by simp only [go_sem,sevalprocAttr,reduceCtorEq]) fun L hL=>
  ⟨fun n H1=>∃R,n≤(underN fl).length∧H1=H++ (.cells [.int .i64 (n:Nat)] ⟨3,0,true,0,none⟩:: .cells [.int .i64 (szsU fl n)] ⟨3,0,true,0,none⟩:: .cells [ptr e] ⟨100,0,true,0,none⟩:: .loop L::R),fun _=>False,
  ⟨[],Nat.zero_le _,by simp only [List.append_assoc,List.cons_append,List.nil_append];rfl⟩,?_,?_,?_⟩
 ·rintro n H1 ⟨R,h1,rfl⟩
  obtain ⟨cs,kk,h3,h4⟩:=he
  exact (hp.frm (S:=[]) Frm.app (by simp)).uok ⟨⟨100,0,true,0,none⟩,by simp⟩ ⟨cs,kk,by rw [hgetl (lt_of_get h3)];exact h3,h4⟩ (hr.frm (S:=[]) Frm.app (by simp)) n
 ·rintro n args H1 ha ⟨R,hn,rfl⟩
  obtain ⟨i,m,p,h1,h2,h3,h4,rfl⟩:=underA_get hp.1 ha
  have hm:=hp.2 i m p h2 h3
  have hml:=lt_of_get hm
  have hs:=szsU_succ h1 h3
  have hle:=szsU_le hb n
  have hn2:=(List.getElem?_eq_some_iff.1 h1).1
  have hfl:(underN fl).length≤fl.length:=flyN_le fl
  have hz:0≤szP p∧szP p≤100001:=by have:=hb p (List.mem_of_getElem? h3);unfold szP;omega
  simp only [go_sem,sevalprocAttr,reduceCtorEq]
  refine AY.of (L:=L) (by simp only [go_sem,sevalprocAttr,reduceCtorEq]) (by rw [hL]) (by rw [hL];rfl) (by rw [hL];simp) fun hsc2 lr B2=> ?_
  subst hL
  simp only [zipEnv]
  have hs1:szsU fl (n+1)=szsU fl n+szP p:=hs
  repeat first|with_reducible refine kc ?_|((with_reducible first|refine kr ?_ ?_|refine kt ?_ ?_);exact rfl)|((with_reducible refine kf ?_ ?_);exact rfl)|simp only [go_sem,sevalprocAttr,reduceCtorEq]|simp (disch:=omega) only [wz]|with_reducible_and_instances exact finR|((with_reducible refine finR' ?_ ?_)<;> rfl)|((with_reducible refine finD hsc (NRel.of_plain ?_));exact rfl)
  refine AWP.regionM 3 [0,2] [] (.both (.run [0,2]) (.run [2,0])) (by kernel_rfl) (by decide) (by kernel_rfl) (by kernel_rfl) (by kernel_rfl) ?_
  repeat' first|with_reducible refine canW_n ?_|with_reducible refine canW_m (by decide) ?_|((with_reducible apply canW_p (by decide));focus (intro H;(simp only [go_sem,sevalprocAttr,reduceCtorEq,List.map_cons,List.map_nil]);exact rfl))|with_reducible refine memW_b ?_ ?_|with_reducible refine memW_s rfl ?_|with_reducible refine memW_r rfl ?_|with_reducible refine memW_e ?_|simp only [List.take_succ_cons,List.take_zero,List.drop_succ_cons,List.drop_zero]|omega|with_reducible refine And.intro ?_ ?_|with_reducible refine kc ?_|((with_reducible first|refine kr ?_ ?_|refine kt ?_ ?_);exact rfl)|((with_reducible refine kf ?_ ?_);exact rfl)|with_reducible refine (size m p _ (by simp [hgetl hml,hm])).use ?_|simp only [go_sem,sevalprocAttr,reduceCtorEq,List.map_cons,List.map_nil]|simp (disch:=omega) only [wz]|with_reducible_and_instances exact finR|((with_reducible refine finR' ?_ ?_)<;> rfl)|((with_reducible refine finD hsc (NRel.of_plain ?_));exact rfl)
  all_goals exact ⟨_,.refl _ _ _,true,rfl,fun _=>⟨by omega,R,by rw [hs];simp⟩,fun e=>by cases e⟩
 ·rintro H2 (⟨R,hn,rfl⟩|h)
  ·subst hL
   have hul:(underA fn fl).length=(underN fl).length:=by unfold underA;rw [List.length_map]
   rw [hul]
   unfold flyN flyB
   repeat first|with_reducible refine kc ?_|((with_reducible first|refine kr ?_ ?_|refine kt ?_ ?_);exact rfl)|((with_reducible refine kf ?_ ?_);exact rfl)|simp only [go_sem,sevalprocAttr,reduceCtorEq]|simp (disch:=omega) only [wz]|with_reducible_and_instances exact finR|((with_reducible refine finR' ?_ ?_)<;> rfl)|((with_reducible refine finD hsc (NRel.of_plain ?_));exact rfl)
   refine AWP.regionM 3 [0,1,2] [] (.both (.step 0 (.both (.run [1,2]) (.run [2,1]))) (.run [1,0,2])) (by kernel_rfl) (by decide) (by kernel_rfl) (by kernel_rfl) (by kernel_rfl) ?_
   repeat' first|with_reducible refine canW_n ?_|with_reducible refine canW_m (by decide) ?_|((with_reducible apply canW_p (by decide));focus (intro H;(simp only [go_sem,sevalprocAttr,reduceCtorEq,List.map_cons,List.map_nil]);exact rfl))|with_reducible refine memW_b ?_ ?_|with_reducible refine memW_s rfl ?_|with_reducible refine memW_r rfl ?_|with_reducible refine memW_e ?_|simp only [List.take_succ_cons,List.take_zero,List.drop_succ_cons,List.drop_zero]|omega|with_reducible refine And.intro ?_ ?_|with_reducible refine kc ?_|((with_reducible first|refine kr ?_ ?_|refine kt ?_ ?_);exact rfl)|((with_reducible refine kf ?_ ?_);exact rfl)|simp only [go_sem,sevalprocAttr,reduceCtorEq,List.map_cons,List.map_nil]|simp (disch:=omega) only [wz]|with_reducible_and_instances exact finR|((with_reducible refine finR' ?_ ?_)<;> rfl)|((with_reducible refine finD hsc (NRel.of_plain ?_));exact rfl)
  ·exact h.elim
end Go.Proofs.Ytdgmcckfdgnicaa
