/-
 What an end tells;reading;resetting;setting its bounds.
-/
import Derived.Test.YtdgmcckfdgnicaaUC
import Derived.Test.YtdgmcckfdgnicaaAwC
set_option linter.unusedVariables false
set_option linter.unusedSimpArgs false
set_option maxRecDepth 20000
set_option maxHeartbeats 8000000
namespace Go.Proofs.Ytdgmcckfdgnicaa
open Go Go.Aw Go.Proofs
theorem State {H:AHeap} {e:Nat} {s:E} {q:Q} (h:EndI H e s q):ARet Try.prog 13 [ptr e] H (.int .i64 s.state) H:=by
 have hc:=h.cell
 simp only [endC] at hc
 refine AC.enter Try.func13 rfl (by kernel_rfl) 9 rfl [.tmp 2] rfl (by simp) fun hsc B=> ?_
 repeat first|with_reducible refine kc ?_|((with_reducible first|refine kr ?_ ?_|refine kt ?_ ?_);exact rfl)|((with_reducible refine kf ?_ ?_);exact rfl)|simp only [go_sem,sevalprocAttr,reduceCtorEq,hc]|simp (disch:=omega) only [wz]|with_reducible_and_instances exact finR|((with_reducible refine finR' ?_ ?_)<;> rfl)|((with_reducible refine finD hsc (NRel.of_plain ?_));exact rfl)
theorem Ready {H:AHeap} {e:Nat} {s:E} {q:Q} (h:EndI H e s q):ARet Try.prog 25 [ptr e] H (.int .i64 (s.ready.length:Nat)) H:=by
 have hc:=h.cell
 simp only [endC] at hc
 refine AC.enter Try.func25 rfl (by kernel_rfl) 11 rfl [.tmp 2] rfl (by simp) fun hsc B=> ?_
 repeat first|with_reducible refine kc ?_|((with_reducible first|refine kr ?_ ?_|refine kt ?_ ?_);exact rfl)|((with_reducible refine kf ?_ ?_);exact rfl)|simp only [go_sem,sevalprocAttr,reduceCtorEq,hc]|simp (disch:=omega) only [wz]|with_reducible_and_instances exact finR|((with_reducible refine finR' ?_ ?_)<;> rfl)|((with_reducible refine finD hsc (NRel.of_plain ?_));exact rfl)
theorem Counts {H:AHeap} {e:Nat} {s:E} {q:Q} (h:EndI H e s q):ARet Try.prog 22 [ptr e] H (.tuple ⟨[.int .i64 s.count,.int .i64 s.again,.int .i64 s.doubles]⟩) H:=by
 have hc:=h.cell
 simp only [endC] at hc
 refine AC.enter Try.func22 rfl (by kernel_rfl) 19 rfl [.tmp 2,.tmp 3,.tmp 4] rfl (by simp) fun hsc B=> ?_
 repeat first|with_reducible refine kc ?_|((with_reducible first|refine kr ?_ ?_|refine kt ?_ ?_);exact rfl)|((with_reducible refine kf ?_ ?_);exact rfl)|simp only [go_sem,sevalprocAttr,reduceCtorEq]|simp (disch:=omega) only [wz]|with_reducible_and_instances exact finR|((with_reducible refine finR' ?_ ?_)<;> rfl)|((with_reducible refine finD hsc (NRel.of_plain ?_));exact rfl)
 apply AWP.regionX [] [(0,0),(0,0),(0,0),(0,0),(0,0),(0,0),(0,0),(0,0),(0,0),(0,0),(0,0),(0,0),(0,0),(0,0),(0,0)] [7,8,9,10,11,12,13,14,15,16,17,18,2,3,4] [] [(7,_),(8,_),(9,_),(10,_),(11,_),(12,_),(13,_),(14,_),(15,_),(16,_),(17,_),(18,_),(2,_),(3,_),(4,_)]
 ·kernel_rfl
 ·kernel_rfl
 ·kernel_rfl
 ·kernel_rfl
 ·rfl
 ·simp only [eachB,runB]
  repeat' with_reducible refine And.intro ?_ ?_
  all_goals try (
   repeat' first
    |with_reducible refine And.intro ?_ ?_|with_reducible refine kc ?_|((with_reducible first|refine kr ?_ ?_|refine kt ?_ ?_);exact rfl)|((with_reducible refine kf ?_ ?_);exact rfl)|simp only [go_sem,sevalprocAttr,reduceCtorEq,hc,stepS,hpL,List.getD_cons_zero,List.getD_cons_succ,List.contains_cons,List.contains_nil,and_imp,forall_eq,implies_true,List.map_cons,List.map_nil]|simp (disch:=omega) only [wz]|with_reducible_and_instances exact finR|((with_reducible refine finR' ?_ ?_)<;> rfl)|((with_reducible refine finD hsc (NRel.of_plain ?_));exact rfl)
    |exact rfl
   done)
  all_goals (
   repeat' first
    |with_reducible refine And.intro ?_ ?_|with_reducible refine kc ?_|((with_reducible first|refine kr ?_ ?_|refine kt ?_ ?_);exact rfl)|((with_reducible refine kf ?_ ?_);exact rfl)|simp only [go_sem,sevalprocAttr,reduceCtorEq,hc,stepS,hpL,List.getD_cons_zero,List.getD_cons_succ,List.contains_cons,List.contains_nil,and_imp,forall_eq,implies_true,List.map_cons,List.map_nil]|simp (disch:=omega) only [wz]|with_reducible_and_instances exact finR|((with_reducible refine finR' ?_ ?_)<;> rfl)|((with_reducible refine finD hsc (NRel.of_plain ?_));exact rfl)
    |exact rfl)
 repeat first|with_reducible refine kc ?_|((with_reducible first|refine kr ?_ ?_|refine kt ?_ ?_);exact rfl)|((with_reducible refine kf ?_ ?_);exact rfl)|simp only [go_sem,sevalprocAttr,reduceCtorEq]|simp (disch:=omega) only [wz]|with_reducible_and_instances exact finR|((with_reducible refine finR' ?_ ?_)<;> rfl)|((with_reducible refine finD hsc (NRel.of_plain ?_));exact rfl)
def underR (s:E):Int×Int:=if s.state=5 then (0,0) else ((flyN s.flight:Nat),flyB s.flight)
theorem Under {H:AHeap} {e:Nat} {s:E} {q:Q} (h:EndI H e s q) (hl:s.flight.length<1099511627776) (hb:∀p∈s.flight,p.body.length≤100000):ARet Try.prog 23 [ptr e] H (.tuple ⟨[.int .i64 (underR s).1,.int .i64 (underR s).2]⟩) H:=by
 have hc:=h.cell
 simp only [endC] at hc
 have hfly:=flying e q.fv q.fn q.fj s.flight H h.u h.frow h.fpk hl hb
 unfold underR
 by_cases h5:s.state=5
 ·have h5':(s.state==5)=true:=by simp [h5]
  rw [if_pos h5]
  refine AC.enter Try.func23 rfl (by kernel_rfl) 19 rfl [.tmp 2,.tmp 3] rfl (by simp) fun hsc B=> ?_
  repeat first|with_reducible refine kc ?_|((with_reducible first|refine kr ?_ ?_|refine kt ?_ ?_);exact rfl)|((with_reducible refine kf ?_ ?_);exact rfl)|with_reducible refine hfly.use ?_|simp only [go_sem,sevalprocAttr,reduceCtorEq,hc,h5']|simp (disch:=omega) only [wz]|with_reducible_and_instances exact finR|((with_reducible refine finR' ?_ ?_)<;> rfl)|((with_reducible refine finD hsc (NRel.of_plain ?_));exact rfl)
 ·have h5':(s.state==5)=false:=by simp [h5]
  rw [if_neg h5]
  refine AC.enter Try.func23 rfl (by kernel_rfl) 19 rfl [.tmp 2,.tmp 3] rfl (by simp) fun hsc B=> ?_
  repeat first|with_reducible refine kc ?_|((with_reducible first|refine kr ?_ ?_|refine kt ?_ ?_);exact rfl)|((with_reducible refine kf ?_ ?_);exact rfl)|with_reducible refine hfly.use ?_|simp only [go_sem,sevalprocAttr,reduceCtorEq,hc,h5']|simp (disch:=omega) only [wz]|with_reducible_and_instances exact finR|((with_reducible refine finR' ?_ ?_)<;> rfl)|((with_reducible refine finD hsc (NRel.of_plain ?_));exact rfl)
def readN (most:Int) (s:E):Nat:=(min most (s.ready.length:Int)).toNat
def readNo (s:E):Prop:=s.ready=[]∧(s.ended=true∨s.state=5)
theorem readGo {s:E} {H:AHeap} {e:Nat} {q:Q} (h:EndI H e s q) (most:Int) (hm:0≤most) (hn:¬readNo s):ARet Try.prog 36 [ptr e,.int .i64 most] H (.tuple ⟨[.string (bs (s.ready.take (readN most s))),.int .i64 0]⟩) (H.set e (.cells (endC {s with ready:=s.ready.drop (readN most s)} q) kE)):=by
 have hc:=h.cell
 have hcl:=lt_of_get hc
 simp only [endC] at hc ⊢
 have hm':¬most<0:=by omega
 have hN:min most (s.ready.length:Int)=(readN most s:Nat):=by unfold readN;omega
 have hN2:readN most s≤s.ready.length:=by unfold readN;omega
 have hN3:(readN most s:Int)≤s.ready.length:=by omega
 have he:=emptyB (b:=s.ready)
 have hdt:s.ready.take s.ready.length=s.ready:=List.take_of_length_le (Nat.le_refl _)
 unfold readNo at hn
 by_cases h0:s.ready=[]
 ·have h0':decide (s.ready.length=0)=true:=by rw [h0];rfl
  cases h1:s.ended with
  |true=>exact absurd ⟨h0,.inl h1⟩ hn
  | false=>
   have h5':(s.state==5)=false:=by
    by_cases h5:s.state=5
    ·exact absurd ⟨h0,.inr h5⟩ hn
    ·simp [h5]
   refine AC.enter Try.func36 rfl (by kernel_rfl) 62 rfl [.tmp 4,.tmp 5] rfl (by simp) fun hsc B=> ?_
   repeat first|with_reducible refine kc ?_|((with_reducible first|refine kr ?_ ?_|refine kt ?_ ?_);exact rfl)|((with_reducible refine kf ?_ ?_);exact rfl)|simp only [go_sem,sevalprocAttr,reduceCtorEq,hc,hcl,h1,h5',he,h0',hm',hN,hN2,hN3,minMaxW]|simp (disch:=omega) only [wz]|with_reducible_and_instances exact finR|((with_reducible refine finR' ?_ ?_)<;> rfl)|((with_reducible refine finD hsc (NRel.of_plain ?_));exact rfl)
   refine ⟨Int.le_refl _,?_⟩
   repeat first|with_reducible refine kc ?_|((with_reducible first|refine kr ?_ ?_|refine kt ?_ ?_);exact rfl)|((with_reducible refine kf ?_ ?_);exact rfl)|simp only [go_sem,sevalprocAttr,reduceCtorEq,hdt]|simp (disch:=omega) only [wz]|with_reducible_and_instances exact finR|((with_reducible refine finR' ?_ ?_)<;> rfl)|((with_reducible refine finD hsc (NRel.of_plain ?_));exact rfl)
 ·have h0':decide (s.ready.length=0)=false:=decide_eq_false (fun e=>h0 (List.eq_nil_of_length_eq_zero e))
  refine AC.enter Try.func36 rfl (by kernel_rfl) 62 rfl [.tmp 4,.tmp 5] rfl (by simp) fun hsc B=> ?_
  repeat first|with_reducible refine kc ?_|((with_reducible first|refine kr ?_ ?_|refine kt ?_ ?_);exact rfl)|((with_reducible refine kf ?_ ?_);exact rfl)|simp only [go_sem,sevalprocAttr,reduceCtorEq,hc,hcl,he,h0',hm',hN,hN2,hN3,minMaxW]|simp (disch:=omega) only [wz]|with_reducible_and_instances exact finR|((with_reducible refine finR' ?_ ?_)<;> rfl)|((with_reducible refine finD hsc (NRel.of_plain ?_));exact rfl)
  refine ⟨Int.le_refl _,?_⟩
  repeat first|with_reducible refine kc ?_|((with_reducible first|refine kr ?_ ?_|refine kt ?_ ?_);exact rfl)|((with_reducible refine kf ?_ ?_);exact rfl)|simp only [go_sem,sevalprocAttr,reduceCtorEq,hdt]|simp (disch:=omega) only [wz]|with_reducible_and_instances exact finR|((with_reducible refine finR' ?_ ?_)<;> rfl)|((with_reducible refine finD hsc (NRel.of_plain ?_));exact rfl)
theorem readEnd {s:E} {H:AHeap} {e:Nat} {q:Q} (h:EndI H e s q) (most:Int) (hm:0≤most) (hn:readNo s):ARet Try.prog 36 [ptr e,.int .i64 most] H (.tuple ⟨[.string (bs []),.int .i64 8]⟩) H:=by
 have hc:=h.cell
 have hcl:=lt_of_get hc
 simp only [endC] at hc ⊢
 have hm':¬most<0:=by omega
 have he:=emptyB (b:=s.ready)
 have h0':decide (s.ready.length=0)=true:=by rw [hn.1];rfl
 cases h1:s.ended with
 |true=>
  refine AC.enter Try.func36 rfl (by kernel_rfl) 62 rfl [.tmp 4,.tmp 5] rfl (by simp) fun hsc B=> ?_
  repeat first|with_reducible refine kc ?_|((with_reducible first|refine kr ?_ ?_|refine kt ?_ ?_);exact rfl)|((with_reducible refine kf ?_ ?_);exact rfl)|simp only [go_sem,sevalprocAttr,reduceCtorEq,hc,hcl,h1,he,h0',hm']|simp (disch:=omega) only [wz]|with_reducible_and_instances exact finR|((with_reducible refine finR' ?_ ?_)<;> rfl)|((with_reducible refine finD hsc (NRel.of_plain ?_));exact rfl)
 | false=>
  have h5':(s.state==5)=true:=by
   rcases hn.2 with h2|h2
   ·rw [h1] at h2;cases h2
   ·simp [h2]
  refine AC.enter Try.func36 rfl (by kernel_rfl) 62 rfl [.tmp 4,.tmp 5] rfl (by simp) fun hsc B=> ?_
  repeat first|with_reducible refine kc ?_|((with_reducible first|refine kr ?_ ?_|refine kt ?_ ?_);exact rfl)|((with_reducible refine kf ?_ ?_);exact rfl)|simp only [go_sem,sevalprocAttr,reduceCtorEq,hc,hcl,h1,h5',he,h0',hm']|simp (disch:=omega) only [wz]|with_reducible_and_instances exact finR|((with_reducible refine finR' ?_ ?_)<;> rfl)|((with_reducible refine finD hsc (NRel.of_plain ?_));exact rfl)
theorem limit1 (e:Nat) (H:AHeap):ARet Try.prog 53 [ptr e] H (.pointer (some ⟨e,5,none⟩)) H:=by
 refine AC.enter Try.func53 rfl (by kernel_rfl) 7 rfl [.tmp 2] rfl (by simp) fun hsc B=> ?_
 repeat first|with_reducible refine kc ?_|((with_reducible first|refine kr ?_ ?_|refine kt ?_ ?_);exact rfl)|((with_reducible refine kf ?_ ?_);exact rfl)|simp only [go_sem,sevalprocAttr,reduceCtorEq]|simp (disch:=omega) only [wz]|with_reducible_and_instances exact finR|((with_reducible refine finR' ?_ ?_)<;> rfl)|((with_reducible refine finD hsc (NRel.of_plain ?_));exact rfl)
theorem body1 (e:Nat) (H:AHeap):ARet Try.prog 54 [ptr e] H (.pointer (some ⟨e,6,none⟩)) H:=by
 refine AC.enter Try.func54 rfl (by kernel_rfl) 7 rfl [.tmp 2] rfl (by simp) fun hsc B=> ?_
 repeat first|with_reducible refine kc ?_|((with_reducible first|refine kr ?_ ?_|refine kt ?_ ?_);exact rfl)|((with_reducible refine kf ?_ ?_);exact rfl)|simp only [go_sem,sevalprocAttr,reduceCtorEq]|simp (disch:=omega) only [wz]|with_reducible_and_instances exact finR|((with_reducible refine finR' ?_ ?_)<;> rfl)|((with_reducible refine finD hsc (NRel.of_plain ?_));exact rfl)
theorem setL {H:AHeap} {e:Nat} {s:E} {q:Q} (h:EndI H e s q) (n lo hi:Int) (hn:lo≤n∧n≤hi):ARet Try.prog 52 [ptr e,.int .i64 n,.int .i64 lo,.int .i64 hi,.func (.func 53) ⟨[]⟩ ⟨[]⟩] H (.int .i64 0) (H.set e (.cells (endC {s with limit:=n} q) kE)):=by
 have hc:=h.cell
 have hcl:=lt_of_get hc
 simp only [endC] at hc ⊢
 have h1:¬n<lo:=by omega
 have h2:¬n>hi:=by omega
 refine AC.enter Try.func52 rfl (by kernel_rfl) 28 rfl [.tmp 10] rfl (by simp) fun hsc B=> ?_
 repeat first|with_reducible refine kc ?_|((with_reducible first|refine kr ?_ ?_|refine kt ?_ ?_);exact rfl)|((with_reducible refine kf ?_ ?_);exact rfl)|with_reducible refine (limit1 _ _).use ?_|simp only [go_sem,sevalprocAttr,reduceCtorEq,hc,hcl,h1,h2]|simp (disch:=omega) only [wz]|with_reducible_and_instances exact finR|((with_reducible refine finR' ?_ ?_)<;> rfl)|((with_reducible refine finD hsc (NRel.of_plain ?_));exact rfl)
theorem setB_ {H:AHeap} {e:Nat} {s:E} {q:Q} (h:EndI H e s q) (n lo hi:Int) (hn:lo≤n∧n≤hi):ARet Try.prog 52 [ptr e,.int .i64 n,.int .i64 lo,.int .i64 hi,.func (.func 54) ⟨[]⟩ ⟨[]⟩] H (.int .i64 0) (H.set e (.cells (endC {s with body:=n} q) kE)):=by
 have hc:=h.cell
 have hcl:=lt_of_get hc
 simp only [endC] at hc ⊢
 have h1:¬n<lo:=by omega
 have h2:¬n>hi:=by omega
 refine AC.enter Try.func52 rfl (by kernel_rfl) 28 rfl [.tmp 10] rfl (by simp) fun hsc B=> ?_
 repeat first|with_reducible refine kc ?_|((with_reducible first|refine kr ?_ ?_|refine kt ?_ ?_);exact rfl)|((with_reducible refine kf ?_ ?_);exact rfl)|with_reducible refine (body1 _ _).use ?_|simp only [go_sem,sevalprocAttr,reduceCtorEq,hc,hcl,h1,h2]|simp (disch:=omega) only [wz]|with_reducible_and_instances exact finR|((with_reducible refine finR' ?_ ?_)<;> rfl)|((with_reducible refine finD hsc (NRel.of_plain ?_));exact rfl)
theorem Limit {H:AHeap} {e:Nat} {s:E} {q:Q} (h:EndI H e s q) (n:Int) (hn:1≤n∧n≤1000000):ARet Try.prog 31 [ptr e,.int .i64 n] H (.int .i64 0) (H.set e (.cells (endC {s with limit:=n} q) kE)):=by
 refine AC.enter Try.func31 rfl (by kernel_rfl) 8 rfl [.tmp 4] rfl (by simp) fun hsc B=> ?_
 repeat first|with_reducible refine kc ?_|((with_reducible first|refine kr ?_ ?_|refine kt ?_ ?_);exact rfl)|((with_reducible refine kf ?_ ?_);exact rfl)|with_reducible refine (setL h n 1 1000000 hn).use ?_|simp only [go_sem,sevalprocAttr,reduceCtorEq]|simp (disch:=omega) only [wz]|with_reducible_and_instances exact finR|((with_reducible refine finR' ?_ ?_)<;> rfl)|((with_reducible refine finD hsc (NRel.of_plain ?_));exact rfl)
theorem Body {H:AHeap} {e:Nat} {s:E} {q:Q} (h:EndI H e s q) (n:Int) (hn:1≤n∧n≤1400):ARet Try.prog 32 [ptr e,.int .i64 n] H (.int .i64 0) (H.set e (.cells (endC {s with body:=n} q) kE)):=by
 refine AC.enter Try.func32 rfl (by kernel_rfl) 8 rfl [.tmp 4] rfl (by simp) fun hsc B=> ?_
 repeat first|with_reducible refine kc ?_|((with_reducible first|refine kr ?_ ?_|refine kt ?_ ?_);exact rfl)|((with_reducible refine kf ?_ ?_);exact rfl)|with_reducible refine (setB_ h n 1 1400 hn).use ?_|simp only [go_sem,sevalprocAttr,reduceCtorEq]|simp (disch:=omega) only [wz]|with_reducible_and_instances exact finR|((with_reducible refine finR' ?_ ?_)<;> rfl)|((with_reducible refine finD hsc (NRel.of_plain ?_));exact rfl)
end Go.Proofs.Ytdgmcckfdgnicaa
