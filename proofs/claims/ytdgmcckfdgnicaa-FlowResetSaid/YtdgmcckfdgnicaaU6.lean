/-
 Before;the sanity check of the law.
-/
import Derived.Test.YtdgmcckfdgnicaaU5
set_option linter.unusedVariables false
set_option linter.unusedSimpArgs false
set_option maxRecDepth 20000
namespace Go.Proofs.Ytdgmcckfdgnicaa
open Go Go.Aw Go.Proofs
def onC (a:Int):Prop:=0≤a∧a<65536
instance (a:Int):Decidable (onC a):=by unfold onC;infer_instance
theorem roundD (a:Int) (H:AHeap):ARet Try.prog 47 [.int .i64 a] H (.bool (decide (onC a))) H:=round a H
def beforeR (a b:Int):Value:=if onC a∧onC b then .tuple ⟨[.bool (decide (1≤(b - a)%65536∧(b - a)%65536<32768)),.int .i64 0]⟩ else .tuple ⟨[.bool false,.int .i64 7]⟩
theorem Before (a b:Int) (H:AHeap):ARet Try.prog 29 [.int .i64 a,.int .i64 b] H (beforeR a b) H:=by
 unfold beforeR
 by_cases ha:onC a
 ·by_cases hb:onC b
  ·rw [if_pos ⟨ha,hb⟩]
   refine AC.enter Try.func29 rfl (by kernel_rfl) 17 rfl [.tmp 4,.tmp 5] rfl (by simp) fun hsc B=> ?_
   repeat first|with_reducible refine kc ?_|((with_reducible first|refine kr ?_ ?_|refine kt ?_ ?_);exact rfl)|((with_reducible refine kf ?_ ?_);exact rfl)|with_reducible (first|refine (roundD _ _).use ?_|refine (before _ _ _).use ?_)|simp only [go_sem,sevalprocAttr,reduceCtorEq,ha,hb]|simp (disch:=omega) only [wz]|with_reducible_and_instances exact finR|((with_reducible refine finR' ?_ ?_)<;> rfl)|((with_reducible refine finD hsc (NRel.of_plain ?_));exact rfl)
  ·rw [if_neg (fun h=>hb h.2)]
   refine AC.enter Try.func29 rfl (by kernel_rfl) 17 rfl [.tmp 4,.tmp 5] rfl (by simp) fun hsc B=> ?_
   repeat first|with_reducible refine kc ?_|((with_reducible first|refine kr ?_ ?_|refine kt ?_ ?_);exact rfl)|((with_reducible refine kf ?_ ?_);exact rfl)|with_reducible (first|refine (roundD _ _).use ?_|refine (before _ _ _).use ?_)|simp only [go_sem,sevalprocAttr,reduceCtorEq,ha,hb]|simp (disch:=omega) only [wz]|with_reducible_and_instances exact finR|((with_reducible refine finR' ?_ ?_)<;> rfl)|((with_reducible refine finD hsc (NRel.of_plain ?_));exact rfl)
 ·rw [if_neg (fun h=>ha h.1)]
  refine AC.enter Try.func29 rfl (by kernel_rfl) 17 rfl [.tmp 4,.tmp 5] rfl (by simp) fun hsc B=> ?_
  repeat first|with_reducible refine kc ?_|((with_reducible first|refine kr ?_ ?_|refine kt ?_ ?_);exact rfl)|((with_reducible refine kf ?_ ?_);exact rfl)|with_reducible (first|refine (roundD _ _).use ?_|refine (before _ _ _).use ?_)|simp only [go_sem,sevalprocAttr,reduceCtorEq,ha]|simp (disch:=omega) only [wz]|with_reducible_and_instances exact finR|((with_reducible refine finR' ?_ ?_)<;> rfl)|((with_reducible refine finD hsc (NRel.of_plain ?_));exact rfl)
theorem awakeM:markedR 10 [12,14]= .tuple ⟨[.string (bs [5]),.int .i64 0]⟩:=by
 have h:farL 10 [12,14]=[0,2]:=by decide
 unfold markedR
 rw [if_pos (by decide),h]
 rfl
theorem awakeB:beforeR 65535 0= .tuple ⟨[.bool true,.int .i64 0]⟩:=by
 unfold beforeR
 rw [if_pos (by decide)]
 rfl
theorem awake (H:AHeap):ARet Try.prog 9 [] H (.bool true) H:=by
 have hB:=fun H=>Before 65535 0 H
 simp only [awakeB] at hB
 have hM:=fun H v h=>Marked 10 [12,14] (by decide) v H h
 simp only [awakeM] at hM
 have hM:=hM (H++ [.cells [.int .i64 12,.int .i64 14] ⟨3,0,true,0,none⟩]) (.slice (some ⟨H.length,0,none⟩) 2 2) (Rd.cells (k:=⟨3,0,true,0,none⟩) (hget0 rfl) rfl)
 refine AC.enter Try.func9 rfl (by kernel_rfl) 27 rfl [.tmp 0] rfl (by simp) fun hsc B=> ?_
 repeat first|with_reducible refine kc ?_|((with_reducible first|refine kr ?_ ?_|refine kt ?_ ?_);exact rfl)|((with_reducible refine kf ?_ ?_);exact rfl)|with_reducible (first|refine (hB _).use ?_|refine hM.use ?_)|simp only [go_sem,sevalprocAttr,reduceCtorEq]|simp (disch:=omega) only [wz]|with_reducible_and_instances exact finR|((with_reducible refine finR' ?_ ?_)<;> rfl)|((with_reducible refine finD hsc (NRel.of_plain ?_));exact rfl)
end Go.Proofs.Ytdgmcckfdgnicaa
