/-
  The walk of the program's fields of bits: Full, Has, Set.
-/
import Derived.Test.YtbdlomkogpnkpaaDoorM7
set_option linter.unusedVariables false
set_option linter.unusedSimpArgs false
set_option maxRecDepth 20000
namespace Go.Proofs.YtbdlomkogpnkpaaDoor
open Go Go.Aw Go.Proofs
theorem HasC (n : Nat) (h : n ≤ 4096) (s : List UInt8) (hv : validB n s) (i : Nat) (hi : i < n) (H : AHeap) : ARet Tryd.prog 20 [.int .i64 (n : Nat), .string (bs s), .int .i64 (i : Nat)] H (.tuple ⟨[.bool (bitAt s i), .int .i64 0]⟩) H := by
  have hl := lon_le n
  have hm : i / 8 < s.length := by rw [hv.1]; unfold lon; omega
  have h1 : ¬ (i : Int) < 0 := by omega
  have h2 : ¬ (i : Int) ≥ (n : Int) := by omega
  refine AC.enter Tryd.func20 rfl (by kernel_rfl) 26 rfl [.tmp 6, .cell 7 24] rfl (by simp) fun hsc B => ?_
  repeat first
    | with_reducible refine caughtP (by with_unfolding_all first | exact (hget0 rfl).trans rfl | exact (hgetk rfl).trans rfl) ?_
    | with_reducible refine caughtR ?_
    | with_reducible refine AWP.seq ?_
    | ((with_reducible refine AWP.region ?_ ?_); exact rfl)
    | with_reducible refine AWP.block ?_
    | with_reducible refine AWP.skip ?_
    | with_reducible refine AWP.exit ?_
    | with_reducible refine AWP.ret ?_
    | with_reducible refine AWP.label ?_
    | with_reducible refine AWP.goto ?_
    | ((with_reducible refine AWP.condT ?_ ?_); focus (simp only [ev, lk_cons, ↓reduceIte, Nat.reduceEqDiff]; done))
    | ((with_reducible refine AWP.condF ?_ ?_); focus (simp only [ev, lk_cons, ↓reduceIte, Nat.reduceEqDiff]; done))
    | with_reducible refine (openC n h s hv _ _ _ _ (by with_unfolding_all first | exact (hget0 rfl).trans rfl | exact (hgetk rfl).trans rfl)).use ?_
    | with_reducible refine (failF _ _).use ?_
    | with_reducible refine (has _ s _ _ i _ _ (by with_unfolding_all first | exact (hget0 rfl).trans rfl | exact (hgetk rfl).trans rfl) hm (by omega)).use ?_
    | simp only [go_sem, ↓reduceIte, Nat.reduceEqDiff, reduceCtorEq, Nat.reduceAdd, Int.reduceEq, Int.reduceBNe, Int.reduceBEq, Int.reduceToNat, Int.reduceLT, Int.reduceLE, Int.reduceGT, Int.reduceGE, Nat.reduceSub, Nat.reduceBEq, Nat.reduceBNe, Int.reduceAdd, Int.reduceSub, Int.reduceMul, Int.reduceNeg, Nat.reduceMul, Nat.reduceLeDiff, Nat.reduceLT, h1, h2]
    | simp (disch := omega) only [wi64, wu8, wu16, wu32, wu64]
    | with_reducible_and_instances exact finR
    | ((with_reducible refine finR' ?_ ?_) <;> rfl)
    | ((with_reducible refine finD hsc (NRel.of_plain ?_)); exact rfl)
theorem HasD (n : Nat) (h : n ≤ 4096) (s : List UInt8) (hv : validB n s) (i : Int) (hi : i < 0 ∨ (n : Int) ≤ i) (H : AHeap) : ARet Tryd.prog 20 [.int .i64 (n : Nat), .string (bs s), .int .i64 i] H (.tuple ⟨[.bool false, .int .i64 7]⟩) H := by
  by_cases h1 : i < 0
  · skip
    refine AC.enter Tryd.func20 rfl (by kernel_rfl) 26 rfl [.tmp 6, .cell 7 24] rfl (by simp) fun hsc B => ?_
    repeat first
      | with_reducible refine caughtP (by with_unfolding_all first | exact (hget0 rfl).trans rfl | exact (hgetk rfl).trans rfl) ?_
      | with_reducible refine caughtR ?_
      | with_reducible refine AWP.seq ?_
      | ((with_reducible refine AWP.region ?_ ?_); exact rfl)
      | with_reducible refine AWP.block ?_
      | with_reducible refine AWP.skip ?_
      | with_reducible refine AWP.exit ?_
      | with_reducible refine AWP.ret ?_
      | with_reducible refine AWP.label ?_
      | with_reducible refine AWP.goto ?_
      | ((with_reducible refine AWP.condT ?_ ?_); focus (simp only [ev, lk_cons, ↓reduceIte, Nat.reduceEqDiff]; done))
      | ((with_reducible refine AWP.condF ?_ ?_); focus (simp only [ev, lk_cons, ↓reduceIte, Nat.reduceEqDiff]; done))
      | with_reducible refine (openC n h s hv _ _ _ _ (by with_unfolding_all first | exact (hget0 rfl).trans rfl | exact (hgetk rfl).trans rfl)).use ?_
      | with_reducible refine (failT _ _).use ?_
      | simp only [go_sem, ↓reduceIte, Nat.reduceEqDiff, reduceCtorEq, Nat.reduceAdd, Int.reduceEq, Int.reduceBNe, Int.reduceBEq, Int.reduceToNat, Int.reduceLT, Int.reduceLE, Int.reduceGT, Int.reduceGE, Nat.reduceSub, Nat.reduceBEq, Nat.reduceBNe, Int.reduceAdd, Int.reduceSub, Int.reduceMul, Int.reduceNeg, Nat.reduceMul, Nat.reduceLeDiff, Nat.reduceLT, h1]
      | simp (disch := omega) only [wi64, wu8, wu16, wu32, wu64]
      | with_reducible_and_instances exact finR
      | ((with_reducible refine finR' ?_ ?_) <;> rfl)
      | ((with_reducible refine finD hsc (NRel.of_plain ?_)); exact rfl)
  · have h2 : i ≥ (n : Int) := by omega
    refine AC.enter Tryd.func20 rfl (by kernel_rfl) 26 rfl [.tmp 6, .cell 7 24] rfl (by simp) fun hsc B => ?_
    repeat first
      | with_reducible refine caughtP (by with_unfolding_all first | exact (hget0 rfl).trans rfl | exact (hgetk rfl).trans rfl) ?_
      | with_reducible refine caughtR ?_
      | with_reducible refine AWP.seq ?_
      | ((with_reducible refine AWP.region ?_ ?_); exact rfl)
      | with_reducible refine AWP.block ?_
      | with_reducible refine AWP.skip ?_
      | with_reducible refine AWP.exit ?_
      | with_reducible refine AWP.ret ?_
      | with_reducible refine AWP.label ?_
      | with_reducible refine AWP.goto ?_
      | ((with_reducible refine AWP.condT ?_ ?_); focus (simp only [ev, lk_cons, ↓reduceIte, Nat.reduceEqDiff]; done))
      | ((with_reducible refine AWP.condF ?_ ?_); focus (simp only [ev, lk_cons, ↓reduceIte, Nat.reduceEqDiff]; done))
      | with_reducible refine (openC n h s hv _ _ _ _ (by with_unfolding_all first | exact (hget0 rfl).trans rfl | exact (hgetk rfl).trans rfl)).use ?_
      | with_reducible refine (failT _ _).use ?_
      | simp only [go_sem, ↓reduceIte, Nat.reduceEqDiff, reduceCtorEq, Nat.reduceAdd, Int.reduceEq, Int.reduceBNe, Int.reduceBEq, Int.reduceToNat, Int.reduceLT, Int.reduceLE, Int.reduceGT, Int.reduceGE, Nat.reduceSub, Nat.reduceBEq, Nat.reduceBNe, Int.reduceAdd, Int.reduceSub, Int.reduceMul, Int.reduceNeg, Nat.reduceMul, Nat.reduceLeDiff, Nat.reduceLT, h1, h2]
      | simp (disch := omega) only [wi64, wu8, wu16, wu32, wu64]
      | with_reducible_and_instances exact finR
      | ((with_reducible refine finR' ?_ ?_) <;> rfl)
      | ((with_reducible refine finD hsc (NRel.of_plain ?_)); exact rfl)
theorem SetC (n : Nat) (h : n ≤ 4096) (s : List UInt8) (hv : validB n s) (i : Nat) (hi : i < n) (b : Bool) (H : AHeap) : ARet Tryd.prog 22 [.int .i64 (n : Nat), .string (bs s), .int .i64 (i : Nat), .bool b] H (.tuple ⟨[.string (bs (setB s i b)), .int .i64 0]⟩) H := by
  have hl := lon_le n
  have hm : i / 8 < s.length := by rw [hv.1]; unfold lon; omega
  have h1 : ¬ (i : Int) < 0 := by omega
  have h2 : ¬ (i : Int) ≥ (n : Int) := by omega
  have hle : s.length ≤ (setB s i b).length := by rw [setB_len]; omega
  have ht : List.take s.length (setB s i b) = setB s i b := List.take_of_length_le (by rw [setB_len]; omega)
  refine AC.enter Tryd.func22 rfl (by kernel_rfl) 32 rfl [.tmp 8, .cell 9 24] rfl (by simp) fun hsc B => ?_
  repeat first
    | with_reducible refine caughtP (by with_unfolding_all first | exact (hget0 rfl).trans rfl | exact (hgetk rfl).trans rfl) ?_
    | with_reducible refine caughtR ?_
    | with_reducible refine AWP.seq ?_
    | ((with_reducible refine AWP.region ?_ ?_); exact rfl)
    | with_reducible refine AWP.block ?_
    | with_reducible refine AWP.skip ?_
    | with_reducible refine AWP.exit ?_
    | with_reducible refine AWP.ret ?_
    | with_reducible refine AWP.label ?_
    | with_reducible refine AWP.goto ?_
    | ((with_reducible refine AWP.condT ?_ ?_); focus (simp only [ev, lk_cons, ↓reduceIte, Nat.reduceEqDiff]; done))
    | ((with_reducible refine AWP.condF ?_ ?_); focus (simp only [ev, lk_cons, ↓reduceIte, Nat.reduceEqDiff]; done))
    | with_reducible refine (openC n h s hv _ _ _ _ (by with_unfolding_all first | exact (hget0 rfl).trans rfl | exact (hgetk rfl).trans rfl)).use ?_
    | with_reducible refine (failF _ _).use ?_
    | with_reducible refine (set _ s _ _ i _ b _ (by with_unfolding_all first | exact (hget0 rfl).trans rfl | exact (hgetk rfl).trans rfl) ⟨rfl, rfl⟩ hm (by omega)).use ?_
    | simp only [go_sem, ↓reduceIte, Nat.reduceEqDiff, reduceCtorEq, Nat.reduceAdd, Int.reduceEq, Int.reduceBNe, Int.reduceBEq, Int.reduceToNat, Int.reduceLT, Int.reduceLE, Int.reduceGT, Int.reduceGE, Nat.reduceSub, Nat.reduceBEq, Nat.reduceBNe, Int.reduceAdd, Int.reduceSub, Int.reduceMul, Int.reduceNeg, Nat.reduceMul, Nat.reduceLeDiff, Nat.reduceLT, h1, h2, hle, ht]
    | simp (disch := omega) only [wi64, wu8, wu16, wu32, wu64]
    | with_reducible_and_instances exact finR
    | ((with_reducible refine finR' ?_ ?_) <;> rfl)
    | ((with_reducible refine finD hsc (NRel.of_plain ?_)); exact rfl)
theorem SetD (n : Nat) (h : n ≤ 4096) (s : List UInt8) (hv : validB n s) (i : Int) (hi : i < 0 ∨ (n : Int) ≤ i) (b : Bool) (H : AHeap) : ARet Tryd.prog 22 [.int .i64 (n : Nat), .string (bs s), .int .i64 i, .bool b] H (.tuple ⟨[.string (bs []), .int .i64 7]⟩) H := by
  by_cases h1 : i < 0
  · skip
    refine AC.enter Tryd.func22 rfl (by kernel_rfl) 32 rfl [.tmp 8, .cell 9 24] rfl (by simp) fun hsc B => ?_
    repeat first
      | with_reducible refine caughtP (by with_unfolding_all first | exact (hget0 rfl).trans rfl | exact (hgetk rfl).trans rfl) ?_
      | with_reducible refine caughtR ?_
      | with_reducible refine AWP.seq ?_
      | ((with_reducible refine AWP.region ?_ ?_); exact rfl)
      | with_reducible refine AWP.block ?_
      | with_reducible refine AWP.skip ?_
      | with_reducible refine AWP.exit ?_
      | with_reducible refine AWP.ret ?_
      | with_reducible refine AWP.label ?_
      | with_reducible refine AWP.goto ?_
      | ((with_reducible refine AWP.condT ?_ ?_); focus (simp only [ev, lk_cons, ↓reduceIte, Nat.reduceEqDiff]; done))
      | ((with_reducible refine AWP.condF ?_ ?_); focus (simp only [ev, lk_cons, ↓reduceIte, Nat.reduceEqDiff]; done))
      | with_reducible refine (openC n h s hv _ _ _ _ (by with_unfolding_all first | exact (hget0 rfl).trans rfl | exact (hgetk rfl).trans rfl)).use ?_
      | with_reducible refine (failT _ _).use ?_
      | simp only [go_sem, ↓reduceIte, Nat.reduceEqDiff, reduceCtorEq, Nat.reduceAdd, Int.reduceEq, Int.reduceBNe, Int.reduceBEq, Int.reduceToNat, Int.reduceLT, Int.reduceLE, Int.reduceGT, Int.reduceGE, Nat.reduceSub, Nat.reduceBEq, Nat.reduceBNe, Int.reduceAdd, Int.reduceSub, Int.reduceMul, Int.reduceNeg, Nat.reduceMul, Nat.reduceLeDiff, Nat.reduceLT, h1]
      | simp (disch := omega) only [wi64, wu8, wu16, wu32, wu64]
      | with_reducible_and_instances exact finR
      | ((with_reducible refine finR' ?_ ?_) <;> rfl)
      | ((with_reducible refine finD hsc (NRel.of_plain ?_)); exact rfl)
  · have h2 : i ≥ (n : Int) := by omega
    refine AC.enter Tryd.func22 rfl (by kernel_rfl) 32 rfl [.tmp 8, .cell 9 24] rfl (by simp) fun hsc B => ?_
    repeat first
      | with_reducible refine caughtP (by with_unfolding_all first | exact (hget0 rfl).trans rfl | exact (hgetk rfl).trans rfl) ?_
      | with_reducible refine caughtR ?_
      | with_reducible refine AWP.seq ?_
      | ((with_reducible refine AWP.region ?_ ?_); exact rfl)
      | with_reducible refine AWP.block ?_
      | with_reducible refine AWP.skip ?_
      | with_reducible refine AWP.exit ?_
      | with_reducible refine AWP.ret ?_
      | with_reducible refine AWP.label ?_
      | with_reducible refine AWP.goto ?_
      | ((with_reducible refine AWP.condT ?_ ?_); focus (simp only [ev, lk_cons, ↓reduceIte, Nat.reduceEqDiff]; done))
      | ((with_reducible refine AWP.condF ?_ ?_); focus (simp only [ev, lk_cons, ↓reduceIte, Nat.reduceEqDiff]; done))
      | with_reducible refine (openC n h s hv _ _ _ _ (by with_unfolding_all first | exact (hget0 rfl).trans rfl | exact (hgetk rfl).trans rfl)).use ?_
      | with_reducible refine (failT _ _).use ?_
      | simp only [go_sem, ↓reduceIte, Nat.reduceEqDiff, reduceCtorEq, Nat.reduceAdd, Int.reduceEq, Int.reduceBNe, Int.reduceBEq, Int.reduceToNat, Int.reduceLT, Int.reduceLE, Int.reduceGT, Int.reduceGE, Nat.reduceSub, Nat.reduceBEq, Nat.reduceBNe, Int.reduceAdd, Int.reduceSub, Int.reduceMul, Int.reduceNeg, Nat.reduceMul, Nat.reduceLeDiff, Nat.reduceLT, h1, h2]
      | simp (disch := omega) only [wi64, wu8, wu16, wu32, wu64]
      | with_reducible_and_instances exact finR
      | ((with_reducible refine finR' ?_ ?_) <;> rfl)
      | ((with_reducible refine finD hsc (NRel.of_plain ?_)); exact rfl)
end Go.Proofs.YtbdlomkogpnkpaaDoor
