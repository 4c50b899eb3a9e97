/-
  A hasher's copies and pieces; the walk of HashPieces.
-/
import Derived.Test.YtdeoaadkngiilaaHC
set_option linter.unusedVariables false
set_option linter.unusedSimpArgs false
set_option maxRecDepth 20000
namespace Go.Proofs.Ytdeoaadkngiilaa
open Go Go.Aw Go.Proofs
theorem CopyN (H : AHeap) : ARet Try.prog 23 [.pointer none] H (.pointer none) H := by
  refine AC.enter Try.func23 rfl (by kernel_rfl) 9 rfl [.tmp 2] rfl (by simp) fun hsc B => ?_
  repeat first
    | with_reducible refine AWP.seq ?_
    | ((with_reducible refine AWP.region ?_ ?_); exact rfl)
    | with_reducible refine AWP.block ?_
    | with_reducible refine AWP.skip ?_
    | with_reducible refine AWP.exit ?_
    | with_reducible refine AWP.ret ?_
    | with_reducible refine AWP.label ?_
    | with_reducible refine AWP.goto ?_
    | ((with_reducible refine AWP.condT ?_ ?_); focus (simp only [ev, lk_cons, ↓reduceIte, Nat.reduceEqDiff]; done))
    | ((with_reducible refine AWP.condF ?_ ?_); focus (simp only [ev, lk_cons, ↓reduceIte, Nat.reduceEqDiff]; done))
    | simp only [go_sem, ↓reduceIte, Nat.reduceEqDiff, reduceCtorEq, Nat.reduceAdd, Int.reduceEq, Int.reduceBNe, Int.reduceBEq, Int.reduceToNat, Int.reduceLT, Int.reduceLE, Int.reduceGT, Int.reduceGE, Nat.reduceSub, Nat.reduceBEq, Nat.reduceBNe, Int.reduceAdd, Int.reduceSub, Int.reduceMul, Int.reduceNeg, Nat.reduceMul, Nat.reduceLeDiff, Nat.reduceLT]
    | simp (disch := omega) only [wi64, wu8, wu16, wu32, wu64]
    | with_reducible_and_instances exact finR
    | ((with_reducible refine finR' ?_ ?_) <;> rfl)
    | ((with_reducible refine finD hsc (NRel.of_plain ?_)); exact rfl)
theorem SumN (H : AHeap) : ARet Try.prog 24 [.pointer none] H (.string (bs [])) H := by
  refine AC.enter Try.func24 rfl (by kernel_rfl) 14 rfl [.tmp 2] rfl (by simp) fun hsc B => ?_
  repeat first
    | with_reducible refine AWP.seq ?_
    | ((with_reducible refine AWP.region ?_ ?_); exact rfl)
    | with_reducible refine AWP.block ?_
    | with_reducible refine AWP.skip ?_
    | with_reducible refine AWP.exit ?_
    | with_reducible refine AWP.ret ?_
    | with_reducible refine AWP.label ?_
    | with_reducible refine AWP.goto ?_
    | ((with_reducible refine AWP.condT ?_ ?_); focus (simp only [ev, lk_cons, ↓reduceIte, Nat.reduceEqDiff]; done))
    | ((with_reducible refine AWP.condF ?_ ?_); focus (simp only [ev, lk_cons, ↓reduceIte, Nat.reduceEqDiff]; done))
    | simp only [go_sem, ↓reduceIte, Nat.reduceEqDiff, reduceCtorEq, Nat.reduceAdd, Int.reduceEq, Int.reduceBNe, Int.reduceBEq, Int.reduceToNat, Int.reduceLT, Int.reduceLE, Int.reduceGT, Int.reduceGE, Nat.reduceSub, Nat.reduceBEq, Nat.reduceBNe, Int.reduceAdd, Int.reduceSub, Int.reduceMul, Int.reduceNeg, Nat.reduceMul, Nat.reduceLeDiff, Nat.reduceLT]
    | simp (disch := omega) only [wi64, wu8, wu16, wu32, wu64]
    | with_reducible_and_instances exact finR
    | ((with_reducible refine finR' ?_ ?_) <;> rfl)
    | ((with_reducible refine finD hsc (NRel.of_plain ?_)); exact rfl)
theorem LenN (H : AHeap) : ARet Try.prog 25 [.pointer none] H (.int .i64 0) H := by
  refine AC.enter Try.func25 rfl (by kernel_rfl) 16 rfl [.tmp 2] rfl (by simp) fun hsc B => ?_
  repeat first
    | with_reducible refine AWP.seq ?_
    | ((with_reducible refine AWP.region ?_ ?_); exact rfl)
    | with_reducible refine AWP.block ?_
    | with_reducible refine AWP.skip ?_
    | with_reducible refine AWP.exit ?_
    | with_reducible refine AWP.ret ?_
    | with_reducible refine AWP.label ?_
    | with_reducible refine AWP.goto ?_
    | ((with_reducible refine AWP.condT ?_ ?_); focus (simp only [ev, lk_cons, ↓reduceIte, Nat.reduceEqDiff]; done))
    | ((with_reducible refine AWP.condF ?_ ?_); focus (simp only [ev, lk_cons, ↓reduceIte, Nat.reduceEqDiff]; done))
    | simp only [go_sem, ↓reduceIte, Nat.reduceEqDiff, reduceCtorEq, Nat.reduceAdd, Int.reduceEq, Int.reduceBNe, Int.reduceBEq, Int.reduceToNat, Int.reduceLT, Int.reduceLE, Int.reduceGT, Int.reduceGE, Nat.reduceSub, Nat.reduceBEq, Nat.reduceBNe, Int.reduceAdd, Int.reduceSub, Int.reduceMul, Int.reduceNeg, Nat.reduceMul, Nat.reduceLeDiff, Nat.reduceLT]
    | simp (disch := omega) only [wi64, wu8, wu16, wu32, wu64]
    | with_reducible_and_instances exact finR
    | ((with_reducible refine finR' ?_ ?_) <;> rfl)
    | ((with_reducible refine finD hsc (NRel.of_plain ?_)); exact rfl)
theorem AddN (s : List UInt8) (H : AHeap) : ARet Try.prog 26 [.pointer none, .string (bs s)] H noVal H := by
  refine AC.enter Try.func26 rfl (by kernel_rfl) 21 rfl [] rfl (by simp) fun hsc B => ?_
  repeat first
    | with_reducible refine AWP.seq ?_
    | ((with_reducible refine AWP.region ?_ ?_); exact rfl)
    | with_reducible refine AWP.block ?_
    | with_reducible refine AWP.skip ?_
    | with_reducible refine AWP.exit ?_
    | with_reducible refine AWP.ret ?_
    | with_reducible refine AWP.label ?_
    | with_reducible refine AWP.goto ?_
    | ((with_reducible refine AWP.condT ?_ ?_); focus (simp only [ev, lk_cons, ↓reduceIte, Nat.reduceEqDiff]; done))
    | ((with_reducible refine AWP.condF ?_ ?_); focus (simp only [ev, lk_cons, ↓reduceIte, Nat.reduceEqDiff]; done))
    | simp only [go_sem, ↓reduceIte, Nat.reduceEqDiff, reduceCtorEq, Nat.reduceAdd, Int.reduceEq, Int.reduceBNe, Int.reduceBEq, Int.reduceToNat, Int.reduceLT, Int.reduceLE, Int.reduceGT, Int.reduceGE, Nat.reduceSub, Nat.reduceBEq, Nat.reduceBNe, Int.reduceAdd, Int.reduceSub, Int.reduceMul, Int.reduceNeg, Nat.reduceMul, Nat.reduceLeDiff, Nat.reduceLT]
    | simp (disch := omega) only [wi64, wu8, wu16, wu32, wu64]
    | with_reducible_and_instances exact finR
    | ((with_reducible refine finR' ?_ ?_) <;> rfl)
    | ((with_reducible refine finD hsc (NRel.of_plain ?_)); exact rfl)
theorem four {l : List UInt64} (h : l.length = 4) : ∃ a b c d, l = [a, b, c, d] := by
  match l, h with
  | [a, b, c, d], _ => exact ⟨a, b, c, d, rfl⟩
theorem Copy (i : Nat) (l : List UInt64) (hl : l.length = 4) (m : Nat) (H : AHeap) (hi : H[i]? = some (hObj l [.int .i64 (m : Nat)])) : ARet Try.prog 23 [.pointer (some ⟨i, 0, none⟩)] H (.pointer (some ⟨H.length, 0, none⟩)) (H ++ [hObj l [.int .i64 (m : Nat)]]) := by
  obtain ⟨a, b, c, d, rfl⟩ := four hl
  unfold hObj at hi ⊢
  simp only [u64C, List.map_cons, List.map_nil, List.cons_append, List.nil_append] at hi ⊢
  refine AC.enter Try.func23 rfl (by kernel_rfl) 9 rfl [.tmp 2] rfl (by simp) fun hsc B => ?_
  repeat first
    | with_reducible refine AWP.seq ?_
    | ((with_reducible refine AWP.region ?_ ?_); exact rfl)
    | with_reducible refine AWP.block ?_
    | with_reducible refine AWP.skip ?_
    | with_reducible refine AWP.exit ?_
    | with_reducible refine AWP.ret ?_
    | with_reducible refine AWP.label ?_
    | with_reducible refine AWP.goto ?_
    | ((with_reducible refine AWP.condT ?_ ?_); focus (simp only [ev, lk_cons, ↓reduceIte, Nat.reduceEqDiff]; done))
    | ((with_reducible refine AWP.condF ?_ ?_); focus (simp only [ev, lk_cons, ↓reduceIte, Nat.reduceEqDiff]; done))
    | simp only [go_sem, ↓reduceIte, Nat.reduceEqDiff, reduceCtorEq, Nat.reduceAdd, Int.reduceEq, Int.reduceBNe, Int.reduceBEq, Int.reduceToNat, Int.reduceLT, Int.reduceLE, Int.reduceGT, Int.reduceGE, Nat.reduceSub, Nat.reduceBEq, Nat.reduceBNe, Int.reduceAdd, Int.reduceSub, Int.reduceMul, Int.reduceNeg, Nat.reduceMul, Nat.reduceLeDiff, Nat.reduceLT, hi]
    | simp (disch := omega) only [wi64, wu8, wu16, wu32, wu64]
    | with_reducible_and_instances exact finR
    | ((with_reducible refine finR' ?_ ?_) <;> rfl)
    | ((with_reducible refine finD hsc (NRel.of_plain ?_)); exact rfl)
theorem held52 : Try.prog.stoodInHeld 52 = false := by kernel_rfl
theorem held49 : Try.prog.stoodInHeld 49 = false := by kernel_rfl
theorem LenM (i : Nat) (l : List UInt64) (hl : l.length = 4) (m : Nat) (H : AHeap) (hi : H[i]? = some (hObj l [.int .i64 (m : Nat)])) : ARet Try.prog 25 [.pointer (some ⟨i, 0, none⟩)] H (.int .i64 (m : Nat)) H := by
  obtain ⟨a, b, c, d, rfl⟩ := four hl
  unfold hObj at hi
  simp only [u64C, List.map_cons, List.map_nil, List.cons_append, List.nil_append] at hi
  have q : ∃ r, eqV Try.prog 20 52 (.agg ⟨[.int .u64 (a.toNat : Int), .int .u64 (b.toNat : Int), .int .u64 (c.toNat : Int), .int .u64 (d.toNat : Int), .int .i64 (m : Nat)]⟩) (.agg ⟨[.int .u64 0, .int .u64 0, .int .u64 0, .int .u64 0, .int .i64 0]⟩) = some r ∧ (r = true → m = 0) := by
    have u52 := Try.underlying52
    have u49 := Try.underlying49
    have u47 := Try.underlying47
    have u43 := Try.underlying43
    have u3 := Try.underlying3
    refine ⟨((a.toNat : Int) == 0 && ((b.toNat : Int) == 0 && ((c.toNat : Int) == 0 && (d.toNat : Int) == 0))) && (m : Int) == 0, by simp [eqV, eqFs, eqA, u52, u49, u47, u43, u3, held52, held49, ta52, ta49, ta47, ta43, ta3, ts52, ts49, ts47, ts43, ts3, List.range, List.range.loop], ?_⟩
    simp
  obtain ⟨r, q, hr⟩ := q
  cases r with
  | true =>
    have := hr rfl
    subst this
    rw [show ((0 : Nat) : Int) = 0 from rfl] at q hi ⊢
    refine AC.enter Try.func25 rfl (by kernel_rfl) 16 rfl [.tmp 2] rfl (by simp) fun hsc B => ?_
    repeat first
      | with_reducible refine AWP.seq ?_
      | ((with_reducible refine AWP.region ?_ ?_); exact rfl)
      | with_reducible refine AWP.block ?_
      | with_reducible refine AWP.skip ?_
      | with_reducible refine AWP.exit ?_
      | with_reducible refine AWP.ret ?_
      | with_reducible refine AWP.label ?_
      | with_reducible refine AWP.goto ?_
      | ((with_reducible refine AWP.condT ?_ ?_); focus (simp only [ev, lk_cons, ↓reduceIte, Nat.reduceEqDiff]; done))
      | ((with_reducible refine AWP.condF ?_ ?_); focus (simp only [ev, lk_cons, ↓reduceIte, Nat.reduceEqDiff]; done))
      | simp only [go_sem, ↓reduceIte, Nat.reduceEqDiff, reduceCtorEq, Nat.reduceAdd, Int.reduceEq, Int.reduceBNe, Int.reduceBEq, Int.reduceToNat, Int.reduceLT, Int.reduceLE, Int.reduceGT, Int.reduceGE, Nat.reduceSub, Nat.reduceBEq, Nat.reduceBNe, Int.reduceAdd, Int.reduceSub, Int.reduceMul, Int.reduceNeg, Nat.reduceMul, Nat.reduceLeDiff, Nat.reduceLT, hi, q]
      | simp (disch := omega) only [wi64, wu8, wu16, wu32, wu64]
      | with_reducible_and_instances exact finR
      | ((with_reducible refine finR' ?_ ?_) <;> rfl)
      | ((with_reducible refine finD hsc (NRel.of_plain ?_)); exact rfl)
  | false =>
    refine AC.enter Try.func25 rfl (by kernel_rfl) 16 rfl [.tmp 2] rfl (by simp) fun hsc B => ?_
    repeat first
      | with_reducible refine AWP.seq ?_
      | ((with_reducible refine AWP.region ?_ ?_); exact rfl)
      | with_reducible refine AWP.block ?_
      | with_reducible refine AWP.skip ?_
      | with_reducible refine AWP.exit ?_
      | with_reducible refine AWP.ret ?_
      | with_reducible refine AWP.label ?_
      | with_reducible refine AWP.goto ?_
      | ((with_reducible refine AWP.condT ?_ ?_); focus (simp only [ev, lk_cons, ↓reduceIte, Nat.reduceEqDiff]; done))
      | ((with_reducible refine AWP.condF ?_ ?_); focus (simp only [ev, lk_cons, ↓reduceIte, Nat.reduceEqDiff]; done))
      | simp only [go_sem, ↓reduceIte, Nat.reduceEqDiff, reduceCtorEq, Nat.reduceAdd, Int.reduceEq, Int.reduceBNe, Int.reduceBEq, Int.reduceToNat, Int.reduceLT, Int.reduceLE, Int.reduceGT, Int.reduceGE, Nat.reduceSub, Nat.reduceBEq, Nat.reduceBNe, Int.reduceAdd, Int.reduceSub, Int.reduceMul, Int.reduceNeg, Nat.reduceMul, Nat.reduceLeDiff, Nat.reduceLT, hi, q]
      | simp (disch := omega) only [wi64, wu8, wu16, wu32, wu64]
      | with_reducible_and_instances exact finR
      | ((with_reducible refine finR' ?_ ?_) <;> rfl)
      | ((with_reducible refine finD hsc (NRel.of_plain ?_)); exact rfl)
end Go.Proofs.Ytdeoaadkngiilaa
