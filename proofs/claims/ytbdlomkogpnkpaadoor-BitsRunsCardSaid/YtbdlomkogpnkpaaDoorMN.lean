/-
  The walk of the law BitsSets.
-/
import Derived.Test.YtbdlomkogpnkpaaDoorMM
set_option linter.unusedVariables false
set_option linter.unusedSimpArgs false
set_option maxRecDepth 20000
set_option maxHeartbeats 1000000
namespace Go.Proofs.YtbdlomkogpnkpaaDoor
open Go Go.Aw Go.Proofs Go.Shelf Go.RowKit Go.ChangeShapes
theorem Weak.two {H : AHeap} {e1 e2 : List (Nat × Value)} {n : Nat} {o1 o2 : AObj} (hn : H.length = n) (h : envIn e1 (fun v u => u = v) e2) : Weak n ⟨e1, [], H ++ ([o1] ++ [o2])⟩ ⟨e2, [], H ++ [o1, o2]⟩ := Weak.env h
theorem rJoinC (w : Nat) (hw : w < 3) (n : Nat) (h : n ≤ 4096) (a b : List UInt8) (hv : validB n a) (hv2 : validB n b) (H : AHeap) : ARet Tryd.prog 27 [.int .i64 ((w + 1 : Nat) : Int), .int .i64 (n : Nat), .string (bs a), .string (bs b)] H (.tuple ⟨[.string (bs (joinF w n a b)), .int .i64 0]⟩) H := by
  have hl := lon_le n
  have hC := fun H => rcheckC n h a hv H
  have hC2 := fun H => rcheckC n h b hv2 H
  have hF := fun v H hh => rField ((List.range n).map fun i => bopB w (bitAt a i) (bitAt b i)) (by simp; exact h) v H hh
  rw [show fieldL ((List.range n).map fun i => bopB w (bitAt a i) (bitAt b i)) = joinF w n a b from rfl] at hF
  rcases Nat.eq_zero_or_pos n with rfl | h0
  · have hC0 : ∀ H, ARet Tryd.prog 61 [.int .i64 0, .string (bs a)] H (.int .i64 0) H := fun H => hC H
    have hC20 : ∀ H, ARet Tryd.prog 61 [.int .i64 0, .string (bs b)] H (.int .i64 0) H := fun H => hC2 H
    refine AC.enter Tryd.func27 rfl (by kernel_rfl) 86 rfl [.tmp 8, .tmp 9] rfl (by simp) fun hsc B => ?_
    repeat first
      | with_reducible refine AWP.seq ?_
      | ((with_reducible refine AWP.region ?_ ?_); exact rfl)
      | with_reducible refine AWP.block ?_
      | with_reducible refine AWP.skip ?_
      | with_reducible refine AWP.exit ?_
      | with_reducible refine AWP.ret ?_
      | with_reducible refine AWP.label ?_
      | with_reducible refine AWP.goto ?_
      | ((with_reducible refine AWP.condT ?_ ?_); focus (simp only [ev, lk_cons, ↓reduceIte, Nat.reduceEqDiff]; done))
      | ((with_reducible refine AWP.condF ?_ ?_); focus (simp only [ev, lk_cons, ↓reduceIte, Nat.reduceEqDiff]; done))
      | with_reducible refine (hC0 _).use ?_
      | with_reducible refine (hC20 _).use ?_
      | with_reducible refine (rTruths0 a _).use ?_
      | with_reducible refine (rTruths0 b _).use ?_
      | simp only [go_sem, ↓reduceIte, Nat.reduceEqDiff, reduceCtorEq, Nat.reduceAdd, Int.reduceEq, Int.reduceBNe, Int.reduceBEq, Int.reduceToNat, Int.reduceLT, Int.reduceLE, Int.reduceGT, Int.reduceGE, Nat.reduceSub, Nat.reduceBEq, Nat.reduceBNe, Int.reduceAdd, Int.reduceSub, Int.reduceMul, Int.reduceNeg, Nat.reduceMul, Nat.reduceLeDiff, Nat.reduceLT]
      | simp (disch := omega) only [wi64, wu8, wu16, wu32, wu64]
      | with_reducible_and_instances exact finR
      | ((with_reducible refine finR' ?_ ?_) <;> rfl)
      | ((with_reducible refine finD hsc (NRel.of_plain ?_)); exact rfl)
    refine AWP.loopN 1 ?_
    repeat first
      | with_reducible refine AWP.seq ?_
      | ((with_reducible refine AWP.region ?_ ?_); exact rfl)
      | with_reducible refine AWP.block ?_
      | with_reducible refine AWP.skip ?_
      | with_reducible refine AWP.exit ?_
      | with_reducible refine AWP.ret ?_
      | with_reducible refine AWP.label ?_
      | with_reducible refine AWP.goto ?_
      | ((with_reducible refine AWP.condT ?_ ?_); focus (simp only [ev, lk_cons, ↓reduceIte, Nat.reduceEqDiff]; done))
      | ((with_reducible refine AWP.condF ?_ ?_); focus (simp only [ev, lk_cons, ↓reduceIte, Nat.reduceEqDiff]; done))
      | with_reducible refine (hF _ _ .nil).use ?_
      | simp only [go_sem, ↓reduceIte, Nat.reduceEqDiff, reduceCtorEq, Nat.reduceAdd, Int.reduceEq, Int.reduceBNe, Int.reduceBEq, Int.reduceToNat, Int.reduceLT, Int.reduceLE, Int.reduceGT, Int.reduceGE, Nat.reduceSub, Nat.reduceBEq, Nat.reduceBNe, Int.reduceAdd, Int.reduceSub, Int.reduceMul, Int.reduceNeg, Nat.reduceMul, Nat.reduceLeDiff, Nat.reduceLT, roundsW_s]
      | simp (disch := omega) only [wi64, wu8, wu16, wu32, wu64]
      | with_reducible_and_instances exact finR
      | ((with_reducible refine finR' ?_ ?_) <;> rfl)
      | ((with_reducible refine finD hsc (NRel.of_plain ?_)); exact rfl)
  · have hT := fun H => rTruthsP n a (by rw [hv.1]; omega) h h0 H
    have hT2 := fun H => rTruthsP n b (by rw [hv2.1]; omega) h h0 H
    refine AC.enter Tryd.func27 rfl (by kernel_rfl) 86 rfl [.tmp 8, .tmp 9] rfl (by simp) fun hsc B => ?_
    repeat first
      | with_reducible refine AWP.seq ?_
      | ((with_reducible refine AWP.region ?_ ?_); exact rfl)
      | with_reducible refine AWP.block ?_
      | with_reducible refine AWP.skip ?_
      | with_reducible refine AWP.exit ?_
      | with_reducible refine AWP.ret ?_
      | with_reducible refine AWP.label ?_
      | with_reducible refine AWP.goto ?_
      | ((with_reducible refine AWP.condT ?_ ?_); focus (simp only [ev, lk_cons, ↓reduceIte, Nat.reduceEqDiff]; done))
      | ((with_reducible refine AWP.condF ?_ ?_); focus (simp only [ev, lk_cons, ↓reduceIte, Nat.reduceEqDiff]; done))
      | with_reducible refine (hC _).use ?_
      | with_reducible refine (hC2 _).use ?_
      | with_reducible refine (hT _).use ?_
      | with_reducible refine (hT2 _).use ?_
      | simp only [go_sem, ↓reduceIte, Nat.reduceEqDiff, reduceCtorEq, Nat.reduceAdd, Int.reduceEq, Int.reduceBNe, Int.reduceBEq, Int.reduceToNat, Int.reduceLT, Int.reduceLE, Int.reduceGT, Int.reduceGE, Nat.reduceSub, Nat.reduceBEq, Nat.reduceBNe, Int.reduceAdd, Int.reduceSub, Int.reduceMul, Int.reduceNeg, Nat.reduceMul, Nat.reduceLeDiff, Nat.reduceLT]
      | simp (disch := omega) only [wi64, wu8, wu16, wu32, wu64]
      | with_reducible_and_instances exact finR
      | ((with_reducible refine finR' ?_ ?_) <;> rfl)
      | ((with_reducible refine finD hsc (NRel.of_plain ?_)); exact rfl)
    refine AWP.loopP (fun k : Nat => ⟨[(0, .int .i64 ((w + 1 : Nat) : Int)), (12, .slice (some ⟨H.length, 0, none⟩) n n), (13, .slice (some ⟨H.length + 1, 0, none⟩) n n), (34, .int .i64 (n : Nat)), (35, .int .i64 (k : Nat))], [], H ++ [.cells (boolsC (upF (fun i => bopB w (bitAt a i) (bitAt b i)) (bitAt a) n k)) ⟨4, 1, true, 0, none⟩, .cells (boolsC (truths n b)) ⟨4, 1, true, 0, none⟩]⟩)
      (fun k => k ≤ n) (fun k => n - k) 0 ?_ (Nat.zero_le _) ?_
    · rw [upF_zero]
      exact Weak.env (by simp [envIn, lk_cons, wth_some])
    intro k hk
    have hlen := upF_len (fun i => bopB w (bitAt a i) (bitAt b i)) (bitAt a) n k
    by_cases hc : k < n
    · have hc' : (k : Int) < (n : Int) := by omega
      have hg := upF_get (fun i => bopB w (bitAt a i) (bitAt b i)) (bitAt a) n k hc
      have hs := upF_set (fun i => bopB w (bitAt a i) (bitAt b i)) (bitAt a) n k hc
      have hg2 := truths_get' n b k hc
      have h3 : k + 1 ≤ n := hc
      have tl := truths_len n b
      match w, hw with
      | 0, _ =>
        have he1 : (((0 + 1 : Nat) : Int) == 1) = true := rfl
        simp only [bopB] at hs hg hlen ⊢
        cases hba : bitAt a k
        · simp only [hba, Bool.false_and] at hs hg
          repeat first
            | with_reducible refine AWP.seq ?_
            | ((with_reducible refine AWP.region ?_ ?_); exact rfl)
            | with_reducible refine AWP.block ?_
            | with_reducible refine AWP.skip ?_
            | with_reducible refine AWP.exit ?_
            | with_reducible refine AWP.ret ?_
            | with_reducible refine AWP.label ?_
            | with_reducible refine AWP.goto ?_
            | ((with_reducible refine AWP.condT ?_ ?_); focus (simp only [ev, lk_cons, ↓reduceIte, Nat.reduceEqDiff]; done))
            | ((with_reducible refine AWP.condF ?_ ?_); focus (simp only [ev, lk_cons, ↓reduceIte, Nat.reduceEqDiff]; done))
            | simp only [go_sem, ↓reduceIte, Nat.reduceEqDiff, reduceCtorEq, Nat.reduceAdd, Int.reduceEq, Int.reduceBNe, Int.reduceBEq, Int.reduceToNat, Int.reduceLT, Int.reduceLE, Int.reduceGT, Int.reduceGE, Nat.reduceSub, Nat.reduceBEq, Nat.reduceBNe, Int.reduceAdd, Int.reduceSub, Int.reduceMul, Int.reduceNeg, Nat.reduceMul, Nat.reduceLeDiff, Nat.reduceLT, hc', hg, hs, h3, hlen, hg2, boolsC_length, boolsC_get, boolsC_set, he1, tl]
            | simp (disch := omega) only [wi64, wu8, wu16, wu32, wu64]
            | with_reducible_and_instances exact finR
            | ((with_reducible refine finR' ?_ ?_) <;> rfl)
            | ((with_reducible refine finD hsc (NRel.of_plain ?_)); exact rfl)
          exact ⟨k + 1, Weak.env (by simp [envIn, lk_cons, wth_some]), by omega, by omega⟩
        · simp only [hba, Bool.true_and] at hs hg
          repeat first
            | with_reducible refine AWP.seq ?_
            | ((with_reducible refine AWP.region ?_ ?_); exact rfl)
            | with_reducible refine AWP.block ?_
            | with_reducible refine AWP.skip ?_
            | with_reducible refine AWP.exit ?_
            | with_reducible refine AWP.ret ?_
            | with_reducible refine AWP.label ?_
            | with_reducible refine AWP.goto ?_
            | ((with_reducible refine AWP.condT ?_ ?_); focus (simp only [ev, lk_cons, ↓reduceIte, Nat.reduceEqDiff]; done))
            | ((with_reducible refine AWP.condF ?_ ?_); focus (simp only [ev, lk_cons, ↓reduceIte, Nat.reduceEqDiff]; done))
            | simp only [go_sem, ↓reduceIte, Nat.reduceEqDiff, reduceCtorEq, Nat.reduceAdd, Int.reduceEq, Int.reduceBNe, Int.reduceBEq, Int.reduceToNat, Int.reduceLT, Int.reduceLE, Int.reduceGT, Int.reduceGE, Nat.reduceSub, Nat.reduceBEq, Nat.reduceBNe, Int.reduceAdd, Int.reduceSub, Int.reduceMul, Int.reduceNeg, Nat.reduceMul, Nat.reduceLeDiff, Nat.reduceLT, hc', hg, hs, h3, hlen, hg2, boolsC_length, boolsC_get, boolsC_set, he1, tl]
            | simp (disch := omega) only [wi64, wu8, wu16, wu32, wu64]
            | with_reducible_and_instances exact finR
            | ((with_reducible refine finR' ?_ ?_) <;> rfl)
            | ((with_reducible refine finD hsc (NRel.of_plain ?_)); exact rfl)
          exact ⟨k + 1, Weak.env (by simp [envIn, lk_cons, wth_some]), by omega, by omega⟩
      | 1, _ =>
        have he1 : (((1 + 1 : Nat) : Int) == 1) = false := rfl
        have he2 : (((1 + 1 : Nat) : Int) == 2) = true := rfl
        simp only [bopB] at hs hg hlen ⊢
        cases hba : bitAt a k
        · simp only [hba, Bool.false_or] at hs hg
          repeat first
            | with_reducible refine AWP.seq ?_
            | ((with_reducible refine AWP.region ?_ ?_); exact rfl)
            | with_reducible refine AWP.block ?_
            | with_reducible refine AWP.skip ?_
            | with_reducible refine AWP.exit ?_
            | with_reducible refine AWP.ret ?_
            | with_reducible refine AWP.label ?_
            | with_reducible refine AWP.goto ?_
            | ((with_reducible refine AWP.condT ?_ ?_); focus (simp only [ev, lk_cons, ↓reduceIte, Nat.reduceEqDiff]; done))
            | ((with_reducible refine AWP.condF ?_ ?_); focus (simp only [ev, lk_cons, ↓reduceIte, Nat.reduceEqDiff]; done))
            | simp only [go_sem, ↓reduceIte, Nat.reduceEqDiff, reduceCtorEq, Nat.reduceAdd, Int.reduceEq, Int.reduceBNe, Int.reduceBEq, Int.reduceToNat, Int.reduceLT, Int.reduceLE, Int.reduceGT, Int.reduceGE, Nat.reduceSub, Nat.reduceBEq, Nat.reduceBNe, Int.reduceAdd, Int.reduceSub, Int.reduceMul, Int.reduceNeg, Nat.reduceMul, Nat.reduceLeDiff, Nat.reduceLT, hc', hg, hs, h3, hlen, hg2, boolsC_length, boolsC_get, boolsC_set, he1, he2, tl]
            | simp (disch := omega) only [wi64, wu8, wu16, wu32, wu64]
            | with_reducible_and_instances exact finR
            | ((with_reducible refine finR' ?_ ?_) <;> rfl)
            | ((with_reducible refine finD hsc (NRel.of_plain ?_)); exact rfl)
          exact ⟨k + 1, Weak.env (by simp [envIn, lk_cons, wth_some]), by omega, by omega⟩
        · simp only [hba, Bool.true_or] at hs hg
          repeat first
            | with_reducible refine AWP.seq ?_
            | ((with_reducible refine AWP.region ?_ ?_); exact rfl)
            | with_reducible refine AWP.block ?_
            | with_reducible refine AWP.skip ?_
            | with_reducible refine AWP.exit ?_
            | with_reducible refine AWP.ret ?_
            | with_reducible refine AWP.label ?_
            | with_reducible refine AWP.goto ?_
            | ((with_reducible refine AWP.condT ?_ ?_); focus (simp only [ev, lk_cons, ↓reduceIte, Nat.reduceEqDiff]; done))
            | ((with_reducible refine AWP.condF ?_ ?_); focus (simp only [ev, lk_cons, ↓reduceIte, Nat.reduceEqDiff]; done))
            | simp only [go_sem, ↓reduceIte, Nat.reduceEqDiff, reduceCtorEq, Nat.reduceAdd, Int.reduceEq, Int.reduceBNe, Int.reduceBEq, Int.reduceToNat, Int.reduceLT, Int.reduceLE, Int.reduceGT, Int.reduceGE, Nat.reduceSub, Nat.reduceBEq, Nat.reduceBNe, Int.reduceAdd, Int.reduceSub, Int.reduceMul, Int.reduceNeg, Nat.reduceMul, Nat.reduceLeDiff, Nat.reduceLT, hc', hg, hs, h3, hlen, hg2, boolsC_length, boolsC_get, boolsC_set, he1, he2, tl]
            | simp (disch := omega) only [wi64, wu8, wu16, wu32, wu64]
            | with_reducible_and_instances exact finR
            | ((with_reducible refine finR' ?_ ?_) <;> rfl)
            | ((with_reducible refine finD hsc (NRel.of_plain ?_)); exact rfl)
          exact ⟨k + 1, Weak.env (by simp [envIn, lk_cons, wth_some]), by omega, by omega⟩
      | 2, _ =>
        have he1 : (((2 + 1 : Nat) : Int) == 1) = false := rfl
        have he2 : (((2 + 1 : Nat) : Int) == 2) = false := rfl
        simp only [bopB] at hs hg hlen ⊢
        cases hba : bitAt a k
        · simp only [hba, Bool.false_and] at hs hg
          repeat first
            | with_reducible refine AWP.seq ?_
            | ((with_reducible refine AWP.region ?_ ?_); exact rfl)
            | with_reducible refine AWP.block ?_
            | with_reducible refine AWP.skip ?_
            | with_reducible refine AWP.exit ?_
            | with_reducible refine AWP.ret ?_
            | with_reducible refine AWP.label ?_
            | with_reducible refine AWP.goto ?_
            | ((with_reducible refine AWP.condT ?_ ?_); focus (simp only [ev, lk_cons, ↓reduceIte, Nat.reduceEqDiff]; done))
            | ((with_reducible refine AWP.condF ?_ ?_); focus (simp only [ev, lk_cons, ↓reduceIte, Nat.reduceEqDiff]; done))
            | simp only [go_sem, ↓reduceIte, Nat.reduceEqDiff, reduceCtorEq, Nat.reduceAdd, Int.reduceEq, Int.reduceBNe, Int.reduceBEq, Int.reduceToNat, Int.reduceLT, Int.reduceLE, Int.reduceGT, Int.reduceGE, Nat.reduceSub, Nat.reduceBEq, Nat.reduceBNe, Int.reduceAdd, Int.reduceSub, Int.reduceMul, Int.reduceNeg, Nat.reduceMul, Nat.reduceLeDiff, Nat.reduceLT, hc', hg, hs, h3, hlen, hg2, boolsC_length, boolsC_get, boolsC_set, he1, he2, tl]
            | simp (disch := omega) only [wi64, wu8, wu16, wu32, wu64]
            | with_reducible_and_instances exact finR
            | ((with_reducible refine finR' ?_ ?_) <;> rfl)
            | ((with_reducible refine finD hsc (NRel.of_plain ?_)); exact rfl)
          exact ⟨k + 1, Weak.env (by simp [envIn, lk_cons, wth_some]), by omega, by omega⟩
        · simp only [hba, Bool.true_and] at hs hg
          repeat first
            | with_reducible refine AWP.seq ?_
            | ((with_reducible refine AWP.region ?_ ?_); exact rfl)
            | with_reducible refine AWP.block ?_
            | with_reducible refine AWP.skip ?_
            | with_reducible refine AWP.exit ?_
            | with_reducible refine AWP.ret ?_
            | with_reducible refine AWP.label ?_
            | with_reducible refine AWP.goto ?_
            | ((with_reducible refine AWP.condT ?_ ?_); focus (simp only [ev, lk_cons, ↓reduceIte, Nat.reduceEqDiff]; done))
            | ((with_reducible refine AWP.condF ?_ ?_); focus (simp only [ev, lk_cons, ↓reduceIte, Nat.reduceEqDiff]; done))
            | simp only [go_sem, ↓reduceIte, Nat.reduceEqDiff, reduceCtorEq, Nat.reduceAdd, Int.reduceEq, Int.reduceBNe, Int.reduceBEq, Int.reduceToNat, Int.reduceLT, Int.reduceLE, Int.reduceGT, Int.reduceGE, Nat.reduceSub, Nat.reduceBEq, Nat.reduceBNe, Int.reduceAdd, Int.reduceSub, Int.reduceMul, Int.reduceNeg, Nat.reduceMul, Nat.reduceLeDiff, Nat.reduceLT, hc', hg, hs, h3, hlen, hg2, boolsC_length, boolsC_get, boolsC_set, he1, he2, tl]
            | simp (disch := omega) only [wi64, wu8, wu16, wu32, wu64]
            | with_reducible_and_instances exact finR
            | ((with_reducible refine finR' ?_ ?_) <;> rfl)
            | ((with_reducible refine finD hsc (NRel.of_plain ?_)); exact rfl)
          exact ⟨k + 1, Weak.env (by simp [envIn, lk_cons, wth_some]), by omega, by omega⟩
    · have : k = n := by omega
      subst this
      have hc' : ¬ (k : Int) < (k : Int) := by omega
      rw [upF_all] at *
      repeat first
        | with_reducible refine AWP.seq ?_
        | ((with_reducible refine AWP.region ?_ ?_); exact rfl)
        | with_reducible refine AWP.block ?_
        | with_reducible refine AWP.skip ?_
        | with_reducible refine AWP.exit ?_
        | with_reducible refine AWP.ret ?_
        | with_reducible refine AWP.label ?_
        | with_reducible refine AWP.goto ?_
        | ((with_reducible refine AWP.condT ?_ ?_); focus (simp only [ev, lk_cons, ↓reduceIte, Nat.reduceEqDiff]; done))
        | ((with_reducible refine AWP.condF ?_ ?_); focus (simp only [ev, lk_cons, ↓reduceIte, Nat.reduceEqDiff]; done))
        | with_reducible refine (hF _ _ (.cells (by with_unfolding_all first | exact (hget0 rfl).trans rfl | exact (hgetk rfl).trans rfl) (by simp [boolsC_length]))).use ?_
        | simp only [go_sem, ↓reduceIte, Nat.reduceEqDiff, reduceCtorEq, Nat.reduceAdd, Int.reduceEq, Int.reduceBNe, Int.reduceBEq, Int.reduceToNat, Int.reduceLT, Int.reduceLE, Int.reduceGT, Int.reduceGE, Nat.reduceSub, Nat.reduceBEq, Nat.reduceBNe, Int.reduceAdd, Int.reduceSub, Int.reduceMul, Int.reduceNeg, Nat.reduceMul, Nat.reduceLeDiff, Nat.reduceLT, hc']
        | simp (disch := omega) only [wi64, wu8, wu16, wu32, wu64]
        | with_reducible_and_instances exact finR
        | ((with_reducible refine finR' ?_ ?_) <;> rfl)
        | ((with_reducible refine finD hsc (NRel.of_plain ?_)); exact rfl)
theorem rJ1 (n : Nat) (h : n ≤ 4096) (a b : List UInt8) (hv : validB n a) (hv2 : validB n b) (H : AHeap) : ARet Tryd.prog 27 [.int .i64 1, .int .i64 (n : Nat), .string (bs a), .string (bs b)] H (.tuple ⟨[.string (bs (joinF 0 n a b)), .int .i64 0]⟩) H := rJoinC 0 (by decide) n h a b hv hv2 H
theorem rJ2 (n : Nat) (h : n ≤ 4096) (a b : List UInt8) (hv : validB n a) (hv2 : validB n b) (H : AHeap) : ARet Tryd.prog 27 [.int .i64 2, .int .i64 (n : Nat), .string (bs a), .string (bs b)] H (.tuple ⟨[.string (bs (joinF 1 n a b)), .int .i64 0]⟩) H := rJoinC 1 (by decide) n h a b hv hv2 H
theorem rJ3 (n : Nat) (h : n ≤ 4096) (a b : List UInt8) (hv : validB n a) (hv2 : validB n b) (H : AHeap) : ARet Tryd.prog 27 [.int .i64 3, .int .i64 (n : Nat), .string (bs a), .string (bs b)] H (.tuple ⟨[.string (bs (joinF 2 n a b)), .int .i64 0]⟩) H := rJoinC 2 (by decide) n h a b hv hv2 H
theorem rN (n : Nat) (h : n ≤ 4096) (a : List UInt8) (hv : validB n a) (H : AHeap) : ARet Tryd.prog 31 [.int .i64 (n : Nat), .string (bs a)] H (.tuple ⟨[.string (bs (notF n a)), .int .i64 0]⟩) H := rNotC n h a hv H
theorem lawSets (n : Int) (a b : List UInt8) (hs : a.length < 140737488355328) (ht : b.length < 140737488355328) (H : AHeap) : ARet Tryd.prog 5 [.int .i64 n, .string (bs a), .string (bs b)] H (.bool true) H := by
  have hLt := fun H => Light n a H
  have hLt2 := fun H => Light n b H
  by_cases hl : n < 5000 ∧ a.length < 700
  · simp only [decide_eq_true hl] at hLt
    by_cases hl2 : n < 5000 ∧ b.length < 700
    · simp only [decide_eq_true hl2] at hLt2
      by_cases hn : okN n
      · obtain ⟨N, rfl⟩ : ∃ N : Nat, n = N := ⟨n.toNat, by unfold okN at hn; omega⟩
        have hN : N ≤ 4096 := by unfold okN at hn; omega
        by_cases hv : validB N a
        · by_cases hv2 : validB N b
          · have h1 := fun H => AndC N hN a _ hv (notF_valid N b) H
            rw [and_not] at h1
            have h2 := fun H => OrC N hN _ _ (joinF_valid 0 N a b) (joinF_valid 2 N a b) H
            rw [or_parts hv] at h2
            refine AC.enter Tryd.func5 rfl (by kernel_rfl) 171 rfl [.tmp 6] rfl (by simp) fun hsc B => ?_
            repeat first
              | with_reducible refine AWP.seq ?_
              | ((with_reducible refine AWP.region ?_ ?_); exact rfl)
              | with_reducible refine AWP.block ?_
              | with_reducible refine AWP.skip ?_
              | with_reducible refine AWP.exit ?_
              | with_reducible refine AWP.ret ?_
              | with_reducible refine AWP.label ?_
              | with_reducible refine AWP.goto ?_
              | ((with_reducible refine AWP.condT ?_ ?_); focus (simp only [ev, lk_cons, ↓reduceIte, Nat.reduceEqDiff]; done))
              | ((with_reducible refine AWP.condF ?_ ?_); focus (simp only [ev, lk_cons, ↓reduceIte, Nat.reduceEqDiff]; done))
              | with_reducible refine (hLt _).use ?_
              | with_reducible refine (hLt2 _).use ?_
              | with_reducible refine (AndC N hN a b hv hv2 _).use ?_
              | with_reducible refine (OrC N hN a b hv hv2 _).use ?_
              | with_reducible refine (WithoutC N hN a b hv hv2 _).use ?_
              | with_reducible refine (rJ1 N hN a b hv hv2 _).use ?_
              | with_reducible refine (rJ2 N hN a b hv hv2 _).use ?_
              | with_reducible refine (rJ3 N hN a b hv hv2 _).use ?_
              | with_reducible refine (NotC N hN a hv _).use ?_
              | with_reducible refine (rN N hN a hv _).use ?_
              | with_reducible refine (NotC N hN b hv2 _).use ?_
              | with_reducible refine (h1 _).use ?_
              | with_reducible refine (h2 _).use ?_
              | with_reducible refine (awake _).use ?_
              | simp only [go_sem, ↓reduceIte, Nat.reduceEqDiff, reduceCtorEq, Nat.reduceAdd, Int.reduceEq, Int.reduceBNe, Int.reduceBEq, Int.reduceToNat, Int.reduceLT, Int.reduceLE, Int.reduceGT, Int.reduceGE, Nat.reduceSub, Nat.reduceBEq, Nat.reduceBNe, Int.reduceAdd, Int.reduceSub, Int.reduceMul, Int.reduceNeg, Nat.reduceMul, Nat.reduceLeDiff, Nat.reduceLT, b1, b2, b4]
              | simp (disch := omega) only [wi64, wu8, wu16, wu32, wu64]
              | with_reducible_and_instances exact finR
              | ((with_reducible refine finR' ?_ ?_) <;> rfl)
              | ((with_reducible refine finD hsc (NRel.of_plain ?_)); exact rfl)
          · skip
            refine AC.enter Tryd.func5 rfl (by kernel_rfl) 171 rfl [.tmp 6] rfl (by simp) fun hsc B => ?_
            repeat first
              | with_reducible refine AWP.seq ?_
              | ((with_reducible refine AWP.region ?_ ?_); exact rfl)
              | with_reducible refine AWP.block ?_
              | with_reducible refine AWP.skip ?_
              | with_reducible refine AWP.exit ?_
              | with_reducible refine AWP.ret ?_
              | with_reducible refine AWP.label ?_
              | with_reducible refine AWP.goto ?_
              | ((with_reducible refine AWP.condT ?_ ?_); focus (simp only [ev, lk_cons, ↓reduceIte, Nat.reduceEqDiff]; done))
              | ((with_reducible refine AWP.condF ?_ ?_); focus (simp only [ev, lk_cons, ↓reduceIte, Nat.reduceEqDiff]; done))
              | with_reducible refine (hLt _).use ?_
              | with_reducible refine (hLt2 _).use ?_
              | with_reducible refine (AndB2 N hN a b hv ht hv2 _).use ?_
              | with_reducible refine (OrB2 N hN a b hv ht hv2 _).use ?_
              | with_reducible refine (WithoutB2 N hN a b hv ht hv2 _).use ?_
              | with_reducible refine (rJoinB2 _ N hN a b ht hv hv2 _).use ?_
              | with_reducible refine (NotC N hN a hv _).use ?_
              | with_reducible refine (rN N hN a hv _).use ?_
              | with_reducible refine (awake _).use ?_
              | simp only [go_sem, ↓reduceIte, Nat.reduceEqDiff, reduceCtorEq, Nat.reduceAdd, Int.reduceEq, Int.reduceBNe, Int.reduceBEq, Int.reduceToNat, Int.reduceLT, Int.reduceLE, Int.reduceGT, Int.reduceGE, Nat.reduceSub, Nat.reduceBEq, Nat.reduceBNe, Int.reduceAdd, Int.reduceSub, Int.reduceMul, Int.reduceNeg, Nat.reduceMul, Nat.reduceLeDiff, Nat.reduceLT, b1, b2, b4]
              | simp (disch := omega) only [wi64, wu8, wu16, wu32, wu64]
              | with_reducible_and_instances exact finR
              | ((with_reducible refine finR' ?_ ?_) <;> rfl)
              | ((with_reducible refine finD hsc (NRel.of_plain ?_)); exact rfl)
        · skip
          refine AC.enter Tryd.func5 rfl (by kernel_rfl) 171 rfl [.tmp 6] rfl (by simp) fun hsc B => ?_
          repeat first
            | with_reducible refine AWP.seq ?_
            | ((with_reducible refine AWP.region ?_ ?_); exact rfl)
            | with_reducible refine AWP.block ?_
            | with_reducible refine AWP.skip ?_
            | with_reducible refine AWP.exit ?_
            | with_reducible refine AWP.ret ?_
            | with_reducible refine AWP.label ?_
            | with_reducible refine AWP.goto ?_
            | ((with_reducible refine AWP.condT ?_ ?_); focus (simp only [ev, lk_cons, ↓reduceIte, Nat.reduceEqDiff]; done))
            | ((with_reducible refine AWP.condF ?_ ?_); focus (simp only [ev, lk_cons, ↓reduceIte, Nat.reduceEqDiff]; done))
            | with_reducible refine (hLt _).use ?_
            | with_reducible refine (hLt2 _).use ?_
            | with_reducible refine (AndB N hN a b hs hv _).use ?_
            | with_reducible refine (OrB N hN a b hs hv _).use ?_
            | with_reducible refine (WithoutB N hN a b hs hv _).use ?_
            | with_reducible refine (rJoinB _ N hN a b hs hv _).use ?_
            | with_reducible refine (NotB N hN a hs hv _).use ?_
            | with_reducible refine (rNotB N hN a hs hv _).use ?_
            | with_reducible refine (awake _).use ?_
            | simp only [go_sem, ↓reduceIte, Nat.reduceEqDiff, reduceCtorEq, Nat.reduceAdd, Int.reduceEq, Int.reduceBNe, Int.reduceBEq, Int.reduceToNat, Int.reduceLT, Int.reduceLE, Int.reduceGT, Int.reduceGE, Nat.reduceSub, Nat.reduceBEq, Nat.reduceBNe, Int.reduceAdd, Int.reduceSub, Int.reduceMul, Int.reduceNeg, Nat.reduceMul, Nat.reduceLeDiff, Nat.reduceLT, b1, b2, b4]
            | simp (disch := omega) only [wi64, wu8, wu16, wu32, wu64]
            | with_reducible_and_instances exact finR
            | ((with_reducible refine finR' ?_ ?_) <;> rfl)
            | ((with_reducible refine finD hsc (NRel.of_plain ?_)); exact rfl)
      · skip
        refine AC.enter Tryd.func5 rfl (by kernel_rfl) 171 rfl [.tmp 6] rfl (by simp) fun hsc B => ?_
        repeat first
          | with_reducible refine AWP.seq ?_
          | ((with_reducible refine AWP.region ?_ ?_); exact rfl)
          | with_reducible refine AWP.block ?_
          | with_reducible refine AWP.skip ?_
          | with_reducible refine AWP.exit ?_
          | with_reducible refine AWP.ret ?_
          | with_reducible refine AWP.label ?_
          | with_reducible refine AWP.goto ?_
          | ((with_reducible refine AWP.condT ?_ ?_); focus (simp only [ev, lk_cons, ↓reduceIte, Nat.reduceEqDiff]; done))
          | ((with_reducible refine AWP.condF ?_ ?_); focus (simp only [ev, lk_cons, ↓reduceIte, Nat.reduceEqDiff]; done))
          | with_reducible refine (hLt _).use ?_
          | with_reducible refine (hLt2 _).use ?_
          | with_reducible refine (AndA n hn a b _).use ?_
          | with_reducible refine (OrA n hn a b _).use ?_
          | with_reducible refine (WithoutA n hn a b _).use ?_
          | with_reducible refine (rJoinA _ n hn a b hs _).use ?_
          | with_reducible refine (NotA n hn a _).use ?_
          | with_reducible refine (rNotA n hn a hs _).use ?_
          | with_reducible refine (awake _).use ?_
          | simp only [go_sem, ↓reduceIte, Nat.reduceEqDiff, reduceCtorEq, Nat.reduceAdd, Int.reduceEq, Int.reduceBNe, Int.reduceBEq, Int.reduceToNat, Int.reduceLT, Int.reduceLE, Int.reduceGT, Int.reduceGE, Nat.reduceSub, Nat.reduceBEq, Nat.reduceBNe, Int.reduceAdd, Int.reduceSub, Int.reduceMul, Int.reduceNeg, Nat.reduceMul, Nat.reduceLeDiff, Nat.reduceLT, b1, b2, b4]
          | simp (disch := omega) only [wi64, wu8, wu16, wu32, wu64]
          | with_reducible_and_instances exact finR
          | ((with_reducible refine finR' ?_ ?_) <;> rfl)
          | ((with_reducible refine finD hsc (NRel.of_plain ?_)); exact rfl)
    · simp only [decide_eq_false hl2] at hLt2
      refine AC.enter Tryd.func5 rfl (by kernel_rfl) 171 rfl [.tmp 6] rfl (by simp) fun hsc B => ?_
      repeat first
        | with_reducible refine AWP.seq ?_
        | ((with_reducible refine AWP.region ?_ ?_); exact rfl)
        | with_reducible refine AWP.block ?_
        | with_reducible refine AWP.skip ?_
        | with_reducible refine AWP.exit ?_
        | with_reducible refine AWP.ret ?_
        | with_reducible refine AWP.label ?_
        | with_reducible refine AWP.goto ?_
        | ((with_reducible refine AWP.condT ?_ ?_); focus (simp only [ev, lk_cons, ↓reduceIte, Nat.reduceEqDiff]; done))
        | ((with_reducible refine AWP.condF ?_ ?_); focus (simp only [ev, lk_cons, ↓reduceIte, Nat.reduceEqDiff]; done))
        | with_reducible refine (hLt _).use ?_
        | with_reducible refine (hLt2 _).use ?_
        | with_reducible refine (awake _).use ?_
        | simp only [go_sem, ↓reduceIte, Nat.reduceEqDiff, reduceCtorEq, Nat.reduceAdd, Int.reduceEq, Int.reduceBNe, Int.reduceBEq, Int.reduceToNat, Int.reduceLT, Int.reduceLE, Int.reduceGT, Int.reduceGE, Nat.reduceSub, Nat.reduceBEq, Nat.reduceBNe, Int.reduceAdd, Int.reduceSub, Int.reduceMul, Int.reduceNeg, Nat.reduceMul, Nat.reduceLeDiff, Nat.reduceLT]
        | simp (disch := omega) only [wi64, wu8, wu16, wu32, wu64]
        | with_reducible_and_instances exact finR
        | ((with_reducible refine finR' ?_ ?_) <;> rfl)
        | ((with_reducible refine finD hsc (NRel.of_plain ?_)); exact rfl)
  · simp only [decide_eq_false hl] at hLt
    refine AC.enter Tryd.func5 rfl (by kernel_rfl) 171 rfl [.tmp 6] rfl (by simp) fun hsc B => ?_
    repeat first
      | with_reducible refine AWP.seq ?_
      | ((with_reducible refine AWP.region ?_ ?_); exact rfl)
      | with_reducible refine AWP.block ?_
      | with_reducible refine AWP.skip ?_
      | with_reducible refine AWP.exit ?_
      | with_reducible refine AWP.ret ?_
      | with_reducible refine AWP.label ?_
      | with_reducible refine AWP.goto ?_
      | ((with_reducible refine AWP.condT ?_ ?_); focus (simp only [ev, lk_cons, ↓reduceIte, Nat.reduceEqDiff]; done))
      | ((with_reducible refine AWP.condF ?_ ?_); focus (simp only [ev, lk_cons, ↓reduceIte, Nat.reduceEqDiff]; done))
      | with_reducible refine (hLt _).use ?_
      | with_reducible refine (awake _).use ?_
      | simp only [go_sem, ↓reduceIte, Nat.reduceEqDiff, reduceCtorEq, Nat.reduceAdd, Int.reduceEq, Int.reduceBNe, Int.reduceBEq, Int.reduceToNat, Int.reduceLT, Int.reduceLE, Int.reduceGT, Int.reduceGE, Nat.reduceSub, Nat.reduceBEq, Nat.reduceBNe, Int.reduceAdd, Int.reduceSub, Int.reduceMul, Int.reduceNeg, Nat.reduceMul, Nat.reduceLeDiff, Nat.reduceLT]
      | simp (disch := omega) only [wi64, wu8, wu16, wu32, wu64]
      | with_reducible_and_instances exact finR
      | ((with_reducible refine finR' ?_ ?_) <;> rfl)
      | ((with_reducible refine finD hsc (NRel.of_plain ?_)); exact rfl)
end Go.Proofs.YtbdlomkogpnkpaaDoor
