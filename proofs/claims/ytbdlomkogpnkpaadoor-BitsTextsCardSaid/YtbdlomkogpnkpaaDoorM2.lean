/-
  The walk of fields of bits: what is wrong.
-/
import Derived.Test.YtbdlomkogpnkpaaDoorM1
set_option linter.unusedVariables false
set_option linter.unusedSimpArgs false
set_option maxRecDepth 20000
namespace Go.Proofs.YtbdlomkogpnkpaaDoor
open Go Go.Aw Go.Proofs
theorem tdiv8i (n : Nat) : ((n : Int) + 7).tdiv 8 = ((lon n : Nat) : Int) := by
  rw [show (n : Int) + 7 = ((n + 7 : Nat) : Int) by omega, tdiv8]; rfl
theorem okN_iff (n : Int) : (n < 0 ∨ n > 4096) ↔ ¬ okN n := by unfold okN; omega
theorem Wrong (n : Int) (s : List UInt8) (hs : s.length < 140737488355328) (H : AHeap) : ARet Tryd.prog 12 [.int .i64 n, .string (bs s)] H (.tuple ⟨[.int .i64 (wrongR n s).1, .int .i64 (wrongR n s).2]⟩) H := by
  by_cases hn : okN n
  · obtain ⟨N, rfl⟩ : ∃ N : Nat, n = N := ⟨n.toNat, by unfold okN at hn; omega⟩
    have hN : N ≤ 4096 := by unfold okN at hn; omega
    have h1 : ¬ (N : Int) < 0 := by omega
    have h2 : ¬ (N : Int) > 4096 := by omega
    have hl := lon_le N
    by_cases hlen : s.length = lon N
    · have h3 : ((s.length : Nat) : Int) != ((lon N : Nat) : Int) ↔ False := by simp; omega
      have h3' : (((s.length : Nat) : Int) != ((lon N : Nat) : Int)) = false := by simpa using h3
      refine AC.enter Tryd.func12 rfl (by kernel_rfl) 41 rfl [.tmp 4, .tmp 5] rfl (by simp) fun hsc B => ?_
      repeat first
        | with_reducible refine AWP.seq ?_
        | ((with_reducible refine AWP.region ?_ ?_); exact rfl)
        | with_reducible refine AWP.block ?_
        | with_reducible refine AWP.skip ?_
        | with_reducible refine AWP.exit ?_
        | with_reducible refine AWP.ret ?_
        | with_reducible refine AWP.label ?_
        | with_reducible refine AWP.goto ?_
        | ((with_reducible refine AWP.condT ?_ ?_); focus (simp only [ev, lk_cons, ↓reduceIte, Nat.reduceEqDiff]; done))
        | ((with_reducible refine AWP.condF ?_ ?_); focus (simp only [ev, lk_cons, ↓reduceIte, Nat.reduceEqDiff]; done))
        | simp only [go_sem, ↓reduceIte, Nat.reduceEqDiff, reduceCtorEq, Nat.reduceAdd, Int.reduceEq, Int.reduceBNe, Int.reduceBEq, Int.reduceToNat, Int.reduceLT, Int.reduceLE, Int.reduceGT, Int.reduceGE, Nat.reduceSub, Nat.reduceBEq, Nat.reduceBNe, Int.reduceAdd, Int.reduceSub, Int.reduceMul, Int.reduceNeg, Nat.reduceMul, Nat.reduceLeDiff, Nat.reduceLT, h1, h2, tdiv8i, h3']
        | simp (disch := omega) only [wi64, wu8, wu16, wu32, wu64]
        | with_reducible_and_instances exact finR
        | ((with_reducible refine finR' ?_ ?_) <;> rfl)
        | ((with_reducible refine finD hsc (NRel.of_plain ?_)); exact rfl)
      refine AWP.loopP (fun i : Nat => ⟨[(8, .int .i64 (i : Nat)), (6, .int .i64 (lon N : Nat)), (7, .pointer (some ⟨H.length + 1, 0, none⟩))], [], H ++ [.cells (bytesC s) ⟨5, 1, true, 0, none⟩, .cells [.int .i64 (N : Nat), .slice (some ⟨H.length, 0, none⟩) s.length s.length] ⟨53, 0, true, 0, none⟩]⟩)
        (fun i => N ≤ i ∧ i ≤ 8 * lon N ∧ ∀ j, N ≤ j → j < i → bitAt s j = false) (fun i => 8 * lon N - i) N ?_ ⟨by omega, by omega, fun j a b => by omega⟩ ?_
      · exact Weak.env (by simp [envIn, lk_cons, wth_some])
      rintro i ⟨hi1, hi2, hb⟩
      by_cases hc : i < 8 * lon N
      · have hc' : (i : Int) < 8 * ((lon N : Nat) : Int) := by omega
        have hH := fun n => has n s H.length s.length i ⟨5, 1, true, 0, none⟩ (H ++ [.cells (bytesC s) ⟨5, 1, true, 0, none⟩, .cells [.int .i64 (N : Nat), .slice (some ⟨H.length, 0, none⟩) s.length s.length] ⟨53, 0, true, 0, none⟩]) (hget0 rfl) (by omega) (by omega)
        cases hbi : bitAt s i
        · simp only [hbi] at hH
          repeat first
            | with_reducible refine AWP.seq ?_
            | ((with_reducible refine AWP.region ?_ ?_); exact rfl)
            | with_reducible refine AWP.block ?_
            | with_reducible refine AWP.skip ?_
            | with_reducible refine AWP.exit ?_
            | with_reducible refine AWP.ret ?_
            | with_reducible refine AWP.label ?_
            | with_reducible refine AWP.goto ?_
            | ((with_reducible refine AWP.condT ?_ ?_); focus (simp only [ev, lk_cons, ↓reduceIte, Nat.reduceEqDiff]; done))
            | ((with_reducible refine AWP.condF ?_ ?_); focus (simp only [ev, lk_cons, ↓reduceIte, Nat.reduceEqDiff]; done))
            | with_reducible refine (hH _).use ?_
            | simp only [go_sem, ↓reduceIte, Nat.reduceEqDiff, reduceCtorEq, Nat.reduceAdd, Int.reduceEq, Int.reduceBNe, Int.reduceBEq, Int.reduceToNat, Int.reduceLT, Int.reduceLE, Int.reduceGT, Int.reduceGE, Nat.reduceSub, Nat.reduceBEq, Nat.reduceBNe, Int.reduceAdd, Int.reduceSub, Int.reduceMul, Int.reduceNeg, Nat.reduceMul, Nat.reduceLeDiff, Nat.reduceLT, hc']
            | simp (disch := omega) only [wi64, wu8, wu16, wu32, wu64]
            | with_reducible_and_instances exact finR
            | ((with_reducible refine finR' ?_ ?_) <;> rfl)
            | ((with_reducible refine finD hsc (NRel.of_plain ?_)); exact rfl)
          exact ⟨i + 1, Weak.env (by simp [envIn, lk_cons, wth_some]), by omega, by omega, fun j a b => (Nat.lt_succ_iff_lt_or_eq.1 b).elim (hb j a) (fun e => by rw [e, hbi]), by omega⟩
        · simp only [hbi] at hH
          have hr : wrongR N s = (((i : Nat) : Int), 12) := by unfold wrongR; rw [if_pos hn, Int.toNat_natCast, if_pos hlen, badAt_some hi1 hc hb hbi]
          rw [hr]
          repeat first
            | with_reducible refine AWP.seq ?_
            | ((with_reducible refine AWP.region ?_ ?_); exact rfl)
            | with_reducible refine AWP.block ?_
            | with_reducible refine AWP.skip ?_
            | with_reducible refine AWP.exit ?_
            | with_reducible refine AWP.ret ?_
            | with_reducible refine AWP.label ?_
            | with_reducible refine AWP.goto ?_
            | ((with_reducible refine AWP.condT ?_ ?_); focus (simp only [ev, lk_cons, ↓reduceIte, Nat.reduceEqDiff]; done))
            | ((with_reducible refine AWP.condF ?_ ?_); focus (simp only [ev, lk_cons, ↓reduceIte, Nat.reduceEqDiff]; done))
            | with_reducible refine (hH _).use ?_
            | simp only [go_sem, ↓reduceIte, Nat.reduceEqDiff, reduceCtorEq, Nat.reduceAdd, Int.reduceEq, Int.reduceBNe, Int.reduceBEq, Int.reduceToNat, Int.reduceLT, Int.reduceLE, Int.reduceGT, Int.reduceGE, Nat.reduceSub, Nat.reduceBEq, Nat.reduceBNe, Int.reduceAdd, Int.reduceSub, Int.reduceMul, Int.reduceNeg, Nat.reduceMul, Nat.reduceLeDiff, Nat.reduceLT, hc']
            | simp (disch := omega) only [wi64, wu8, wu16, wu32, wu64]
            | with_reducible_and_instances exact finR
            | ((with_reducible refine finR' ?_ ?_) <;> rfl)
            | ((with_reducible refine finD hsc (NRel.of_plain ?_)); exact rfl)
      · have hc' : ¬ (i : Int) < 8 * ((lon N : Nat) : Int) := by omega
        have hr : wrongR N s = (-1, 0) := by unfold wrongR; rw [if_pos hn, Int.toNat_natCast, if_pos hlen, badAt_none (fun j a b => hb j a (by omega))]
        rw [hr]
        repeat first
          | with_reducible refine AWP.seq ?_
          | ((with_reducible refine AWP.region ?_ ?_); exact rfl)
          | with_reducible refine AWP.block ?_
          | with_reducible refine AWP.skip ?_
          | with_reducible refine AWP.exit ?_
          | with_reducible refine AWP.ret ?_
          | with_reducible refine AWP.label ?_
          | with_reducible refine AWP.goto ?_
          | ((with_reducible refine AWP.condT ?_ ?_); focus (simp only [ev, lk_cons, ↓reduceIte, Nat.reduceEqDiff]; done))
          | ((with_reducible refine AWP.condF ?_ ?_); focus (simp only [ev, lk_cons, ↓reduceIte, Nat.reduceEqDiff]; done))
          | simp only [go_sem, ↓reduceIte, Nat.reduceEqDiff, reduceCtorEq, Nat.reduceAdd, Int.reduceEq, Int.reduceBNe, Int.reduceBEq, Int.reduceToNat, Int.reduceLT, Int.reduceLE, Int.reduceGT, Int.reduceGE, Nat.reduceSub, Nat.reduceBEq, Nat.reduceBNe, Int.reduceAdd, Int.reduceSub, Int.reduceMul, Int.reduceNeg, Nat.reduceMul, Nat.reduceLeDiff, Nat.reduceLT, hc']
          | simp (disch := omega) only [wi64, wu8, wu16, wu32, wu64]
          | with_reducible_and_instances exact finR
          | ((with_reducible refine finR' ?_ ?_) <;> rfl)
          | ((with_reducible refine finD hsc (NRel.of_plain ?_)); exact rfl)
    · have h3' : (((s.length : Nat) : Int) != ((lon N : Nat) : Int)) = true := by simp; omega
      have hr : wrongR N s = (((min s.length (lon N) : Nat) : Int), 11) := by unfold wrongR; rw [if_pos hn, Int.toNat_natCast, if_neg hlen]
      have hm : min ((s.length : Nat) : Int) ((lon N : Nat) : Int) = ((min s.length (lon N) : Nat) : Int) := by omega
      rw [hr]
      refine AC.enter Tryd.func12 rfl (by kernel_rfl) 41 rfl [.tmp 4, .tmp 5] rfl (by simp) fun hsc B => ?_
      repeat first
        | with_reducible refine AWP.seq ?_
        | ((with_reducible refine AWP.region ?_ ?_); exact rfl)
        | with_reducible refine AWP.block ?_
        | with_reducible refine AWP.skip ?_
        | with_reducible refine AWP.exit ?_
        | with_reducible refine AWP.ret ?_
        | with_reducible refine AWP.label ?_
        | with_reducible refine AWP.goto ?_
        | ((with_reducible refine AWP.condT ?_ ?_); focus (simp only [ev, lk_cons, ↓reduceIte, Nat.reduceEqDiff]; done))
        | ((with_reducible refine AWP.condF ?_ ?_); focus (simp only [ev, lk_cons, ↓reduceIte, Nat.reduceEqDiff]; done))
        | simp only [go_sem, ↓reduceIte, Nat.reduceEqDiff, reduceCtorEq, Nat.reduceAdd, Int.reduceEq, Int.reduceBNe, Int.reduceBEq, Int.reduceToNat, Int.reduceLT, Int.reduceLE, Int.reduceGT, Int.reduceGE, Nat.reduceSub, Nat.reduceBEq, Nat.reduceBNe, Int.reduceAdd, Int.reduceSub, Int.reduceMul, Int.reduceNeg, Nat.reduceMul, Nat.reduceLeDiff, Nat.reduceLT, h1, h2, tdiv8i, h3', minMaxW, hm]
        | simp (disch := omega) only [wi64, wu8, wu16, wu32, wu64]
        | with_reducible_and_instances exact finR
        | ((with_reducible refine finR' ?_ ?_) <;> rfl)
        | ((with_reducible refine finD hsc (NRel.of_plain ?_)); exact rfl)
  · rw [wrongR_range hn]
    by_cases h1 : n < 0
    · skip
      refine AC.enter Tryd.func12 rfl (by kernel_rfl) 41 rfl [.tmp 4, .tmp 5] rfl (by simp) fun hsc B => ?_
      repeat first
        | with_reducible refine AWP.seq ?_
        | ((with_reducible refine AWP.region ?_ ?_); exact rfl)
        | with_reducible refine AWP.block ?_
        | with_reducible refine AWP.skip ?_
        | with_reducible refine AWP.exit ?_
        | with_reducible refine AWP.ret ?_
        | with_reducible refine AWP.label ?_
        | with_reducible refine AWP.goto ?_
        | ((with_reducible refine AWP.condT ?_ ?_); focus (simp only [ev, lk_cons, ↓reduceIte, Nat.reduceEqDiff]; done))
        | ((with_reducible refine AWP.condF ?_ ?_); focus (simp only [ev, lk_cons, ↓reduceIte, Nat.reduceEqDiff]; done))
        | simp only [go_sem, ↓reduceIte, Nat.reduceEqDiff, reduceCtorEq, Nat.reduceAdd, Int.reduceEq, Int.reduceBNe, Int.reduceBEq, Int.reduceToNat, Int.reduceLT, Int.reduceLE, Int.reduceGT, Int.reduceGE, Nat.reduceSub, Nat.reduceBEq, Nat.reduceBNe, Int.reduceAdd, Int.reduceSub, Int.reduceMul, Int.reduceNeg, Nat.reduceMul, Nat.reduceLeDiff, Nat.reduceLT, h1]
        | simp (disch := omega) only [wi64, wu8, wu16, wu32, wu64]
        | with_reducible_and_instances exact finR
        | ((with_reducible refine finR' ?_ ?_) <;> rfl)
        | ((with_reducible refine finD hsc (NRel.of_plain ?_)); exact rfl)
    · have h2 : n > 4096 := by have := (okN_iff n).2 hn; omega
      refine AC.enter Tryd.func12 rfl (by kernel_rfl) 41 rfl [.tmp 4, .tmp 5] rfl (by simp) fun hsc B => ?_
      repeat first
        | with_reducible refine AWP.seq ?_
        | ((with_reducible refine AWP.region ?_ ?_); exact rfl)
        | with_reducible refine AWP.block ?_
        | with_reducible refine AWP.skip ?_
        | with_reducible refine AWP.exit ?_
        | with_reducible refine AWP.ret ?_
        | with_reducible refine AWP.label ?_
        | with_reducible refine AWP.goto ?_
        | ((with_reducible refine AWP.condT ?_ ?_); focus (simp only [ev, lk_cons, ↓reduceIte, Nat.reduceEqDiff]; done))
        | ((with_reducible refine AWP.condF ?_ ?_); focus (simp only [ev, lk_cons, ↓reduceIte, Nat.reduceEqDiff]; done))
        | simp only [go_sem, ↓reduceIte, Nat.reduceEqDiff, reduceCtorEq, Nat.reduceAdd, Int.reduceEq, Int.reduceBNe, Int.reduceBEq, Int.reduceToNat, Int.reduceLT, Int.reduceLE, Int.reduceGT, Int.reduceGE, Nat.reduceSub, Nat.reduceBEq, Nat.reduceBNe, Int.reduceAdd, Int.reduceSub, Int.reduceMul, Int.reduceNeg, Nat.reduceMul, Nat.reduceLeDiff, Nat.reduceLT, h1, h2]
        | simp (disch := omega) only [wi64, wu8, wu16, wu32, wu64]
        | with_reducible_and_instances exact finR
        | ((with_reducible refine finR' ?_ ?_) <;> rfl)
        | ((with_reducible refine finD hsc (NRel.of_plain ?_)); exact rfl)
end Go.Proofs.YtbdlomkogpnkpaaDoor
