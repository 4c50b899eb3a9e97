/-
  The walk of the laws BitsOne, BitsLists and BitsRanks.
-/
import Derived.Test.YtbdlomkogpnkpaaDoorMJ
set_option linter.unusedVariables false
set_option linter.unusedSimpArgs false
set_option maxRecDepth 20000
set_option maxHeartbeats 1000000
namespace Go.Proofs.YtbdlomkogpnkpaaDoor
open Go Go.Aw Go.Proofs Go.Shelf Go.RowKit Go.ChangeShapes
theorem b1 : ∀ z : Int, (z != z) = false := fun z => by simp
theorem b2 : ∀ l : List UInt8, (!(l == l)) = false := fun l => by simp
theorem b3 : ∀ b : Bool, (b != b) = false := fun b => by simp
theorem b4 : ∀ z : Int, (z == z) = true := fun z => by simp
theorem lawOne (n : Int) (s : List UInt8) (hs : s.length < 140737488355328) (i : Int) (tob : Bool) (H : AHeap) : ARet Tryd.prog 4 [.int .i64 n, .string (bs s), .int .i64 i, .bool tob] H (.bool true) H := by
  have hLt := fun H => Light n s H
  by_cases hl : n < 5000 ∧ s.length < 700
  · simp only [decide_eq_true hl] at hLt
    by_cases hn : okN n
    · obtain ⟨N, rfl⟩ : ∃ N : Nat, n = N := ⟨n.toNat, by unfold okN at hn; omega⟩
      have hN : N ≤ 4096 := by unfold okN at hn; omega
      by_cases hv : validB N s
      · by_cases hi : i < 0 ∨ (N : Int) < i
        · have hi2 : i < 0 ∨ (N : Int) ≤ i := by omega
          refine AC.enter Tryd.func4 rfl (by kernel_rfl) 136 rfl [.tmp 8] rfl (by simp) fun hsc B => ?_
          repeat first
            | with_reducible refine AWP.seq ?_
            | ((with_reducible refine AWP.region ?_ ?_); exact rfl)
            | with_reducible refine AWP.block ?_
            | with_reducible refine AWP.skip ?_
            | with_reducible refine AWP.exit ?_
            | with_reducible refine AWP.ret ?_
            | with_reducible refine AWP.label ?_
            | with_reducible refine AWP.goto ?_
            | ((with_reducible refine AWP.condT ?_ ?_); focus (simp only [ev, lk_cons, ↓reduceIte, Nat.reduceEqDiff]; done))
            | ((with_reducible refine AWP.condF ?_ ?_); focus (simp only [ev, lk_cons, ↓reduceIte, Nat.reduceEqDiff]; done))
            | with_reducible refine (hLt _).use ?_
            | with_reducible refine (HasD N hN s hv i hi2 _).use ?_
            | with_reducible refine (rHasD N hN s hv i hi2 _).use ?_
            | with_reducible refine (SetD N hN s hv i hi2 _ _).use ?_
            | with_reducible refine (rSetD N hN s hv i hi2 _ _).use ?_
            | with_reducible refine (NextD N hN s hv i hi _).use ?_
            | with_reducible refine (rNextD N hN s hv i hi _).use ?_
            | with_reducible refine (awake _).use ?_
            | simp only [go_sem, ↓reduceIte, Nat.reduceEqDiff, reduceCtorEq, Nat.reduceAdd, Int.reduceEq, Int.reduceBNe, Int.reduceBEq, Int.reduceToNat, Int.reduceLT, Int.reduceLE, Int.reduceGT, Int.reduceGE, Nat.reduceSub, Nat.reduceBEq, Nat.reduceBNe, Int.reduceAdd, Int.reduceSub, Int.reduceMul, Int.reduceNeg, Nat.reduceMul, Nat.reduceLeDiff, Nat.reduceLT, b1, b2, b3, b4]
            | simp (disch := omega) only [wi64, wu8, wu16, wu32, wu64]
            | with_reducible_and_instances exact finR
            | ((with_reducible refine finR' ?_ ?_) <;> rfl)
            | ((with_reducible refine finD hsc (NRel.of_plain ?_)); exact rfl)
        · obtain ⟨m, rfl⟩ : ∃ m : Nat, i = m := ⟨i.toNat, by omega⟩
          have hm : m ≤ N := by omega
          by_cases hi2 : (m : Int) < 0 ∨ (N : Int) ≤ (m : Int)
          · skip
            refine AC.enter Tryd.func4 rfl (by kernel_rfl) 136 rfl [.tmp 8] rfl (by simp) fun hsc B => ?_
            repeat first
              | with_reducible refine AWP.seq ?_
              | ((with_reducible refine AWP.region ?_ ?_); exact rfl)
              | with_reducible refine AWP.block ?_
              | with_reducible refine AWP.skip ?_
              | with_reducible refine AWP.exit ?_
              | with_reducible refine AWP.ret ?_
              | with_reducible refine AWP.label ?_
              | with_reducible refine AWP.goto ?_
              | ((with_reducible refine AWP.condT ?_ ?_); focus (simp only [ev, lk_cons, ↓reduceIte, Nat.reduceEqDiff]; done))
              | ((with_reducible refine AWP.condF ?_ ?_); focus (simp only [ev, lk_cons, ↓reduceIte, Nat.reduceEqDiff]; done))
              | with_reducible refine (hLt _).use ?_
              | with_reducible refine (HasD N hN s hv m hi2 _).use ?_
              | with_reducible refine (rHasD N hN s hv m hi2 _).use ?_
              | with_reducible refine (SetD N hN s hv m hi2 _ _).use ?_
              | with_reducible refine (rSetD N hN s hv m hi2 _ _).use ?_
              | with_reducible refine (NextC N hN s hv m hm _).use ?_
              | with_reducible refine (rNextC N hN s hv m hm _).use ?_
              | with_reducible refine (awake _).use ?_
              | simp only [go_sem, ↓reduceIte, Nat.reduceEqDiff, reduceCtorEq, Nat.reduceAdd, Int.reduceEq, Int.reduceBNe, Int.reduceBEq, Int.reduceToNat, Int.reduceLT, Int.reduceLE, Int.reduceGT, Int.reduceGE, Nat.reduceSub, Nat.reduceBEq, Nat.reduceBNe, Int.reduceAdd, Int.reduceSub, Int.reduceMul, Int.reduceNeg, Nat.reduceMul, Nat.reduceLeDiff, Nat.reduceLT, b1, b2, b3, b4]
              | simp (disch := omega) only [wi64, wu8, wu16, wu32, wu64]
              | with_reducible_and_instances exact finR
              | ((with_reducible refine finR' ?_ ?_) <;> rfl)
              | ((with_reducible refine finD hsc (NRel.of_plain ?_)); exact rfl)
          · have hmn : m < N := by omega
            have hv2 := setB_valid hv hmn tob
            have hl := lon_le N
            have e1 : bitAt (setB s m tob) m = tob := by rw [bitAt_setB _ _ _ (by rw [hv.1]; unfold lon; omega), if_pos rfl]
            have e2 : setB (setB s m tob) m (bitAt s m) = s := by rw [setB_setB hv hmn, setB_self hv hmn]
            have h1 := fun H => HasC N hN _ hv2 m hmn H
            have h2 := fun H => SetC N hN _ hv2 m hmn (bitAt s m) H
            rw [e1] at h1
            rw [e2] at h2
            refine AC.enter Tryd.func4 rfl (by kernel_rfl) 136 rfl [.tmp 8] rfl (by simp) fun hsc B => ?_
            repeat first
              | with_reducible refine AWP.seq ?_
              | ((with_reducible refine AWP.region ?_ ?_); exact rfl)
              | with_reducible refine AWP.block ?_
              | with_reducible refine AWP.skip ?_
              | with_reducible refine AWP.exit ?_
              | with_reducible refine AWP.ret ?_
              | with_reducible refine AWP.label ?_
              | with_reducible refine AWP.goto ?_
              | ((with_reducible refine AWP.condT ?_ ?_); focus (simp only [ev, lk_cons, ↓reduceIte, Nat.reduceEqDiff]; done))
              | ((with_reducible refine AWP.condF ?_ ?_); focus (simp only [ev, lk_cons, ↓reduceIte, Nat.reduceEqDiff]; done))
              | with_reducible refine (hLt _).use ?_
              | with_reducible refine (HasC N hN s hv m hmn _).use ?_
              | with_reducible refine (rHasC N hN s hv m hmn _).use ?_
              | with_reducible refine (SetC N hN s hv m hmn _ _).use ?_
              | with_reducible refine (rSetC N hN s hv m hmn _ _).use ?_
              | with_reducible refine (NextC N hN s hv m hm _).use ?_
              | with_reducible refine (rNextC N hN s hv m hm _).use ?_
              | with_reducible refine (h1 _).use ?_
              | with_reducible refine (h2 _).use ?_
              | with_reducible refine (awake _).use ?_
              | simp only [go_sem, ↓reduceIte, Nat.reduceEqDiff, reduceCtorEq, Nat.reduceAdd, Int.reduceEq, Int.reduceBNe, Int.reduceBEq, Int.reduceToNat, Int.reduceLT, Int.reduceLE, Int.reduceGT, Int.reduceGE, Nat.reduceSub, Nat.reduceBEq, Nat.reduceBNe, Int.reduceAdd, Int.reduceSub, Int.reduceMul, Int.reduceNeg, Nat.reduceMul, Nat.reduceLeDiff, Nat.reduceLT, b1, b2, b3, b4]
              | simp (disch := omega) only [wi64, wu8, wu16, wu32, wu64]
              | with_reducible_and_instances exact finR
              | ((with_reducible refine finR' ?_ ?_) <;> rfl)
              | ((with_reducible refine finD hsc (NRel.of_plain ?_)); exact rfl)
      · skip
        refine AC.enter Tryd.func4 rfl (by kernel_rfl) 136 rfl [.tmp 8] rfl (by simp) fun hsc B => ?_
        repeat first
          | with_reducible refine AWP.seq ?_
          | ((with_reducible refine AWP.region ?_ ?_); exact rfl)
          | with_reducible refine AWP.block ?_
          | with_reducible refine AWP.skip ?_
          | with_reducible refine AWP.exit ?_
          | with_reducible refine AWP.ret ?_
          | with_reducible refine AWP.label ?_
          | with_reducible refine AWP.goto ?_
          | ((with_reducible refine AWP.condT ?_ ?_); focus (simp only [ev, lk_cons, ↓reduceIte, Nat.reduceEqDiff]; done))
          | ((with_reducible refine AWP.condF ?_ ?_); focus (simp only [ev, lk_cons, ↓reduceIte, Nat.reduceEqDiff]; done))
          | with_reducible refine (hLt _).use ?_
          | with_reducible refine (HasB N hN s hs hv i _).use ?_
          | with_reducible refine (rHasB N hN s hs hv i _).use ?_
          | with_reducible refine (SetB N hN s hs hv i _ _).use ?_
          | with_reducible refine (rSetB N hN s hs hv i _ _).use ?_
          | with_reducible refine (NextB N hN s hs hv i _).use ?_
          | with_reducible refine (rNextB N hN s hs hv i _).use ?_
          | with_reducible refine (awake _).use ?_
          | simp only [go_sem, ↓reduceIte, Nat.reduceEqDiff, reduceCtorEq, Nat.reduceAdd, Int.reduceEq, Int.reduceBNe, Int.reduceBEq, Int.reduceToNat, Int.reduceLT, Int.reduceLE, Int.reduceGT, Int.reduceGE, Nat.reduceSub, Nat.reduceBEq, Nat.reduceBNe, Int.reduceAdd, Int.reduceSub, Int.reduceMul, Int.reduceNeg, Nat.reduceMul, Nat.reduceLeDiff, Nat.reduceLT, b1, b2, b3, b4]
          | simp (disch := omega) only [wi64, wu8, wu16, wu32, wu64]
          | with_reducible_and_instances exact finR
          | ((with_reducible refine finR' ?_ ?_) <;> rfl)
          | ((with_reducible refine finD hsc (NRel.of_plain ?_)); exact rfl)
    · skip
      refine AC.enter Tryd.func4 rfl (by kernel_rfl) 136 rfl [.tmp 8] rfl (by simp) fun hsc B => ?_
      repeat first
        | with_reducible refine AWP.seq ?_
        | ((with_reducible refine AWP.region ?_ ?_); exact rfl)
        | with_reducible refine AWP.block ?_
        | with_reducible refine AWP.skip ?_
        | with_reducible refine AWP.exit ?_
        | with_reducible refine AWP.ret ?_
        | with_reducible refine AWP.label ?_
        | with_reducible refine AWP.goto ?_
        | ((with_reducible refine AWP.condT ?_ ?_); focus (simp only [ev, lk_cons, ↓reduceIte, Nat.reduceEqDiff]; done))
        | ((with_reducible refine AWP.condF ?_ ?_); focus (simp only [ev, lk_cons, ↓reduceIte, Nat.reduceEqDiff]; done))
        | with_reducible refine (hLt _).use ?_
        | with_reducible refine (HasA n hn s i _).use ?_
        | with_reducible refine (rHasA n hn s hs i _).use ?_
        | with_reducible refine (SetA n hn s i _ _).use ?_
        | with_reducible refine (rSetA n hn s hs i _ _).use ?_
        | with_reducible refine (NextA n hn s i _).use ?_
        | with_reducible refine (rNextA n hn s hs i _).use ?_
        | with_reducible refine (awake _).use ?_
        | simp only [go_sem, ↓reduceIte, Nat.reduceEqDiff, reduceCtorEq, Nat.reduceAdd, Int.reduceEq, Int.reduceBNe, Int.reduceBEq, Int.reduceToNat, Int.reduceLT, Int.reduceLE, Int.reduceGT, Int.reduceGE, Nat.reduceSub, Nat.reduceBEq, Nat.reduceBNe, Int.reduceAdd, Int.reduceSub, Int.reduceMul, Int.reduceNeg, Nat.reduceMul, Nat.reduceLeDiff, Nat.reduceLT, b1, b2, b3, b4]
        | simp (disch := omega) only [wi64, wu8, wu16, wu32, wu64]
        | with_reducible_and_instances exact finR
        | ((with_reducible refine finR' ?_ ?_) <;> rfl)
        | ((with_reducible refine finD hsc (NRel.of_plain ?_)); exact rfl)
  · simp only [decide_eq_false hl] at hLt
    refine AC.enter Tryd.func4 rfl (by kernel_rfl) 136 rfl [.tmp 8] rfl (by simp) fun hsc B => ?_
    repeat first
      | with_reducible refine AWP.seq ?_
      | ((with_reducible refine AWP.region ?_ ?_); exact rfl)
      | with_reducible refine AWP.block ?_
      | with_reducible refine AWP.skip ?_
      | with_reducible refine AWP.exit ?_
      | with_reducible refine AWP.ret ?_
      | with_reducible refine AWP.label ?_
      | with_reducible refine AWP.goto ?_
      | ((with_reducible refine AWP.condT ?_ ?_); focus (simp only [ev, lk_cons, ↓reduceIte, Nat.reduceEqDiff]; done))
      | ((with_reducible refine AWP.condF ?_ ?_); focus (simp only [ev, lk_cons, ↓reduceIte, Nat.reduceEqDiff]; done))
      | with_reducible refine (hLt _).use ?_
      | with_reducible refine (awake _).use ?_
      | simp only [go_sem, ↓reduceIte, Nat.reduceEqDiff, reduceCtorEq, Nat.reduceAdd, Int.reduceEq, Int.reduceBNe, Int.reduceBEq, Int.reduceToNat, Int.reduceLT, Int.reduceLE, Int.reduceGT, Int.reduceGE, Nat.reduceSub, Nat.reduceBEq, Nat.reduceBNe, Int.reduceAdd, Int.reduceSub, Int.reduceMul, Int.reduceNeg, Nat.reduceMul, Nat.reduceLeDiff, Nat.reduceLT]
      | simp (disch := omega) only [wi64, wu8, wu16, wu32, wu64]
      | with_reducible_and_instances exact finR
      | ((with_reducible refine finR' ?_ ?_) <;> rfl)
      | ((with_reducible refine finD hsc (NRel.of_plain ?_)); exact rfl)
theorem ListP (n : Nat) (h : n ≤ 4096) (s : List UInt8) (hv : validB n s) (h0 : 0 < (allL s).length) (H : AHeap) : ARet Tryd.prog 34 [.int .i64 (n : Nat), .string (bs s)] H (.tuple ⟨[.slice (some ⟨H.length, 0, none⟩) (allL s).length (allL s).length, .int .i64 0]⟩) (H ++ [.cells (natsC (allL s)) ⟨3, 1, true, 0, none⟩]) := by
  have := ListC n h s hv H
  rwa [gS_pos h0, gO_ne (natsC_ne h0)] at this
theorem List0 (n : Nat) (h : n ≤ 4096) (s : List UInt8) (hv : validB n s) (h0 : allL s = []) (H : AHeap) : ARet Tryd.prog 34 [.int .i64 (n : Nat), .string (bs s)] H (.tuple ⟨[.slice none 0 0, .int .i64 0]⟩) (H ++ [.dead]) := by
  have := ListC n h s hv H
  rw [h0] at this
  exact this
theorem bothRank (n : Nat) (h : n ≤ 4096) (s : List UInt8) (hv : validB n s) (k : Int) : ∃ z : Int × Int, (∀ H, ARet Tryd.prog 38 [.int .i64 (n : Nat), .string (bs s), .int .i64 k] H (.tuple ⟨[.int .i64 z.1, .int .i64 z.2]⟩) H) ∧ ∀ H, ARet Tryd.prog 39 [.int .i64 (n : Nat), .string (bs s), .int .i64 k] H (.tuple ⟨[.int .i64 z.1, .int .i64 z.2]⟩) H := by
  by_cases hk : k < 0 ∨ (n : Int) < k
  · exact ⟨(0, 7), fun H => RankD n h s hv k hk H, fun H => rRankD n h s hv k hk H⟩
  · obtain ⟨m, rfl⟩ : ∃ m : Nat, k = m := ⟨k.toNat, by omega⟩
    exact ⟨((rankR (allL s) m : Nat), 0), fun H => RankC n h s hv m (by omega) H, fun H => rRankC n h s hv m (by omega) H⟩
theorem bothSelect (n : Nat) (h : n ≤ 4096) (s : List UInt8) (hv : validB n s) (k : Int) (hk2 : k ≤ 9223372036854775807) : ∃ z : Int × Int, (∀ H, ARet Tryd.prog 40 [.int .i64 (n : Nat), .string (bs s), .int .i64 k] H (.tuple ⟨[.int .i64 z.1, .int .i64 z.2]⟩) H) ∧ ∀ H, ARet Tryd.prog 41 [.int .i64 (n : Nat), .string (bs s), .int .i64 k] H (.tuple ⟨[.int .i64 z.1, .int .i64 z.2]⟩) H := by
  by_cases hk : k < 0
  · exact ⟨(0, 7), fun H => SelectD n h s hv k hk H, fun H => rSelectD n h s hv k hk H⟩
  · obtain ⟨m, rfl⟩ : ∃ m : Nat, k = m := ⟨k.toNat, by omega⟩
    exact ⟨selR (allL s) m, fun H => SelectC n h s hv m (by omega) H, fun H => rSelectC n h s hv m H⟩
theorem lawRanks (n : Int) (s : List UInt8) (hs : s.length < 140737488355328) (k : Int) (hk2 : k ≤ 9223372036854775807) (H : AHeap) : ARet Tryd.prog 7 [.int .i64 n, .string (bs s), .int .i64 k] H (.bool true) H := by
  have hLt := fun H => Light n s H
  by_cases hl : n < 5000 ∧ s.length < 700
  · simp only [decide_eq_true hl] at hLt
    by_cases hn : okN n
    · obtain ⟨N, rfl⟩ : ∃ N : Nat, n = N := ⟨n.toNat, by unfold okN at hn; omega⟩
      have hN : N ≤ 4096 := by unfold okN at hn; omega
      by_cases hv : validB N s
      · obtain ⟨z, hz1, hz2⟩ := bothRank N hN s hv k
        obtain ⟨y, hy1, hy2⟩ := bothSelect N hN s hv k hk2
        by_cases h200 : (N : Int) > 200
        · skip
          refine AC.enter Tryd.func7 rfl (by kernel_rfl) 137 rfl [.tmp 6] rfl (by simp) fun hsc B => ?_
          repeat first
            | with_reducible refine AWP.seq ?_
            | ((with_reducible refine AWP.region ?_ ?_); exact rfl)
            | with_reducible refine AWP.block ?_
            | with_reducible refine AWP.skip ?_
            | with_reducible refine AWP.exit ?_
            | with_reducible refine AWP.ret ?_
            | with_reducible refine AWP.label ?_
            | with_reducible refine AWP.goto ?_
            | ((with_reducible refine AWP.condT ?_ ?_); focus (simp only [ev, lk_cons, ↓reduceIte, Nat.reduceEqDiff]; done))
            | ((with_reducible refine AWP.condF ?_ ?_); focus (simp only [ev, lk_cons, ↓reduceIte, Nat.reduceEqDiff]; done))
            | with_reducible refine (hLt _).use ?_
            | with_reducible refine (hz1 _).use ?_
            | with_reducible refine (hz2 _).use ?_
            | with_reducible refine (hy1 _).use ?_
            | with_reducible refine (hy2 _).use ?_
            | with_reducible refine (ListC N hN s hv _).use ?_
            | with_reducible refine (awake _).use ?_
            | simp only [go_sem, ↓reduceIte, Nat.reduceEqDiff, reduceCtorEq, Nat.reduceAdd, Int.reduceEq, Int.reduceBNe, Int.reduceBEq, Int.reduceToNat, Int.reduceLT, Int.reduceLE, Int.reduceGT, Int.reduceGE, Nat.reduceSub, Nat.reduceBEq, Nat.reduceBNe, Int.reduceAdd, Int.reduceSub, Int.reduceMul, Int.reduceNeg, Nat.reduceMul, Nat.reduceLeDiff, Nat.reduceLT, b1, b4, h200]
            | simp (disch := omega) only [wi64, wu8, wu16, wu32, wu64]
            | with_reducible_and_instances exact finR
            | ((with_reducible refine finR' ?_ ?_) <;> rfl)
            | ((with_reducible refine finD hsc (NRel.of_plain ?_)); exact rfl)
        · have hal := allL_len s
          have hmem : ∀ j (hj : j < (allL s).length), (allL s)[j] < N := fun j hj => by
            have : (allL s)[j] ∈ listB N s := by rw [← allL_valid hv]; exact List.getElem_mem _
            exact List.mem_range.1 (List.mem_filter.1 this).1
          have hR := fun H => RankC N hN s hv N (Nat.le_refl _) H
          rw [rank_at (allL_sorted s) (Nat.le_refl _) (fun j hj _ => hmem j hj) (fun h => by omega)] at hR
          rcases Nat.eq_zero_or_pos (allL s).length with h0 | h0
          · have hzz : allL s = [] := List.length_eq_zero_iff.1 h0
            have hL := fun H => List0 N hN s hv hzz H
            rw [h0] at hR
            have hR0 : ∀ H, ARet Tryd.prog 38 [.int .i64 (N : Nat), .string (bs s), .int .i64 (N : Nat)] H (.tuple ⟨[.int .i64 0, .int .i64 0]⟩) H := hR
            refine AC.enter Tryd.func7 rfl (by kernel_rfl) 137 rfl [.tmp 6] rfl (by simp) fun hsc B => ?_
            repeat first
              | with_reducible refine AWP.seq ?_
              | ((with_reducible refine AWP.region ?_ ?_); exact rfl)
              | with_reducible refine AWP.block ?_
              | with_reducible refine AWP.skip ?_
              | with_reducible refine AWP.exit ?_
              | with_reducible refine AWP.ret ?_
              | with_reducible refine AWP.label ?_
              | with_reducible refine AWP.goto ?_
              | ((with_reducible refine AWP.condT ?_ ?_); focus (simp only [ev, lk_cons, ↓reduceIte, Nat.reduceEqDiff]; done))
              | ((with_reducible refine AWP.condF ?_ ?_); focus (simp only [ev, lk_cons, ↓reduceIte, Nat.reduceEqDiff]; done))
              | with_reducible refine (hLt _).use ?_
              | with_reducible refine (hz1 _).use ?_
              | with_reducible refine (hz2 _).use ?_
              | with_reducible refine (hy1 _).use ?_
              | with_reducible refine (hy2 _).use ?_
              | with_reducible refine (hL _).use ?_
              | simp only [go_sem, ↓reduceIte, Nat.reduceEqDiff, reduceCtorEq, Nat.reduceAdd, Int.reduceEq, Int.reduceBNe, Int.reduceBEq, Int.reduceToNat, Int.reduceLT, Int.reduceLE, Int.reduceGT, Int.reduceGE, Nat.reduceSub, Nat.reduceBEq, Nat.reduceBNe, Int.reduceAdd, Int.reduceSub, Int.reduceMul, Int.reduceNeg, Nat.reduceMul, Nat.reduceLeDiff, Nat.reduceLT, b1, b4, h200]
              | simp (disch := omega) only [wi64, wu8, wu16, wu32, wu64]
              | with_reducible_and_instances exact finR
              | ((with_reducible refine finR' ?_ ?_) <;> rfl)
              | ((with_reducible refine finD hsc (NRel.of_plain ?_)); exact rfl)
            refine AWP.loopN 1 ?_
            repeat first
              | with_reducible refine AWP.seq ?_
              | ((with_reducible refine AWP.region ?_ ?_); exact rfl)
              | with_reducible refine AWP.block ?_
              | with_reducible refine AWP.skip ?_
              | with_reducible refine AWP.exit ?_
              | with_reducible refine AWP.ret ?_
              | with_reducible refine AWP.label ?_
              | with_reducible refine AWP.goto ?_
              | ((with_reducible refine AWP.condT ?_ ?_); focus (simp only [ev, lk_cons, ↓reduceIte, Nat.reduceEqDiff]; done))
              | ((with_reducible refine AWP.condF ?_ ?_); focus (simp only [ev, lk_cons, ↓reduceIte, Nat.reduceEqDiff]; done))
              | with_reducible refine (hR0 _).use ?_
              | with_reducible refine (awake _).use ?_
              | simp only [go_sem, ↓reduceIte, Nat.reduceEqDiff, reduceCtorEq, Nat.reduceAdd, Int.reduceEq, Int.reduceBNe, Int.reduceBEq, Int.reduceToNat, Int.reduceLT, Int.reduceLE, Int.reduceGT, Int.reduceGE, Nat.reduceSub, Nat.reduceBEq, Nat.reduceBNe, Int.reduceAdd, Int.reduceSub, Int.reduceMul, Int.reduceNeg, Nat.reduceMul, Nat.reduceLeDiff, Nat.reduceLT, roundsW_s]
              | simp (disch := omega) only [wi64, wu8, wu16, wu32, wu64]
              | with_reducible_and_instances exact finR
              | ((with_reducible refine finR' ?_ ?_) <;> rfl)
              | ((with_reducible refine finD hsc (NRel.of_plain ?_)); exact rfl)
          · have hL := fun H => ListP N hN s hv h0 H
            refine AC.enter Tryd.func7 rfl (by kernel_rfl) 137 rfl [.tmp 6] rfl (by simp) fun hsc B => ?_
            repeat first
              | with_reducible refine AWP.seq ?_
              | ((with_reducible refine AWP.region ?_ ?_); exact rfl)
              | with_reducible refine AWP.block ?_
              | with_reducible refine AWP.skip ?_
              | with_reducible refine AWP.exit ?_
              | with_reducible refine AWP.ret ?_
              | with_reducible refine AWP.label ?_
              | with_reducible refine AWP.goto ?_
              | ((with_reducible refine AWP.condT ?_ ?_); focus (simp only [ev, lk_cons, ↓reduceIte, Nat.reduceEqDiff]; done))
              | ((with_reducible refine AWP.condF ?_ ?_); focus (simp only [ev, lk_cons, ↓reduceIte, Nat.reduceEqDiff]; done))
              | with_reducible refine (hLt _).use ?_
              | with_reducible refine (hz1 _).use ?_
              | with_reducible refine (hz2 _).use ?_
              | with_reducible refine (hy1 _).use ?_
              | with_reducible refine (hy2 _).use ?_
              | with_reducible refine (hL _).use ?_
              | simp only [go_sem, ↓reduceIte, Nat.reduceEqDiff, reduceCtorEq, Nat.reduceAdd, Int.reduceEq, Int.reduceBNe, Int.reduceBEq, Int.reduceToNat, Int.reduceLT, Int.reduceLE, Int.reduceGT, Int.reduceGE, Nat.reduceSub, Nat.reduceBEq, Nat.reduceBNe, Int.reduceAdd, Int.reduceSub, Int.reduceMul, Int.reduceNeg, Nat.reduceMul, Nat.reduceLeDiff, Nat.reduceLT, b1, b4, h200]
              | simp (disch := omega) only [wi64, wu8, wu16, wu32, wu64]
              | with_reducible_and_instances exact finR
              | ((with_reducible refine finR' ?_ ?_) <;> rfl)
              | ((with_reducible refine finD hsc (NRel.of_plain ?_)); exact rfl)
            refine AWP.loopP (fun j : Nat => ⟨[(0, .int .i64 (N : Nat)), (1, .string (bs s)), (15, .slice (some ⟨H.length, 0, none⟩) (allL s).length (allL s).length), (87, .slice (some ⟨H.length, 0, none⟩) (allL s).length (allL s).length), (88, .int .i64 ((allL s).length : Nat)), (89, .int .i64 (j : Nat))], [], H ++ [.cells (natsC (allL s)) ⟨3, 1, true, 0, none⟩]⟩)
              (fun j => j ≤ (allL s).length) (fun j => (allL s).length - j) 0 ?_ (Nat.zero_le _) ?_
            · exact Weak.env (by simp [envIn, lk_cons, wth_some])
            intro j hj
            by_cases hc : j < (allL s).length
            · have hc' : (j : Int) < ((allL s).length : Int) := by omega
              have hg : (natsC (allL s))[j]? = some (.int .i64 ((allL s)[j] : Nat)) := by rw [natsC_get, List.getElem?_eq_getElem hc]; rfl
              have h1 := fun H => RankC N hN s hv (allL s)[j] (Nat.le_of_lt (hmem j hc)) H
              rw [rank_at (allL_sorted s) hj (fun q hq hqj => List.pairwise_iff_getElem.1 (allL_sorted s) q j hq hc hqj) (fun h => Nat.le_refl _)] at h1
              have h2 := fun H => SelectC N hN s hv j (by omega) H
              have hsr : selR (allL s) j = ((((allL s)[j] : Nat) : Int), 0) := by unfold selR; rw [List.getElem?_eq_getElem hc]
              rw [hsr] at h2
              repeat first
                | with_reducible refine AWP.seq ?_
                | ((with_reducible refine AWP.region ?_ ?_); exact rfl)
                | with_reducible refine AWP.block ?_
                | with_reducible refine AWP.skip ?_
                | with_reducible refine AWP.exit ?_
                | with_reducible refine AWP.ret ?_
                | with_reducible refine AWP.label ?_
                | with_reducible refine AWP.goto ?_
                | ((with_reducible refine AWP.condT ?_ ?_); focus (simp only [ev, lk_cons, ↓reduceIte, Nat.reduceEqDiff]; done))
                | ((with_reducible refine AWP.condF ?_ ?_); focus (simp only [ev, lk_cons, ↓reduceIte, Nat.reduceEqDiff]; done))
                | with_reducible refine (h1 _).use ?_
                | with_reducible refine (h2 _).use ?_
                | simp only [go_sem, ↓reduceIte, Nat.reduceEqDiff, reduceCtorEq, Nat.reduceAdd, Int.reduceEq, Int.reduceBNe, Int.reduceBEq, Int.reduceToNat, Int.reduceLT, Int.reduceLE, Int.reduceGT, Int.reduceGE, Nat.reduceSub, Nat.reduceBEq, Nat.reduceBNe, Int.reduceAdd, Int.reduceSub, Int.reduceMul, Int.reduceNeg, Nat.reduceMul, Nat.reduceLeDiff, Nat.reduceLT, hc', hg, b1]
                | simp (disch := omega) only [wi64, wu8, wu16, wu32, wu64]
                | with_reducible_and_instances exact finR
                | ((with_reducible refine finR' ?_ ?_) <;> rfl)
                | ((with_reducible refine finD hsc (NRel.of_plain ?_)); exact rfl)
              exact ⟨j + 1, Weak.env (by simp [envIn, lk_cons, wth_some]), by omega, by omega⟩
            · have hc' : ¬ (j : Int) < ((allL s).length : Int) := by omega
              repeat first
                | with_reducible refine AWP.seq ?_
                | ((with_reducible refine AWP.region ?_ ?_); exact rfl)
                | with_reducible refine AWP.block ?_
                | with_reducible refine AWP.skip ?_
                | with_reducible refine AWP.exit ?_
                | with_reducible refine AWP.ret ?_
                | with_reducible refine AWP.label ?_
                | with_reducible refine AWP.goto ?_
                | ((with_reducible refine AWP.condT ?_ ?_); focus (simp only [ev, lk_cons, ↓reduceIte, Nat.reduceEqDiff]; done))
                | ((with_reducible refine AWP.condF ?_ ?_); focus (simp only [ev, lk_cons, ↓reduceIte, Nat.reduceEqDiff]; done))
                | with_reducible refine (hR _).use ?_
                | with_reducible refine (awake _).use ?_
                | simp only [go_sem, ↓reduceIte, Nat.reduceEqDiff, reduceCtorEq, Nat.reduceAdd, Int.reduceEq, Int.reduceBNe, Int.reduceBEq, Int.reduceToNat, Int.reduceLT, Int.reduceLE, Int.reduceGT, Int.reduceGE, Nat.reduceSub, Nat.reduceBEq, Nat.reduceBNe, Int.reduceAdd, Int.reduceSub, Int.reduceMul, Int.reduceNeg, Nat.reduceMul, Nat.reduceLeDiff, Nat.reduceLT, hc', b4]
                | simp (disch := omega) only [wi64, wu8, wu16, wu32, wu64]
                | with_reducible_and_instances exact finR
                | ((with_reducible refine finR' ?_ ?_) <;> rfl)
                | ((with_reducible refine finD hsc (NRel.of_plain ?_)); exact rfl)
      · skip
        refine AC.enter Tryd.func7 rfl (by kernel_rfl) 137 rfl [.tmp 6] rfl (by simp) fun hsc B => ?_
        repeat first
          | with_reducible refine AWP.seq ?_
          | ((with_reducible refine AWP.region ?_ ?_); exact rfl)
          | with_reducible refine AWP.block ?_
          | with_reducible refine AWP.skip ?_
          | with_reducible refine AWP.exit ?_
          | with_reducible refine AWP.ret ?_
          | with_reducible refine AWP.label ?_
          | with_reducible refine AWP.goto ?_
          | ((with_reducible refine AWP.condT ?_ ?_); focus (simp only [ev, lk_cons, ↓reduceIte, Nat.reduceEqDiff]; done))
          | ((with_reducible refine AWP.condF ?_ ?_); focus (simp only [ev, lk_cons, ↓reduceIte, Nat.reduceEqDiff]; done))
          | with_reducible refine (hLt _).use ?_
          | with_reducible refine (RankB N hN s hs hv k _).use ?_
          | with_reducible refine (rRankB N hN s hs hv k _).use ?_
          | with_reducible refine (SelectB N hN s hs hv k _).use ?_
          | with_reducible refine (rSelectB N hN s hs hv k _).use ?_
          | with_reducible refine (ListB N hN s hs hv _).use ?_
          | with_reducible refine (awake _).use ?_
          | simp only [go_sem, ↓reduceIte, Nat.reduceEqDiff, reduceCtorEq, Nat.reduceAdd, Int.reduceEq, Int.reduceBNe, Int.reduceBEq, Int.reduceToNat, Int.reduceLT, Int.reduceLE, Int.reduceGT, Int.reduceGE, Nat.reduceSub, Nat.reduceBEq, Nat.reduceBNe, Int.reduceAdd, Int.reduceSub, Int.reduceMul, Int.reduceNeg, Nat.reduceMul, Nat.reduceLeDiff, Nat.reduceLT, b1, b4]
          | simp (disch := omega) only [wi64, wu8, wu16, wu32, wu64]
          | with_reducible_and_instances exact finR
          | ((with_reducible refine finR' ?_ ?_) <;> rfl)
          | ((with_reducible refine finD hsc (NRel.of_plain ?_)); exact rfl)
    · skip
      refine AC.enter Tryd.func7 rfl (by kernel_rfl) 137 rfl [.tmp 6] rfl (by simp) fun hsc B => ?_
      repeat first
        | with_reducible refine AWP.seq ?_
        | ((with_reducible refine AWP.region ?_ ?_); exact rfl)
        | with_reducible refine AWP.block ?_
        | with_reducible refine AWP.skip ?_
        | with_reducible refine AWP.exit ?_
        | with_reducible refine AWP.ret ?_
        | with_reducible refine AWP.label ?_
        | with_reducible refine AWP.goto ?_
        | ((with_reducible refine AWP.condT ?_ ?_); focus (simp only [ev, lk_cons, ↓reduceIte, Nat.reduceEqDiff]; done))
        | ((with_reducible refine AWP.condF ?_ ?_); focus (simp only [ev, lk_cons, ↓reduceIte, Nat.reduceEqDiff]; done))
        | with_reducible refine (hLt _).use ?_
        | with_reducible refine (RankA n hn s k _).use ?_
        | with_reducible refine (rRankA n hn s hs k _).use ?_
        | with_reducible refine (SelectA n hn s k _).use ?_
        | with_reducible refine (rSelectA n hn s hs k _).use ?_
        | with_reducible refine (ListA n hn s _).use ?_
        | with_reducible refine (awake _).use ?_
        | simp only [go_sem, ↓reduceIte, Nat.reduceEqDiff, reduceCtorEq, Nat.reduceAdd, Int.reduceEq, Int.reduceBNe, Int.reduceBEq, Int.reduceToNat, Int.reduceLT, Int.reduceLE, Int.reduceGT, Int.reduceGE, Nat.reduceSub, Nat.reduceBEq, Nat.reduceBNe, Int.reduceAdd, Int.reduceSub, Int.reduceMul, Int.reduceNeg, Nat.reduceMul, Nat.reduceLeDiff, Nat.reduceLT, b1, b4]
        | simp (disch := omega) only [wi64, wu8, wu16, wu32, wu64]
        | with_reducible_and_instances exact finR
        | ((with_reducible refine finR' ?_ ?_) <;> rfl)
        | ((with_reducible refine finD hsc (NRel.of_plain ?_)); exact rfl)
  · simp only [decide_eq_false hl] at hLt
    refine AC.enter Tryd.func7 rfl (by kernel_rfl) 137 rfl [.tmp 6] rfl (by simp) fun hsc B => ?_
    repeat first
      | with_reducible refine AWP.seq ?_
      | ((with_reducible refine AWP.region ?_ ?_); exact rfl)
      | with_reducible refine AWP.block ?_
      | with_reducible refine AWP.skip ?_
      | with_reducible refine AWP.exit ?_
      | with_reducible refine AWP.ret ?_
      | with_reducible refine AWP.label ?_
      | with_reducible refine AWP.goto ?_
      | ((with_reducible refine AWP.condT ?_ ?_); focus (simp only [ev, lk_cons, ↓reduceIte, Nat.reduceEqDiff]; done))
      | ((with_reducible refine AWP.condF ?_ ?_); focus (simp only [ev, lk_cons, ↓reduceIte, Nat.reduceEqDiff]; done))
      | with_reducible refine (hLt _).use ?_
      | with_reducible refine (awake _).use ?_
      | simp only [go_sem, ↓reduceIte, Nat.reduceEqDiff, reduceCtorEq, Nat.reduceAdd, Int.reduceEq, Int.reduceBNe, Int.reduceBEq, Int.reduceToNat, Int.reduceLT, Int.reduceLE, Int.reduceGT, Int.reduceGE, Nat.reduceSub, Nat.reduceBEq, Nat.reduceBNe, Int.reduceAdd, Int.reduceSub, Int.reduceMul, Int.reduceNeg, Nat.reduceMul, Nat.reduceLeDiff, Nat.reduceLT]
      | simp (disch := omega) only [wi64, wu8, wu16, wu32, wu64]
      | with_reducible_and_instances exact finR
      | ((with_reducible refine finR' ?_ ?_) <;> rfl)
      | ((with_reducible refine finD hsc (NRel.of_plain ?_)); exact rfl)
theorem natsC_ints (l : List Nat) : natsC l = (l.map fun i => ((i : Nat) : Int)).map (Value.int .i64) := by
  rw [List.map_map]; rfl
theorem lawLists (n : Int) (l : List Int) (v : Value) (s : List UInt8) (hs : s.length < 140737488355328) (H : AHeap) (hv0 : Rd H v (l.map (Value.int .i64))) : ARet Tryd.prog 6 [.int .i64 n, v, .string (bs s)] H (.bool true) H := by
  have hLt := fun H => Light n s H
  have q1 : ∀ H' K, lenW Tryd.prog 38 v H' K = K (.int .i64 (l.length : Nat)) H' := fun H' K => by rw [hv0.lenW Tryd.underlying38, List.length_map]
  have hI0 := fun H => Ints [] (by decide) (.slice none 0 0) (.slice none 0 0) H .nil .nil
  by_cases hl : n < 5000 ∧ s.length < 700
  · simp only [decide_eq_true hl] at hLt
    by_cases h300 : (l.length : Int) > 300
    · skip
      refine AC.enter Tryd.func6 rfl (by kernel_rfl) 105 rfl [.tmp 6] rfl (by simp) fun hsc B => ?_
      repeat first
        | with_reducible refine AWP.seq ?_
        | ((with_reducible refine AWP.region ?_ ?_); exact rfl)
        | with_reducible refine AWP.block ?_
        | with_reducible refine AWP.skip ?_
        | with_reducible refine AWP.exit ?_
        | with_reducible refine AWP.ret ?_
        | with_reducible refine AWP.label ?_
        | with_reducible refine AWP.goto ?_
        | ((with_reducible refine AWP.condT ?_ ?_); focus (simp only [ev, lk_cons, ↓reduceIte, Nat.reduceEqDiff]; done))
        | ((with_reducible refine AWP.condF ?_ ?_); focus (simp only [ev, lk_cons, ↓reduceIte, Nat.reduceEqDiff]; done))
        | with_reducible refine (hLt _).use ?_
        | with_reducible refine (awake _).use ?_
        | simp only [go_sem, ↓reduceIte, Nat.reduceEqDiff, reduceCtorEq, Nat.reduceAdd, Int.reduceEq, Int.reduceBNe, Int.reduceBEq, Int.reduceToNat, Int.reduceLT, Int.reduceLE, Int.reduceGT, Int.reduceGE, Nat.reduceSub, Nat.reduceBEq, Nat.reduceBNe, Int.reduceAdd, Int.reduceSub, Int.reduceMul, Int.reduceNeg, Nat.reduceMul, Nat.reduceLeDiff, Nat.reduceLT, q1, h300]
        | simp (disch := omega) only [wi64, wu8, wu16, wu32, wu64]
        | with_reducible_and_instances exact finR
        | ((with_reducible refine finR' ?_ ?_) <;> rfl)
        | ((with_reducible refine finD hsc (NRel.of_plain ?_)); exact rfl)
    · have hll : l.length < 1099511627776 := by omega
      by_cases hn : okN n
      · obtain ⟨N, rfl⟩ : ∃ N : Nat, n = N := ⟨n.toNat, by unfold okN at hn; omega⟩
        have hN : N ≤ 4096 := by unfold okN at hn; omega
        have hO := fun (X : AHeap) => OfC N hN l hll v (H ++ X) (hv0.more X)
        have hrO := fun (X : AHeap) => rOfC N hN l hll v (H ++ X) (hv0.more X)
        have hO0 := OfC N hN l hll v H hv0
        have hrO0 := rOfC N hN l hll v H hv0
        by_cases hv : validB N s
        · have hlen2 : (natsC (allL s)).length = (allL s).length := natsC_length _
          have hal := allL_len s
          have hI := fun v w H a b => Ints ((allL s).map fun i => ((i : Nat) : Int)) (by rw [List.length_map]; omega) v w H a b
          rw [← natsC_ints] at hI
          have hO2 := fun v H a => OfC N hN ((allL s).map fun i => ((i : Nat) : Int)) (by rw [List.length_map]; omega) v H a
          rw [← natsC_ints] at hO2
          have ho := ofV_list hv
          rw [← allL_valid hv] at ho
          rw [ho] at hO2
          refine AC.enter Tryd.func6 rfl (by kernel_rfl) 105 rfl [.tmp 6] rfl (by simp) fun hsc B => ?_
          repeat first
            | with_reducible refine AWP.seq ?_
            | ((with_reducible refine AWP.region ?_ ?_); exact rfl)
            | with_reducible refine AWP.block ?_
            | with_reducible refine AWP.skip ?_
            | with_reducible refine AWP.exit ?_
            | with_reducible refine AWP.ret ?_
            | with_reducible refine AWP.label ?_
            | with_reducible refine AWP.goto ?_
            | ((with_reducible refine AWP.condT ?_ ?_); focus (simp only [ev, lk_cons, ↓reduceIte, Nat.reduceEqDiff]; done))
            | ((with_reducible refine AWP.condF ?_ ?_); focus (simp only [ev, lk_cons, ↓reduceIte, Nat.reduceEqDiff]; done))
            | with_reducible refine (hLt _).use ?_
            | with_reducible refine hO0.use ?_
            | with_reducible refine hrO0.use ?_
            | with_reducible refine (ListC N hN s hv _).use ?_
            | with_reducible refine (rListC N hN s hv _).use ?_
            | with_reducible refine (CountC N hN s hv _).use ?_
            | with_reducible refine (hI _ _ _ (.g (by with_unfolding_all first | exact (hget0 rfl).trans rfl | exact (hgetk rfl).trans rfl) hlen2.symm) (.g (by with_unfolding_all first | exact (hget0 rfl).trans rfl | exact (hgetk rfl).trans rfl) hlen2.symm)).use ?_
            | with_reducible refine (hO2 _ _ (.g (by with_unfolding_all first | exact (hget0 rfl).trans rfl | exact (hgetk rfl).trans rfl) hlen2.symm)).use ?_
            | with_reducible refine (awake _).use ?_
            | simp only [go_sem, ↓reduceIte, Nat.reduceEqDiff, reduceCtorEq, Nat.reduceAdd, Int.reduceEq, Int.reduceBNe, Int.reduceBEq, Int.reduceToNat, Int.reduceLT, Int.reduceLE, Int.reduceGT, Int.reduceGE, Nat.reduceSub, Nat.reduceBEq, Nat.reduceBNe, Int.reduceAdd, Int.reduceSub, Int.reduceMul, Int.reduceNeg, Nat.reduceMul, Nat.reduceLeDiff, Nat.reduceLT, q1, h300, b1, b2, b4]
            | simp (disch := omega) only [wi64, wu8, wu16, wu32, wu64]
            | with_reducible_and_instances exact finR
            | ((with_reducible refine finR' ?_ ?_) <;> rfl)
            | ((with_reducible refine finD hsc (NRel.of_plain ?_)); exact rfl)
        · skip
          refine AC.enter Tryd.func6 rfl (by kernel_rfl) 105 rfl [.tmp 6] rfl (by simp) fun hsc B => ?_
          repeat first
            | with_reducible refine AWP.seq ?_
            | ((with_reducible refine AWP.region ?_ ?_); exact rfl)
            | with_reducible refine AWP.block ?_
            | with_reducible refine AWP.skip ?_
            | with_reducible refine AWP.exit ?_
            | with_reducible refine AWP.ret ?_
            | with_reducible refine AWP.label ?_
            | with_reducible refine AWP.goto ?_
            | ((with_reducible refine AWP.condT ?_ ?_); focus (simp only [ev, lk_cons, ↓reduceIte, Nat.reduceEqDiff]; done))
            | ((with_reducible refine AWP.condF ?_ ?_); focus (simp only [ev, lk_cons, ↓reduceIte, Nat.reduceEqDiff]; done))
            | with_reducible refine (hLt _).use ?_
            | with_reducible refine hO0.use ?_
            | with_reducible refine hrO0.use ?_
            | with_reducible refine (ListB N hN s hs hv _).use ?_
            | with_reducible refine (rListB N hN s hs hv _).use ?_
            | with_reducible refine (CountB N hN s hs hv _).use ?_
            | with_reducible refine (hI0 _).use ?_
            | with_reducible refine (awake _).use ?_
            | simp only [go_sem, ↓reduceIte, Nat.reduceEqDiff, reduceCtorEq, Nat.reduceAdd, Int.reduceEq, Int.reduceBNe, Int.reduceBEq, Int.reduceToNat, Int.reduceLT, Int.reduceLE, Int.reduceGT, Int.reduceGE, Nat.reduceSub, Nat.reduceBEq, Nat.reduceBNe, Int.reduceAdd, Int.reduceSub, Int.reduceMul, Int.reduceNeg, Nat.reduceMul, Nat.reduceLeDiff, Nat.reduceLT, q1, h300, b1, b2, b4]
            | simp (disch := omega) only [wi64, wu8, wu16, wu32, wu64]
            | with_reducible_and_instances exact finR
            | ((with_reducible refine finR' ?_ ?_) <;> rfl)
            | ((with_reducible refine finD hsc (NRel.of_plain ?_)); exact rfl)
      · skip
        refine AC.enter Tryd.func6 rfl (by kernel_rfl) 105 rfl [.tmp 6] rfl (by simp) fun hsc B => ?_
        repeat first
          | with_reducible refine AWP.seq ?_
          | ((with_reducible refine AWP.region ?_ ?_); exact rfl)
          | with_reducible refine AWP.block ?_
          | with_reducible refine AWP.skip ?_
          | with_reducible refine AWP.exit ?_
          | with_reducible refine AWP.ret ?_
          | with_reducible refine AWP.label ?_
          | with_reducible refine AWP.goto ?_
          | ((with_reducible refine AWP.condT ?_ ?_); focus (simp only [ev, lk_cons, ↓reduceIte, Nat.reduceEqDiff]; done))
          | ((with_reducible refine AWP.condF ?_ ?_); focus (simp only [ev, lk_cons, ↓reduceIte, Nat.reduceEqDiff]; done))
          | with_reducible refine (hLt _).use ?_
          | with_reducible refine (OfA n hn v _).use ?_
          | with_reducible refine (rOfA n hn v _).use ?_
          | with_reducible refine (ListA n hn s _).use ?_
          | with_reducible refine (rListA n hn s hs _).use ?_
          | with_reducible refine (CountA n hn s _).use ?_
          | with_reducible refine (hI0 _).use ?_
          | with_reducible refine (awake _).use ?_
          | simp only [go_sem, ↓reduceIte, Nat.reduceEqDiff, reduceCtorEq, Nat.reduceAdd, Int.reduceEq, Int.reduceBNe, Int.reduceBEq, Int.reduceToNat, Int.reduceLT, Int.reduceLE, Int.reduceGT, Int.reduceGE, Nat.reduceSub, Nat.reduceBEq, Nat.reduceBNe, Int.reduceAdd, Int.reduceSub, Int.reduceMul, Int.reduceNeg, Nat.reduceMul, Nat.reduceLeDiff, Nat.reduceLT, q1, h300, b1, b2, b4]
          | simp (disch := omega) only [wi64, wu8, wu16, wu32, wu64]
          | with_reducible_and_instances exact finR
          | ((with_reducible refine finR' ?_ ?_) <;> rfl)
          | ((with_reducible refine finD hsc (NRel.of_plain ?_)); exact rfl)
  · simp only [decide_eq_false hl] at hLt
    refine AC.enter Tryd.func6 rfl (by kernel_rfl) 105 rfl [.tmp 6] rfl (by simp) fun hsc B => ?_
    repeat first
      | with_reducible refine AWP.seq ?_
      | ((with_reducible refine AWP.region ?_ ?_); exact rfl)
      | with_reducible refine AWP.block ?_
      | with_reducible refine AWP.skip ?_
      | with_reducible refine AWP.exit ?_
      | with_reducible refine AWP.ret ?_
      | with_reducible refine AWP.label ?_
      | with_reducible refine AWP.goto ?_
      | ((with_reducible refine AWP.condT ?_ ?_); focus (simp only [ev, lk_cons, ↓reduceIte, Nat.reduceEqDiff]; done))
      | ((with_reducible refine AWP.condF ?_ ?_); focus (simp only [ev, lk_cons, ↓reduceIte, Nat.reduceEqDiff]; done))
      | with_reducible refine (hLt _).use ?_
      | with_reducible refine (awake _).use ?_
      | simp only [go_sem, ↓reduceIte, Nat.reduceEqDiff, reduceCtorEq, Nat.reduceAdd, Int.reduceEq, Int.reduceBNe, Int.reduceBEq, Int.reduceToNat, Int.reduceLT, Int.reduceLE, Int.reduceGT, Int.reduceGE, Nat.reduceSub, Nat.reduceBEq, Nat.reduceBNe, Int.reduceAdd, Int.reduceSub, Int.reduceMul, Int.reduceNeg, Nat.reduceMul, Nat.reduceLeDiff, Nat.reduceLT, q1]
      | simp (disch := omega) only [wi64, wu8, wu16, wu32, wu64]
      | with_reducible_and_instances exact finR
      | ((with_reducible refine finR' ?_ ?_) <;> rfl)
      | ((with_reducible refine finD hsc (NRel.of_plain ?_)); exact rfl)
end Go.Proofs.YtbdlomkogpnkpaaDoor
