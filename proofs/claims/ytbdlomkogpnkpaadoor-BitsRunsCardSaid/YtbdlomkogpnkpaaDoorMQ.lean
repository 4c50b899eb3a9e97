/-
  Runs compared; the law BitsRuns.
-/
import Derived.Test.YtbdlomkogpnkpaaDoorMP
set_option linter.unusedVariables false
set_option linter.unusedSimpArgs false
set_option maxRecDepth 20000
set_option maxHeartbeats 1000000
namespace Go.Proofs.YtbdlomkogpnkpaaDoor
open Go Go.Aw Go.Proofs Go.Shelf Go.RowKit Go.ChangeShapes
theorem held74 : Tryd.prog.stoodInHeld 74 = false := by kernel_rfl
theorem eqRun (a b : Int) : eqV Tryd.prog 20 74 (.agg ⟨[.int .i64 a, .int .i64 b]⟩) (.agg ⟨[.int .i64 a, .int .i64 b]⟩) = some true := by
  have e3 : ∀ (d : Nat) (a : Int), eqV Tryd.prog (d + 1) 3 (.int .i64 a) (.int .i64 a) = some true := fun d a => by unfold eqV; simp only [Tryd.underlying3]; simp
  unfold eqV
  simp only [Tryd.underlying74]
  rw [held74]
  simp [eqFs, e3, ts3, ta3]
theorem RdN.runs {H : AHeap} {i n : Nat} {r : List (Nat × Nat)} (h : H[i]? = some (runsO r)) (hn : n = r.length) : RdN H 2 (gS i n) (recsC (castR r)) := by
  subst hn
  rcases Nat.eq_zero_or_pos r.length with h0 | h0
  · have : r = [] := List.length_eq_zero_iff.1 h0
    subst this
    exact .inl ⟨rfl, rfl⟩
  · rw [gS_pos h0]
    rw [runsO_pos h0] at h
    have hl : (recsC (castR r)).length = r.length := by simp [recsC, castR]
    refine .inr ⟨i, 0, r.length, _, _, by rw [hl], h, fun _ => by rw [hl, runsC_length]; omega, fun j q hq => ?_⟩
    unfold recsC castR at hq
    rw [List.map_map, List.getElem?_map] at hq
    cases hp : r[j]? with
    | none => rw [hp] at hq; cases hq
    | some p =>
      rw [hp] at hq
      cases hq
      obtain ⟨g1, g2⟩ := runsC_get r j p.1 p.2 hp
      rw [Nat.zero_add]
      exact take2_of_get g1 g2
theorem RunsEq (l : List (Int × Int)) (hl : l.length < 1099511627776) (v w : Value) (H : AHeap) (hv : RdN H 2 v (recsC l)) (hw : RdN H 2 w (recsC l)) : ARet Tryd.prog 46 [v, w] H (.bool true) H := by
  have q1 : ∀ H' K, lenW Tryd.prog 45 v H' K = K (.int .i64 (l.length : Nat)) H' := fun H' K => by rw [hv.lenT (by simp only [go_sem, ↓reduceIte, Nat.reduceEqDiff, reduceCtorEq, Nat.reduceAdd, Int.reduceEq, Int.reduceBNe, Int.reduceBEq, Int.reduceToNat, Int.reduceLT, Int.reduceLE, Int.reduceGT, Int.reduceGE, Nat.reduceSub, Nat.reduceBEq, Nat.reduceBNe, Int.reduceAdd, Int.reduceSub, Int.reduceMul, Int.reduceNeg, Nat.reduceMul, Nat.reduceLeDiff, Nat.reduceLT]), recsC_length]
  have q2 : ∀ H' K, lenW Tryd.prog 45 w H' K = K (.int .i64 (l.length : Nat)) H' := fun H' K => by rw [hw.lenT (by simp only [go_sem, ↓reduceIte, Nat.reduceEqDiff, reduceCtorEq, Nat.reduceAdd, Int.reduceEq, Int.reduceBNe, Int.reduceBEq, Int.reduceToNat, Int.reduceLT, Int.reduceLE, Int.reduceGT, Int.reduceGE, Nat.reduceSub, Nat.reduceBEq, Nat.reduceBNe, Int.reduceAdd, Int.reduceSub, Int.reduceMul, Int.reduceNeg, Nat.reduceMul, Nat.reduceLeDiff, Nat.reduceLT]), recsC_length]
  have gk : Tryd.prog.eqGuardType Tryd.prog.depth 74 = false := by kernel_rfl
  refine AC.enter Tryd.func46 rfl (by kernel_rfl) 26 rfl [.tmp 4] rfl (by simp) fun hsc B => ?_
  repeat first
    | with_reducible refine AWP.seq ?_
    | ((with_reducible refine AWP.region ?_ ?_); exact rfl)
    | with_reducible refine AWP.block ?_
    | with_reducible refine AWP.skip ?_
    | with_reducible refine AWP.exit ?_
    | with_reducible refine AWP.ret ?_
    | with_reducible refine AWP.label ?_
    | with_reducible refine AWP.goto ?_
    | ((with_reducible refine AWP.condT ?_ ?_); focus (simp only [ev, lk_cons, ↓reduceIte, Nat.reduceEqDiff]; done))
    | ((with_reducible refine AWP.condF ?_ ?_); focus (simp only [ev, lk_cons, ↓reduceIte, Nat.reduceEqDiff]; done))
    | simp only [go_sem, ↓reduceIte, Nat.reduceEqDiff, reduceCtorEq, Nat.reduceAdd, Int.reduceEq, Int.reduceBNe, Int.reduceBEq, Int.reduceToNat, Int.reduceLT, Int.reduceLE, Int.reduceGT, Int.reduceGE, Nat.reduceSub, Nat.reduceBEq, Nat.reduceBNe, Int.reduceAdd, Int.reduceSub, Int.reduceMul, Int.reduceNeg, Nat.reduceMul, Nat.reduceLeDiff, Nat.reduceLT, q1, q2]
    | simp (disch := omega) only [wi64, wu8, wu16, wu32, wu64]
    | with_reducible_and_instances exact finR
    | ((with_reducible refine finR' ?_ ?_) <;> rfl)
    | ((with_reducible refine finD hsc (NRel.of_plain ?_)); exact rfl)
  refine AWP.loopP (fun k : Nat => ⟨[(0, v), (1, w), (12, .int .i64 (l.length : Nat)), (13, .int .i64 (k : Nat))], [], H⟩)
    (fun k => k ≤ l.length) (fun k => l.length - k) 0 ?_ (Nat.zero_le _) ?_
  · exact Weak.env (by simp [envIn, lk_cons, wth_some])
  intro k hk
  by_cases hc : k < l.length
  · have hc' : (k : Int) < (l.length : Int) := by omega
    have hne : ¬ recsC l = [] := fun e => by rw [← List.length_eq_zero_iff, recsC_length] at e; omega
    rcases hv with ⟨rfl, e1⟩ | ⟨i, o, cap, cs, kk, rfl, hi, hle, hg⟩
    · exact absurd e1 hne
    rcases hw with ⟨rfl, e1⟩ | ⟨i2, o2, cap2, cs2, kk2, rfl, hi2, hle2, hg2⟩
    · exact absurd e1 hne
    have hle := hle hne
    have hle2 := hle2 hne
    rw [recsC_length] at hle hle2
    have g1 := hg k _ (recsC_get hc)
    have g2 := hg2 k _ (recsC_get hc)
    have b1 : o + (k * 2 + 2) ≤ cs.length := by omega
    have b2 : o2 + (k * 2 + 2) ≤ cs2.length := by omega
    have he := eqRun (l[k]).1 (l[k]).2
    repeat first
      | with_reducible refine AWP.seq ?_
      | ((with_reducible refine AWP.region ?_ ?_); exact rfl)
      | with_reducible refine AWP.block ?_
      | with_reducible refine AWP.skip ?_
      | with_reducible refine AWP.exit ?_
      | with_reducible refine AWP.ret ?_
      | with_reducible refine AWP.label ?_
      | with_reducible refine AWP.goto ?_
      | ((with_reducible refine AWP.condT ?_ ?_); focus (simp only [ev, lk_cons, ↓reduceIte, Nat.reduceEqDiff]; done))
      | ((with_reducible refine AWP.condF ?_ ?_); focus (simp only [ev, lk_cons, ↓reduceIte, Nat.reduceEqDiff]; done))
      | simp only [go_sem, ↓reduceIte, Nat.reduceEqDiff, reduceCtorEq, Nat.reduceAdd, Int.reduceEq, Int.reduceBNe, Int.reduceBEq, Int.reduceToNat, Int.reduceLT, Int.reduceLE, Int.reduceGT, Int.reduceGE, Nat.reduceSub, Nat.reduceBEq, Nat.reduceBNe, Int.reduceAdd, Int.reduceSub, Int.reduceMul, Int.reduceNeg, Nat.reduceMul, Nat.reduceLeDiff, Nat.reduceLT, hc', recsC_length]
      | simp (disch := omega) only [wi64, wu8, wu16, wu32, wu64]
      | with_reducible_and_instances exact finR
      | ((with_reducible refine finR' ?_ ?_) <;> rfl)
      | ((with_reducible refine finD hsc (NRel.of_plain ?_)); exact rfl)
    refine AWP.regionK 9 (by kernel_rfl) (by decide) (by kernel_rfl) ?_
    repeat first
      | with_reducible refine AWP.seq ?_
      | ((with_reducible refine AWP.region ?_ ?_); exact rfl)
      | with_reducible refine AWP.block ?_
      | with_reducible refine AWP.skip ?_
      | with_reducible refine AWP.exit ?_
      | with_reducible refine AWP.ret ?_
      | with_reducible refine AWP.label ?_
      | with_reducible refine AWP.goto ?_
      | ((with_reducible refine AWP.condT ?_ ?_); focus (simp only [ev, lk_cons, ↓reduceIte, Nat.reduceEqDiff]; done))
      | ((with_reducible refine AWP.condF ?_ ?_); focus (simp only [ev, lk_cons, ↓reduceIte, Nat.reduceEqDiff]; done))
      | simp only [go_sem, ↓reduceIte, Nat.reduceEqDiff, reduceCtorEq, Nat.reduceAdd, Int.reduceEq, Int.reduceBNe, Int.reduceBEq, Int.reduceToNat, Int.reduceLT, Int.reduceLE, Int.reduceGT, Int.reduceGE, Nat.reduceSub, Nat.reduceBEq, Nat.reduceBNe, Int.reduceAdd, Int.reduceSub, Int.reduceMul, Int.reduceNeg, Nat.reduceMul, Nat.reduceLeDiff, Nat.reduceLT, hc', hi, hi2, g1, g2, b1, b2, recsC_length, he, gk]
      | simp (disch := omega) only [wi64, wu8, wu16, wu32, wu64]
      | with_reducible_and_instances exact finR
      | ((with_reducible refine finR' ?_ ?_) <;> rfl)
      | ((with_reducible refine finD hsc (NRel.of_plain ?_)); exact rfl)
    exact ⟨k + 1, Weak.env (by simp [envIn, lk_cons, wth_some, recsC_length]), by omega, by omega⟩
  · have : k = l.length := by omega
    subst this
    have hc' : ¬ (l.length : Int) < (l.length : Int) := by omega
    repeat first
      | with_reducible refine AWP.seq ?_
      | ((with_reducible refine AWP.region ?_ ?_); exact rfl)
      | with_reducible refine AWP.block ?_
      | with_reducible refine AWP.skip ?_
      | with_reducible refine AWP.exit ?_
      | with_reducible refine AWP.ret ?_
      | with_reducible refine AWP.label ?_
      | with_reducible refine AWP.goto ?_
      | ((with_reducible refine AWP.condT ?_ ?_); focus (simp only [ev, lk_cons, ↓reduceIte, Nat.reduceEqDiff]; done))
      | ((with_reducible refine AWP.condF ?_ ?_); focus (simp only [ev, lk_cons, ↓reduceIte, Nat.reduceEqDiff]; done))
      | simp only [go_sem, ↓reduceIte, Nat.reduceEqDiff, reduceCtorEq, Nat.reduceAdd, Int.reduceEq, Int.reduceBNe, Int.reduceBEq, Int.reduceToNat, Int.reduceLT, Int.reduceLE, Int.reduceGT, Int.reduceGE, Nat.reduceSub, Nat.reduceBEq, Nat.reduceBNe, Int.reduceAdd, Int.reduceSub, Int.reduceMul, Int.reduceNeg, Nat.reduceMul, Nat.reduceLeDiff, Nat.reduceLT, hc']
      | simp (disch := omega) only [wi64, wu8, wu16, wu32, wu64]
      | with_reducible_and_instances exact finR
      | ((with_reducible refine finR' ?_ ?_) <;> rfl)
      | ((with_reducible refine finD hsc (NRel.of_plain ?_)); exact rfl)
theorem lawRuns (n : Int) (s : List UInt8) (hs : s.length < 140737488355328) (l : List (Int × Int)) (v : Value) (H : AHeap) (hv0 : RdN H 2 v (recsC l)) : ARet Tryd.prog 8 [.int .i64 n, .string (bs s), v] H (.bool true) H := by
  have hLt := fun H => Light n s H
  have q1 : ∀ H' K, lenW Tryd.prog 45 v H' K = K (.int .i64 (l.length : Nat)) H' := fun H' K => by rw [hv0.lenT (by simp only [go_sem, ↓reduceIte, Nat.reduceEqDiff, reduceCtorEq, Nat.reduceAdd, Int.reduceEq, Int.reduceBNe, Int.reduceBEq, Int.reduceToNat, Int.reduceLT, Int.reduceLE, Int.reduceGT, Int.reduceGE, Nat.reduceSub, Nat.reduceBEq, Nat.reduceBNe, Int.reduceAdd, Int.reduceSub, Int.reduceMul, Int.reduceNeg, Nat.reduceMul, Nat.reduceLeDiff, Nat.reduceLT]), recsC_length]
  have hI0 := fun H => RunsEq [] (by decide) (.slice none 0 0) (.slice none 0 0) H (.inl ⟨rfl, rfl⟩) (.inl ⟨rfl, rfl⟩)
  by_cases hl : n < 5000 ∧ s.length < 700
  · simp only [decide_eq_true hl] at hLt
    by_cases h300 : (l.length : Int) > 300
    · skip
      refine AC.enter Tryd.func8 rfl (by kernel_rfl) 86 rfl [.tmp 6] rfl (by simp) fun hsc B => ?_
      repeat first
        | with_reducible refine AWP.seq ?_
        | ((with_reducible refine AWP.region ?_ ?_); exact rfl)
        | with_reducible refine AWP.block ?_
        | with_reducible refine AWP.skip ?_
        | with_reducible refine AWP.exit ?_
        | with_reducible refine AWP.ret ?_
        | with_reducible refine AWP.label ?_
        | with_reducible refine AWP.goto ?_
        | ((with_reducible refine AWP.condT ?_ ?_); focus (simp only [ev, lk_cons, ↓reduceIte, Nat.reduceEqDiff]; done))
        | ((with_reducible refine AWP.condF ?_ ?_); focus (simp only [ev, lk_cons, ↓reduceIte, Nat.reduceEqDiff]; done))
        | with_reducible refine (hLt _).use ?_
        | with_reducible refine (awake _).use ?_
        | simp only [go_sem, ↓reduceIte, Nat.reduceEqDiff, reduceCtorEq, Nat.reduceAdd, Int.reduceEq, Int.reduceBNe, Int.reduceBEq, Int.reduceToNat, Int.reduceLT, Int.reduceLE, Int.reduceGT, Int.reduceGE, Nat.reduceSub, Nat.reduceBEq, Nat.reduceBNe, Int.reduceAdd, Int.reduceSub, Int.reduceMul, Int.reduceNeg, Nat.reduceMul, Nat.reduceLeDiff, Nat.reduceLT, q1, h300]
        | simp (disch := omega) only [wi64, wu8, wu16, wu32, wu64]
        | with_reducible_and_instances exact finR
        | ((with_reducible refine finR' ?_ ?_) <;> rfl)
        | ((with_reducible refine finD hsc (NRel.of_plain ?_)); exact rfl)
    · have hll : l.length < 1099511627776 := by omega
      by_cases hn : okN n
      · obtain ⟨N, rfl⟩ : ∃ N : Nat, n = N := ⟨n.toNat, by unfold okN at hn; omega⟩
        have hN : N ≤ 4096 := by unfold okN at hn; omega
        have hO := fun (X : AHeap) => FromRunsC N hN l hll v (H ++ X) (hv0.more X)
        have hrO := fun (X : AHeap) => rFromRunsC N hN l hll v (H ++ X) (hv0.more X)
        have hO0 := FromRunsC N hN l hll v H hv0
        have hrO0 := rFromRunsC N hN l hll v H hv0
        by_cases hv : validB N s
        · have hal := allL_len s
          have hlo := lon_le N
          have hsl := hv.1
          have hrl := runsL_len (allL s)
          have hcl : (castR (runsL (allL s))).length < 1099511627776 := by simp only [castR, List.length_map]; omega
          have hI := fun v w H a b => RunsEq (castR (runsL (allL s))) hcl v w H a b
          have hO2 := fun v H a => FromRunsC N hN (castR (runsL (allL s))) hcl v H a
          have ho := frV_runs hv
          rw [← allL_valid hv] at ho
          rw [ho] at hO2
          refine AC.enter Tryd.func8 rfl (by kernel_rfl) 86 rfl [.tmp 6] rfl (by simp) fun hsc B => ?_
          repeat first
            | with_reducible refine AWP.seq ?_
            | ((with_reducible refine AWP.region ?_ ?_); exact rfl)
            | with_reducible refine AWP.block ?_
            | with_reducible refine AWP.skip ?_
            | with_reducible refine AWP.exit ?_
            | with_reducible refine AWP.ret ?_
            | with_reducible refine AWP.label ?_
            | with_reducible refine AWP.goto ?_
            | ((with_reducible refine AWP.condT ?_ ?_); focus (simp only [ev, lk_cons, ↓reduceIte, Nat.reduceEqDiff]; done))
            | ((with_reducible refine AWP.condF ?_ ?_); focus (simp only [ev, lk_cons, ↓reduceIte, Nat.reduceEqDiff]; done))
            | with_reducible refine (hLt _).use ?_
            | with_reducible refine (hO _).use ?_
            | with_reducible refine (hrO _).use ?_
            | with_reducible refine (RunsC N hN s hv _).use ?_
            | with_reducible refine (rRunsC N hN s hv _).use ?_
            | with_reducible refine (hI _ _ _ (RdN.runs (by with_unfolding_all first | exact (hget0 rfl).trans rfl | exact (hgetk rfl).trans rfl) rfl) (RdN.runs (by with_unfolding_all first | exact (hget0 rfl).trans rfl | exact (hgetk rfl).trans rfl) rfl)).use ?_
            | with_reducible refine (hO2 _ _ (RdN.runs (by with_unfolding_all first | exact (hget0 rfl).trans rfl | exact (hgetk rfl).trans rfl) rfl)).use ?_
            | with_reducible refine (awake _).use ?_
            | simp only [go_sem, ↓reduceIte, Nat.reduceEqDiff, reduceCtorEq, Nat.reduceAdd, Int.reduceEq, Int.reduceBNe, Int.reduceBEq, Int.reduceToNat, Int.reduceLT, Int.reduceLE, Int.reduceGT, Int.reduceGE, Nat.reduceSub, Nat.reduceBEq, Nat.reduceBNe, Int.reduceAdd, Int.reduceSub, Int.reduceMul, Int.reduceNeg, Nat.reduceMul, Nat.reduceLeDiff, Nat.reduceLT, q1, h300, b1, b2, b4]
            | simp (disch := omega) only [wi64, wu8, wu16, wu32, wu64]
            | with_reducible_and_instances exact finR
            | ((with_reducible refine finR' ?_ ?_) <;> rfl)
            | ((with_reducible refine finD hsc (NRel.of_plain ?_)); exact rfl)
        · skip
          refine AC.enter Tryd.func8 rfl (by kernel_rfl) 86 rfl [.tmp 6] rfl (by simp) fun hsc B => ?_
          repeat first
            | with_reducible refine AWP.seq ?_
            | ((with_reducible refine AWP.region ?_ ?_); exact rfl)
            | with_reducible refine AWP.block ?_
            | with_reducible refine AWP.skip ?_
            | with_reducible refine AWP.exit ?_
            | with_reducible refine AWP.ret ?_
            | with_reducible refine AWP.label ?_
            | with_reducible refine AWP.goto ?_
            | ((with_reducible refine AWP.condT ?_ ?_); focus (simp only [ev, lk_cons, ↓reduceIte, Nat.reduceEqDiff]; done))
            | ((with_reducible refine AWP.condF ?_ ?_); focus (simp only [ev, lk_cons, ↓reduceIte, Nat.reduceEqDiff]; done))
            | with_reducible refine (hLt _).use ?_
            | with_reducible refine hO0.use ?_
            | with_reducible refine hrO0.use ?_
            | with_reducible refine (RunsB N hN s hs hv _).use ?_
            | with_reducible refine (rRunsB N hN s hs hv _).use ?_
            | with_reducible refine (hI0 _).use ?_
            | with_reducible refine (awake _).use ?_
            | simp only [go_sem, ↓reduceIte, Nat.reduceEqDiff, reduceCtorEq, Nat.reduceAdd, Int.reduceEq, Int.reduceBNe, Int.reduceBEq, Int.reduceToNat, Int.reduceLT, Int.reduceLE, Int.reduceGT, Int.reduceGE, Nat.reduceSub, Nat.reduceBEq, Nat.reduceBNe, Int.reduceAdd, Int.reduceSub, Int.reduceMul, Int.reduceNeg, Nat.reduceMul, Nat.reduceLeDiff, Nat.reduceLT, q1, h300, b1, b2, b4]
            | simp (disch := omega) only [wi64, wu8, wu16, wu32, wu64]
            | with_reducible_and_instances exact finR
            | ((with_reducible refine finR' ?_ ?_) <;> rfl)
            | ((with_reducible refine finD hsc (NRel.of_plain ?_)); exact rfl)
      · skip
        refine AC.enter Tryd.func8 rfl (by kernel_rfl) 86 rfl [.tmp 6] rfl (by simp) fun hsc B => ?_
        repeat first
          | with_reducible refine AWP.seq ?_
          | ((with_reducible refine AWP.region ?_ ?_); exact rfl)
          | with_reducible refine AWP.block ?_
          | with_reducible refine AWP.skip ?_
          | with_reducible refine AWP.exit ?_
          | with_reducible refine AWP.ret ?_
          | with_reducible refine AWP.label ?_
          | with_reducible refine AWP.goto ?_
          | ((with_reducible refine AWP.condT ?_ ?_); focus (simp only [ev, lk_cons, ↓reduceIte, Nat.reduceEqDiff]; done))
          | ((with_reducible refine AWP.condF ?_ ?_); focus (simp only [ev, lk_cons, ↓reduceIte, Nat.reduceEqDiff]; done))
          | with_reducible refine (hLt _).use ?_
          | with_reducible refine (FromRunsA n hn v _).use ?_
          | with_reducible refine (rFromRunsA n hn v _).use ?_
          | with_reducible refine (RunsA n hn s _).use ?_
          | with_reducible refine (rRunsA n hn s hs _).use ?_
          | with_reducible refine (hI0 _).use ?_
          | with_reducible refine (awake _).use ?_
          | simp only [go_sem, ↓reduceIte, Nat.reduceEqDiff, reduceCtorEq, Nat.reduceAdd, Int.reduceEq, Int.reduceBNe, Int.reduceBEq, Int.reduceToNat, Int.reduceLT, Int.reduceLE, Int.reduceGT, Int.reduceGE, Nat.reduceSub, Nat.reduceBEq, Nat.reduceBNe, Int.reduceAdd, Int.reduceSub, Int.reduceMul, Int.reduceNeg, Nat.reduceMul, Nat.reduceLeDiff, Nat.reduceLT, q1, h300, b1, b2, b4]
          | simp (disch := omega) only [wi64, wu8, wu16, wu32, wu64]
          | with_reducible_and_instances exact finR
          | ((with_reducible refine finR' ?_ ?_) <;> rfl)
          | ((with_reducible refine finD hsc (NRel.of_plain ?_)); exact rfl)
  · simp only [decide_eq_false hl] at hLt
    refine AC.enter Tryd.func8 rfl (by kernel_rfl) 86 rfl [.tmp 6] rfl (by simp) fun hsc B => ?_
    repeat first
      | with_reducible refine AWP.seq ?_
      | ((with_reducible refine AWP.region ?_ ?_); exact rfl)
      | with_reducible refine AWP.block ?_
      | with_reducible refine AWP.skip ?_
      | with_reducible refine AWP.exit ?_
      | with_reducible refine AWP.ret ?_
      | with_reducible refine AWP.label ?_
      | with_reducible refine AWP.goto ?_
      | ((with_reducible refine AWP.condT ?_ ?_); focus (simp only [ev, lk_cons, ↓reduceIte, Nat.reduceEqDiff]; done))
      | ((with_reducible refine AWP.condF ?_ ?_); focus (simp only [ev, lk_cons, ↓reduceIte, Nat.reduceEqDiff]; done))
      | with_reducible refine (hLt _).use ?_
      | with_reducible refine (awake _).use ?_
      | simp only [go_sem, ↓reduceIte, Nat.reduceEqDiff, reduceCtorEq, Nat.reduceAdd, Int.reduceEq, Int.reduceBNe, Int.reduceBEq, Int.reduceToNat, Int.reduceLT, Int.reduceLE, Int.reduceGT, Int.reduceGE, Nat.reduceSub, Nat.reduceBEq, Nat.reduceBNe, Int.reduceAdd, Int.reduceSub, Int.reduceMul, Int.reduceNeg, Nat.reduceMul, Nat.reduceLeDiff, Nat.reduceLT, q1]
      | simp (disch := omega) only [wi64, wu8, wu16, wu32, wu64]
      | with_reducible_and_instances exact finR
      | ((with_reducible refine finR' ?_ ?_) <;> rfl)
      | ((with_reducible refine finD hsc (NRel.of_plain ?_)); exact rfl)
theorem recs2 : ∀ (l : List (List Value)), (∀ r ∈ l, r.length = 2 ∧ ∃ zs : List Int, r = zs.map (.int .i64)) → ∃ v : List (Int × Int), l = recsC v
  | [], _ => ⟨[], rfl⟩
  | r :: l, h => by
    obtain ⟨v, hv⟩ := recs2 l (fun q hq => h q (by simp [hq]))
    obtain ⟨h1, zs, h2⟩ := h r (by simp)
    subst h2
    rw [List.length_map] at h1
    match zs, h1 with
    | [a, b], _ => exact ⟨(a, b) :: v, by rw [hv]; rfl⟩
end Go.Proofs.YtbdlomkogpnkpaaDoor
