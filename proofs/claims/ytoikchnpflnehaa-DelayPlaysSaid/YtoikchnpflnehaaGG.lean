/-
  The law of the ordinary control.
-/
import Derived.Test.YtoikchnpflnehaaGF
import Derived.Test.YtoikchnpflnehaaAwC
set_option linter.unusedVariables false
set_option linter.unusedSimpArgs false
set_option maxRecDepth 20000
namespace Go.Proofs.Ytoikchnpflnehaa
open Go Go.Aw Go.Proofs
def ord0 : OrdS := ⟨0, 0, false, 3000, 1000000⟩
theorem NewOrdinary (H : AHeap) : ARet Try.prog 26 [] H (.pointer (some ⟨H.length, 0, none⟩)) (H ++ [oO ord0]) := by
  simp only [oO, ordC, ord0]
  refine AC.enter Try.func26 rfl (by kernel_rfl) 3 rfl [.tmp 0] rfl (by simp) fun hsc B => ?_
  repeat first
    | with_reducible refine AWP.seq ?_
    | ((with_reducible refine AWP.region ?_ ?_); exact rfl)
    | with_reducible refine AWP.block ?_
    | with_reducible refine AWP.skip ?_
    | with_reducible refine AWP.exit ?_
    | with_reducible refine AWP.ret ?_
    | with_reducible refine AWP.label ?_
    | with_reducible refine AWP.goto ?_
    | ((with_reducible refine AWP.condT ?_ ?_); focus (simp only [ev, lk_cons, ↓reduceIte, Nat.reduceEqDiff]; done))
    | ((with_reducible refine AWP.condF ?_ ?_); focus (simp only [ev, lk_cons, ↓reduceIte, Nat.reduceEqDiff]; done))
    | simp only [go_sem, ↓reduceIte, Nat.reduceEqDiff, reduceCtorEq, Nat.reduceAdd, Int.reduceEq, Int.reduceBNe, Int.reduceBEq, Int.reduceToNat, Int.reduceLT, Int.reduceLE, Int.reduceGT, Int.reduceGE, Nat.reduceSub, Nat.reduceBEq, Nat.reduceBNe, Int.reduceAdd, Int.reduceSub, Int.reduceMul, Int.reduceNeg, Nat.reduceMul, Nat.reduceLeDiff, Nat.reduceLT]
    | simp (disch := omega) only [wi64, wu8, wu16, wu32, wu64, Int.tdiv_eq_ediv_of_nonneg, Int.tmod_eq_emod_of_nonneg]
    | with_reducible_and_instances exact finR
    | ((with_reducible refine finR' ?_ ?_) <;> rfl)
    | ((with_reducible refine finD hsc (NRel.of_plain ?_)); exact rfl)
theorem rNewOrdinary (H : AHeap) : ARet Try.prog 27 [] H (.pointer (some ⟨H.length, 0, none⟩)) (H ++ [rO ord0]) := by
  simp only [rO, rordC, ord0]
  refine AC.enter Try.func27 rfl (by kernel_rfl) 3 rfl [.tmp 0] rfl (by simp) fun hsc B => ?_
  repeat first
    | with_reducible refine AWP.seq ?_
    | ((with_reducible refine AWP.region ?_ ?_); exact rfl)
    | with_reducible refine AWP.block ?_
    | with_reducible refine AWP.skip ?_
    | with_reducible refine AWP.exit ?_
    | with_reducible refine AWP.ret ?_
    | with_reducible refine AWP.label ?_
    | with_reducible refine AWP.goto ?_
    | ((with_reducible refine AWP.condT ?_ ?_); focus (simp only [ev, lk_cons, ↓reduceIte, Nat.reduceEqDiff]; done))
    | ((with_reducible refine AWP.condF ?_ ?_); focus (simp only [ev, lk_cons, ↓reduceIte, Nat.reduceEqDiff]; done))
    | simp only [go_sem, ↓reduceIte, Nat.reduceEqDiff, reduceCtorEq, Nat.reduceAdd, Int.reduceEq, Int.reduceBNe, Int.reduceBEq, Int.reduceToNat, Int.reduceLT, Int.reduceLE, Int.reduceGT, Int.reduceGE, Nat.reduceSub, Nat.reduceBEq, Nat.reduceBNe, Int.reduceAdd, Int.reduceSub, Int.reduceMul, Int.reduceNeg, Nat.reduceMul, Nat.reduceLeDiff, Nat.reduceLT]
    | simp (disch := omega) only [wi64, wu8, wu16, wu32, wu64, Int.tdiv_eq_ediv_of_nonneg, Int.tmod_eq_emod_of_nonneg]
    | with_reducible_and_instances exact finR
    | ((with_reducible refine finR' ?_ ?_) <;> rfl)
    | ((with_reducible refine finD hsc (NRel.of_plain ?_)); exact rfl)
theorem loss_ok (S : OrdS) (h : S.ok) (now trip : Int) : (S.loss now trip).ok := by
  unfold OrdS.loss
  split
  · rename_i hd
    obtain ⟨_, hd⟩ := hd
    unfold timeD at hd
    obtain ⟨h1, h2, h3, h4⟩ := h
    unfold OrdS.lose
    split
    · exact ⟨⟨by show 0 ≤ now; omega, hd.2⟩, ⟨h2.1, by show S.time ≤ now; omega⟩, h3, h4⟩
    · exact ⟨⟨by show 0 ≤ now; omega, hd.2⟩, ⟨by show 0 ≤ now; omega, Int.le_refl _⟩, by simp only [OrdS.at_]; omega, by simp only [OrdS.at_]; omega⟩
  · exact h
theorem out_ok (S : OrdS) (h : S.ok) : S.out.ok := by
  obtain ⟨h1, h2, h3, h4⟩ := h
  exact ⟨h1, h2, by simp only [OrdS.out]; omega, by simp only [OrdS.out]; omega⟩
theorem acked_ok (S : OrdS) (h : S.ok) (b : Int) : (S.acked b).ok := by
  unfold OrdS.acked
  split
  · rename_i hb
    obtain ⟨hb, hz⟩ := hb
    unfold byD at hb
    obtain ⟨h1, h2, h3, h4⟩ := h
    have hm : 0 ≤ moreL S b := by unfold moreL; split <;> omega
    exact ⟨h1, h2, by simp only; omega, h4⟩
  · exact h
set_option maxHeartbeats 4000000 in
theorem lawOrdinary (l : List ActS) (v : Value) (H : AHeap) (hv : RdN H 6 v (actsC l)) : ARet Try.prog 7 [v] H (.bool true) H := by
  have hal : (actsC l).length = l.length := by simp [actsC]
  have q1 : ∀ H' K, lenW Try.prog 39 v H' K = K (.int .i64 (l.length : Nat)) H' := fun H' K => by rw [hv.lenT (by simp only [go_sem, ↓reduceIte, Nat.reduceEqDiff, reduceCtorEq, Nat.reduceAdd, Int.reduceEq, Int.reduceBNe, Int.reduceBEq, Int.reduceToNat, Int.reduceLT, Int.reduceLE, Int.reduceGT, Int.reduceGE, Nat.reduceSub, Nat.reduceBEq, Nat.reduceBNe, Int.reduceAdd, Int.reduceSub, Int.reduceMul, Int.reduceNeg, Nat.reduceMul, Nat.reduceLeDiff, Nat.reduceLT]), hal]
  have hlt := light l v H hv
  cases hll : lightL l with
  | false =>
    rw [hll] at hlt
    refine AC.enter Try.func7 rfl (by kernel_rfl) 88 rfl [.tmp 2] rfl (by simp) fun hsc B => ?_
    repeat first
      | with_reducible refine AWP.seq ?_
      | ((with_reducible refine AWP.region ?_ ?_); exact rfl)
      | with_reducible refine AWP.block ?_
      | with_reducible refine AWP.skip ?_
      | with_reducible refine AWP.exit ?_
      | with_reducible refine AWP.ret ?_
      | with_reducible refine AWP.label ?_
      | with_reducible refine AWP.goto ?_
      | ((with_reducible refine AWP.condT ?_ ?_); focus (simp only [ev, lk_cons, ↓reduceIte, Nat.reduceEqDiff]; done))
      | ((with_reducible refine AWP.condF ?_ ?_); focus (simp only [ev, lk_cons, ↓reduceIte, Nat.reduceEqDiff]; done))
      | with_reducible refine hlt.use ?_
      | with_reducible refine (awake _).use ?_
      | simp only [go_sem, ↓reduceIte, Nat.reduceEqDiff, reduceCtorEq, Nat.reduceAdd, Int.reduceEq, Int.reduceBNe, Int.reduceBEq, Int.reduceToNat, Int.reduceLT, Int.reduceLE, Int.reduceGT, Int.reduceGE, Nat.reduceSub, Nat.reduceBEq, Nat.reduceBNe, Int.reduceAdd, Int.reduceSub, Int.reduceMul, Int.reduceNeg, Nat.reduceMul, Nat.reduceLeDiff, Nat.reduceLT]
      | simp (disch := omega) only [wi64, wu8, wu16, wu32, wu64, Int.tdiv_eq_ediv_of_nonneg, Int.tmod_eq_emod_of_nonneg]
      | with_reducible_and_instances exact finR
      | ((with_reducible refine finR' ?_ ?_) <;> rfl)
      | ((with_reducible refine finD hsc (NRel.of_plain ?_)); exact rfl)
  | true =>
    rw [hll] at hlt
    have hll' := hll
    unfold lightL at hll'
    simp only [Bool.and_eq_true, decide_eq_true_eq, List.all_eq_true, Bool.not_eq_true', decide_eq_false_iff_not] at hll'
    obtain ⟨h80, hfar⟩ := hll'
    refine AC.enter Try.func7 rfl (by kernel_rfl) 88 rfl [.tmp 2] rfl (by simp) fun hsc B => ?_
    repeat first
      | with_reducible refine AWP.seq ?_
      | ((with_reducible refine AWP.region ?_ ?_); exact rfl)
      | with_reducible refine AWP.block ?_
      | with_reducible refine AWP.skip ?_
      | with_reducible refine AWP.exit ?_
      | with_reducible refine AWP.ret ?_
      | with_reducible refine AWP.label ?_
      | with_reducible refine AWP.goto ?_
      | ((with_reducible refine AWP.condT ?_ ?_); focus (simp only [ev, lk_cons, ↓reduceIte, Nat.reduceEqDiff]; done))
      | ((with_reducible refine AWP.condF ?_ ?_); focus (simp only [ev, lk_cons, ↓reduceIte, Nat.reduceEqDiff]; done))
      | with_reducible refine hlt.use ?_
      | with_reducible refine (NewOrdinary _).use ?_
      | with_reducible refine (rNewOrdinary _).use ?_
      | simp only [go_sem, ↓reduceIte, Nat.reduceEqDiff, reduceCtorEq, Nat.reduceAdd, Int.reduceEq, Int.reduceBNe, Int.reduceBEq, Int.reduceToNat, Int.reduceLT, Int.reduceLE, Int.reduceGT, Int.reduceGE, Nat.reduceSub, Nat.reduceBEq, Nat.reduceBNe, Int.reduceAdd, Int.reduceSub, Int.reduceMul, Int.reduceNeg, Nat.reduceMul, Nat.reduceLeDiff, Nat.reduceLT, q1]
      | simp (disch := omega) only [wi64, wu8, wu16, wu32, wu64, Int.tdiv_eq_ediv_of_nonneg, Int.tmod_eq_emod_of_nonneg]
      | with_reducible_and_instances exact finR
      | ((with_reducible refine finR' ?_ ?_) <;> rfl)
      | ((with_reducible refine finD hsc (NRel.of_plain ?_)); exact rfl)
    refine AWP.loopP (fun s : Nat × Int × AHeap => ⟨[(0, v), (3, .pointer (some ⟨H.length, 0, none⟩)), (4, .pointer (some ⟨H.length + 1, 0, none⟩)), (5, .int .i64 s.2.1), (20, v), (21, .int .i64 (l.length : Nat)), (22, .int .i64 (s.1 : Nat))], [], s.2.2⟩)
      (fun s => s.1 ≤ l.length ∧ (0 ≤ s.2.1 ∧ s.2.1 ≤ s.1 * 1000000) ∧ Frm [H.length, H.length + 1] (H ++ [oO ord0, rO ord0]) s.2.2 ∧ ∃ S : OrdS, S.ok ∧ s.2.2[H.length]? = some (oO S) ∧ s.2.2[H.length + 1]? = some (rO S)) (fun s => l.length - s.1) (0, 0, H ++ [oO ord0, rO ord0]) ?_ ?_ ?_
    · exact Weak.env (by simp [envIn, lk_cons, wth_some])
    · exact ⟨Nat.zero_le _, by simp, .refl _ _, ord0, ⟨by decide, by decide, by decide, by decide⟩, hget0 rfl, hgetk rfl⟩
    rintro ⟨n, now, H1⟩ ⟨hn, hnow, hf, S, hok, ho, hr⟩
    simp only at hn hnow hf ho hr
    by_cases hc : n < l.length
    · have hc' : (n : Int) < (l.length : Int) := by omega
      rcases hv with ⟨rfl, e1⟩ | ⟨i, o, cap, cs, k, rfl, hi, hle, hrr⟩
      · have : l.length = 0 := by rw [← hal, e1]; rfl
        omega
      have hil := lt_of_get hi
      have hi1 : H1[i]? = some (.cells cs k) := hf.get (j := i) (o := .cells cs k) (by rw [hgetl hil]; exact hi) (by simp; omega)
      have hil1 := lt_of_get hi1
      obtain ⟨hg, hg2⟩ := act_get (H := H) (i := i) (cap := cap) (k := k) (hle (by intro e; rw [e] at hal; simp at hal; omega)) hrr hc
      have hfx := hfar l[n] (List.getElem_mem _)
      generalize l[n] = x at hg hfx
      unfold farA at hfx
      simp only [actC] at hg
      have hal1 := lt_of_get ho
      have hbl1 := lt_of_get hr
      have hf2 : ∀ (o1 o2 : AObj) (X : AHeap), Frm [H.length, H.length + 1] (H ++ [oO ord0, rO ord0]) ((H1.set H.length o1).set (H.length + 1) o2 ++ X) := fun o1 o2 X => ((hf.set (.inl (by simp))).set (.inl (by simp))).more
      have ga : ∀ (o1 o2 : AObj) (X : AHeap), ((H1.set H.length o1).set (H.length + 1) o2 ++ X)[H.length]? = some o1 := fun o1 o2 X => by
        rw [hgetl (by simp; omega), hset_ne (by omega), hset_self hal1]
      have gb : ∀ (o1 o2 : AObj) (X : AHeap), ((H1.set H.length o1).set (H.length + 1) o2 ++ X)[H.length + 1]? = some o2 := fun o1 o2 X => by
        rw [hgetl (by simp; omega), hset_self (by simp; omega)]
      have hlim : ∀ S' : OrdS, ∀ X, ARet Try.prog 34 [.pointer (some ⟨H.length, 0, none⟩)] ((H1.set H.length (oO S')).set (H.length + 1) (rO S') ++ X) (.int .i64 S'.limit) ((H1.set H.length (oO S')).set (H.length + 1) (rO S') ++ X) := fun S' X => OrdLimit _ S' _ (ga _ _ _)
      have hrlim : ∀ S' : OrdS, ∀ X, ARet Try.prog 35 [.pointer (some ⟨H.length + 1, 0, none⟩)] ((H1.set H.length (oO S')).set (H.length + 1) (rO S') ++ X) (.int .i64 S'.limit) ((H1.set H.length (oO S')).set (H.length + 1) (rO S') ++ X) := fun S' X => rOrdLimit _ S' _ (gb _ _ _)
      by_cases k5 : x.kind = 5
      · have k5' : (x.kind == 5) = true := by simp [k5]
        have hA := Loss H.length S hok (now + x.later) x.trip (H1 ++ [.cells [.int .i64 x.kind, .int .i64 x.later, .int .i64 x.bytes, .int .i64 x.delay, .int .i64 x.under, .int .i64 x.trip] ⟨45, 0, true, 0, none⟩]) (by rw [hgetl hal1]; exact ho)
        rw [hsetl hal1] at hA
        have hB := rLoss (H.length + 1) S hok (now + x.later) x.trip (H1.set H.length (oO (S.loss (now + x.later) x.trip)) ++ [.cells [.int .i64 x.kind, .int .i64 x.later, .int .i64 x.bytes, .int .i64 x.delay, .int .i64 x.under, .int .i64 x.trip] ⟨45, 0, true, 0, none⟩]) (by rw [hgetl (by simp; omega), hset_ne (by omega)]; exact hr)
        rw [hsetl (by simp; omega)] at hB
        have hok' := loss_ok S hok (now + x.later) x.trip
        generalize S.loss (now + x.later) x.trip = S' at hA hB hok'
        generalize lossB S (now + x.later) x.trip = bb at hA hB
        generalize lossE S (now + x.later) x.trip = ee at hA hB
        repeat first
          | with_reducible refine AWP.seq ?_
          | ((with_reducible refine AWP.region ?_ ?_); exact rfl)
          | with_reducible refine AWP.block ?_
          | with_reducible refine AWP.skip ?_
          | with_reducible refine AWP.exit ?_
          | with_reducible refine AWP.ret ?_
          | with_reducible refine AWP.label ?_
          | with_reducible refine AWP.goto ?_
          | ((with_reducible refine AWP.condT ?_ ?_); focus (simp only [ev, lk_cons, ↓reduceIte, Nat.reduceEqDiff]; done))
          | ((with_reducible refine AWP.condF ?_ ?_); focus (simp only [ev, lk_cons, ↓reduceIte, Nat.reduceEqDiff]; done))
          | with_reducible refine hA.use ?_
          | with_reducible refine hB.use ?_
          | with_reducible refine (hlim S' _).use ?_
          | with_reducible refine (hrlim S' _).use ?_
          | simp only [go_sem, ↓reduceIte, Nat.reduceEqDiff, reduceCtorEq, Nat.reduceAdd, Int.reduceEq, Int.reduceBNe, Int.reduceBEq, Int.reduceToNat, Int.reduceLT, Int.reduceLE, Int.reduceGT, Int.reduceGE, Nat.reduceSub, Nat.reduceBEq, Nat.reduceBNe, Int.reduceAdd, Int.reduceSub, Int.reduceMul, Int.reduceNeg, Nat.reduceMul, Nat.reduceLeDiff, Nat.reduceLT, hc', hi1, hil1, hgetl, hg, hg2, hal, k5', minMaxW]
          | simp (disch := omega) only [wi64, wu8, wu16, wu32, wu64, Int.tdiv_eq_ediv_of_nonneg, Int.tmod_eq_emod_of_nonneg]
          | with_reducible_and_instances exact finR
          | ((with_reducible refine finR' ?_ ?_) <;> rfl)
          | ((with_reducible refine finD hsc (NRel.of_plain ?_)); exact rfl)
        refine ⟨(n + 1, now + max 0 x.later, (H1.set H.length (oO S')).set (H.length + 1) (rO S') ++ [AObj.cells [.int .i64 x.kind, .int .i64 x.later, .int .i64 x.bytes, .int .i64 x.delay, .int .i64 x.under, .int .i64 x.trip] ⟨45, 0, true, 0, none⟩]), Weak.env (by simp [envIn, lk_cons, wth_some, hal]), by simp; omega, by simp only; omega, by simp only; omega, hf2 _ _ _, ⟨S', hok', ga _ _ _, gb _ _ _⟩, by simp; omega⟩
      · have k5' : (x.kind == 5) = false := by simp [k5]
        by_cases k6 : x.kind = 6
        · have k6' : (x.kind == 6) = true := by simp [k6]
          have hA := OrdOut H.length S hok (H1 ++ [.cells [.int .i64 x.kind, .int .i64 x.later, .int .i64 x.bytes, .int .i64 x.delay, .int .i64 x.under, .int .i64 x.trip] ⟨45, 0, true, 0, none⟩]) (by rw [hgetl hal1]; exact ho)
          rw [hsetl hal1] at hA
          have hB := rOrdOut (H.length + 1) S hok (H1.set H.length (oO S.out) ++ [.cells [.int .i64 x.kind, .int .i64 x.later, .int .i64 x.bytes, .int .i64 x.delay, .int .i64 x.under, .int .i64 x.trip] ⟨45, 0, true, 0, none⟩]) (by rw [hgetl (by simp; omega), hset_ne (by omega)]; exact hr)
          rw [hsetl (by simp; omega)] at hB
          have hok' := out_ok S hok
          generalize S.out = S' at hA hB hok'
          repeat first
            | with_reducible refine AWP.seq ?_
            | ((with_reducible refine AWP.region ?_ ?_); exact rfl)
            | with_reducible refine AWP.block ?_
            | with_reducible refine AWP.skip ?_
            | with_reducible refine AWP.exit ?_
            | with_reducible refine AWP.ret ?_
            | with_reducible refine AWP.label ?_
            | with_reducible refine AWP.goto ?_
            | ((with_reducible refine AWP.condT ?_ ?_); focus (simp only [ev, lk_cons, ↓reduceIte, Nat.reduceEqDiff]; done))
            | ((with_reducible refine AWP.condF ?_ ?_); focus (simp only [ev, lk_cons, ↓reduceIte, Nat.reduceEqDiff]; done))
            | with_reducible refine hA.use ?_
            | with_reducible refine hB.use ?_
            | with_reducible refine (hlim S' _).use ?_
            | with_reducible refine (hrlim S' _).use ?_
            | simp only [go_sem, ↓reduceIte, Nat.reduceEqDiff, reduceCtorEq, Nat.reduceAdd, Int.reduceEq, Int.reduceBNe, Int.reduceBEq, Int.reduceToNat, Int.reduceLT, Int.reduceLE, Int.reduceGT, Int.reduceGE, Nat.reduceSub, Nat.reduceBEq, Nat.reduceBNe, Int.reduceAdd, Int.reduceSub, Int.reduceMul, Int.reduceNeg, Nat.reduceMul, Nat.reduceLeDiff, Nat.reduceLT, hc', hi1, hil1, hgetl, hg, hg2, hal, k5', k6']
            | simp (disch := omega) only [wi64, wu8, wu16, wu32, wu64, Int.tdiv_eq_ediv_of_nonneg, Int.tmod_eq_emod_of_nonneg]
            | with_reducible_and_instances exact finR
            | ((with_reducible refine finR' ?_ ?_) <;> rfl)
            | ((with_reducible refine finD hsc (NRel.of_plain ?_)); exact rfl)
          refine ⟨(n + 1, now, (H1.set H.length (oO S')).set (H.length + 1) (rO S') ++ [AObj.cells [.int .i64 x.kind, .int .i64 x.later, .int .i64 x.bytes, .int .i64 x.delay, .int .i64 x.under, .int .i64 x.trip] ⟨45, 0, true, 0, none⟩]), Weak.env (by simp [envIn, lk_cons, wth_some, hal]), by simp; omega, by simp only; omega, by simp only; omega, hf2 _ _ _, ⟨S', hok', ga _ _ _, gb _ _ _⟩, by simp; omega⟩
        · have k6' : (x.kind == 6) = false := by simp [k6]
          have hA := Acked H.length S hok x.bytes (H1 ++ [.cells [.int .i64 x.kind, .int .i64 x.later, .int .i64 x.bytes, .int .i64 x.delay, .int .i64 x.under, .int .i64 x.trip] ⟨45, 0, true, 0, none⟩]) (by rw [hgetl hal1]; exact ho)
          rw [hsetl hal1] at hA
          have hB := rAcked (H.length + 1) S hok x.bytes (H1.set H.length (oO (S.acked x.bytes)) ++ [.cells [.int .i64 x.kind, .int .i64 x.later, .int .i64 x.bytes, .int .i64 x.delay, .int .i64 x.under, .int .i64 x.trip] ⟨45, 0, true, 0, none⟩]) (by rw [hgetl (by simp; omega), hset_ne (by omega)]; exact hr)
          rw [hsetl (by simp; omega)] at hB
          have hok' := acked_ok S hok x.bytes
          generalize S.acked x.bytes = S' at hA hB hok'
          generalize ackE x.bytes = ee at hA hB
          repeat first
            | with_reducible refine AWP.seq ?_
            | ((with_reducible refine AWP.region ?_ ?_); exact rfl)
            | with_reducible refine AWP.block ?_
            | with_reducible refine AWP.skip ?_
            | with_reducible refine AWP.exit ?_
            | with_reducible refine AWP.ret ?_
            | with_reducible refine AWP.label ?_
            | with_reducible refine AWP.goto ?_
            | ((with_reducible refine AWP.condT ?_ ?_); focus (simp only [ev, lk_cons, ↓reduceIte, Nat.reduceEqDiff]; done))
            | ((with_reducible refine AWP.condF ?_ ?_); focus (simp only [ev, lk_cons, ↓reduceIte, Nat.reduceEqDiff]; done))
            | simp only [go_sem, ↓reduceIte, Nat.reduceEqDiff, reduceCtorEq, Nat.reduceAdd, Int.reduceEq, Int.reduceBNe, Int.reduceBEq, Int.reduceToNat, Int.reduceLT, Int.reduceLE, Int.reduceGT, Int.reduceGE, Nat.reduceSub, Nat.reduceBEq, Nat.reduceBNe, Int.reduceAdd, Int.reduceSub, Int.reduceMul, Int.reduceNeg, Nat.reduceMul, Nat.reduceLeDiff, Nat.reduceLT, hc', hi1, hil1, hgetl, hg, hg2, hal, k5', k6']
            | simp (disch := omega) only [wi64, wu8, wu16, wu32, wu64, Int.tdiv_eq_ediv_of_nonneg, Int.tmod_eq_emod_of_nonneg]
            | with_reducible_and_instances exact finR
            | ((with_reducible refine finR' ?_ ?_) <;> rfl)
            | ((with_reducible refine finD hsc (NRel.of_plain ?_)); exact rfl)
          refine AWP.regionE 7 3 (by kernel_rfl) (by decide) (by kernel_rfl) (by kernel_rfl) rfl ?_
          repeat first
            | with_reducible refine AWP.seq ?_
            | ((with_reducible refine AWP.region ?_ ?_); exact rfl)
            | with_reducible refine AWP.block ?_
            | with_reducible refine AWP.skip ?_
            | with_reducible refine AWP.exit ?_
            | with_reducible refine AWP.ret ?_
            | with_reducible refine AWP.label ?_
            | with_reducible refine AWP.goto ?_
            | ((with_reducible refine AWP.condT ?_ ?_); focus (simp only [ev, lk_cons, ↓reduceIte, Nat.reduceEqDiff]; done))
            | ((with_reducible refine AWP.condF ?_ ?_); focus (simp only [ev, lk_cons, ↓reduceIte, Nat.reduceEqDiff]; done))
            | with_reducible refine hA.use ?_
            | with_reducible refine hB.use ?_
            | with_reducible refine (hlim S' _).use ?_
            | with_reducible refine (hrlim S' _).use ?_
            | simp only [go_sem, ↓reduceIte, Nat.reduceEqDiff, reduceCtorEq, Nat.reduceAdd, Int.reduceEq, Int.reduceBNe, Int.reduceBEq, Int.reduceToNat, Int.reduceLT, Int.reduceLE, Int.reduceGT, Int.reduceGE, Nat.reduceSub, Nat.reduceBEq, Nat.reduceBNe, Int.reduceAdd, Int.reduceSub, Int.reduceMul, Int.reduceNeg, Nat.reduceMul, Nat.reduceLeDiff, Nat.reduceLT, hi1, hil1, hgetl, keepW, dstV, exists_eq_left, hal]
            | simp (disch := omega) only [wi64, wu8, wu16, wu32, wu64, Int.tdiv_eq_ediv_of_nonneg, Int.tmod_eq_emod_of_nonneg]
            | with_reducible_and_instances exact finR
            | ((with_reducible refine finR' ?_ ?_) <;> rfl)
            | ((with_reducible refine finD hsc (NRel.of_plain ?_)); exact rfl)
          refine ⟨(n + 1, now, (H1.set H.length (oO S')).set (H.length + 1) (rO S') ++ [AObj.cells [.int .i64 x.kind, .int .i64 x.later, .int .i64 x.bytes, .int .i64 x.delay, .int .i64 x.under, .int .i64 x.trip] ⟨45, 0, true, 0, none⟩]), Weak.env (by simp [envIn, lk_cons, wth_some, hal]), by simp; omega, by simp only; omega, by simp only; omega, hf2 _ _ _, ⟨S', hok', ga _ _ _, gb _ _ _⟩, by simp; omega⟩
    · have : n = l.length := by omega
      subst this
      have hc' : ¬ (l.length : Int) < (l.length : Int) := by omega
      obtain ⟨Y, rfl⟩ := hf.split (by simp)
      repeat first
        | with_reducible refine AWP.seq ?_
        | ((with_reducible refine AWP.region ?_ ?_); exact rfl)
        | with_reducible refine AWP.block ?_
        | with_reducible refine AWP.skip ?_
        | with_reducible refine AWP.exit ?_
        | with_reducible refine AWP.ret ?_
        | with_reducible refine AWP.label ?_
        | with_reducible refine AWP.goto ?_
        | ((with_reducible refine AWP.condT ?_ ?_); focus (simp only [ev, lk_cons, ↓reduceIte, Nat.reduceEqDiff]; done))
        | ((with_reducible refine AWP.condF ?_ ?_); focus (simp only [ev, lk_cons, ↓reduceIte, Nat.reduceEqDiff]; done))
        | with_reducible refine (awake _).use ?_
        | simp only [go_sem, ↓reduceIte, Nat.reduceEqDiff, reduceCtorEq, Nat.reduceAdd, Int.reduceEq, Int.reduceBNe, Int.reduceBEq, Int.reduceToNat, Int.reduceLT, Int.reduceLE, Int.reduceGT, Int.reduceGE, Nat.reduceSub, Nat.reduceBEq, Nat.reduceBNe, Int.reduceAdd, Int.reduceSub, Int.reduceMul, Int.reduceNeg, Nat.reduceMul, Nat.reduceLeDiff, Nat.reduceLT, hc']
        | simp (disch := omega) only [wi64, wu8, wu16, wu32, wu64, Int.tdiv_eq_ediv_of_nonneg, Int.tmod_eq_emod_of_nonneg]
        | with_reducible_and_instances exact finR
        | ((with_reducible refine finR' ?_ ?_) <;> rfl)
        | ((with_reducible refine finD hsc (NRel.of_plain ?_)); exact rfl)
end Go.Proofs.Ytoikchnpflnehaa
