/-
  The walk of DelayYields.
-/
import Derived.Test.YtoikchnpflnehaaGJ
set_option linter.unusedVariables false
set_option linter.unusedSimpArgs false
set_option maxRecDepth 20000
namespace Go.Proofs.Ytoikchnpflnehaa
open Go Go.Aw Go.Proofs
abbrev boxA (x : ActS) : AObj := .cells [.int .i64 x.kind, .int .i64 x.later, .int .i64 x.bytes, .int .i64 x.delay, .int .i64 x.under, .int .i64 x.trip] ⟨45, 0, true, 0, none⟩
def ctl0 (t : Int) : Ctl := ⟨0, 0, false, t, 3000, [], []⟩
theorem ctl0_at (t : Int) (H : AHeap) : CtlAt (H ++ [cO (ctl0 t) (.slice none 0 0) (.slice none 0 0)]) H.length (ctl0 t) (.slice none 0 0) (.slice none 0 0) [] [] :=
  ⟨hget0 rfl, .inl ⟨rfl, rfl, rfl, rfl⟩, .inl ⟨rfl, rfl, rfl, rfl⟩, by simp, by simp, by simp⟩
/-- Second and late losses of a round trip. -/
theorem losses (C : Ctl) (now trip : Int) (hn : C.now = now) (h0 : 0 ≤ now ∧ now ≤ 900000000) (ht : 1 < trip ∧ trip ≤ 60000) :
    clossE C now trip = 0 ∧ clossE (C.loss now trip) now trip = 0 ∧ clossB (C.loss now trip) now trip = false ∧
    clossE ((C.loss now trip).loss now trip) (now + (trip - 1)) trip = 0 ∧ (clossB C now trip = true → clossB ((C.loss now trip).loss now trip) (now + (trip - 1)) trip = false) := by
  have hT : tripD trip := ⟨by omega, ht.2⟩
  have hD1 : clossD C now trip := ⟨hT, by unfold tellD; omega⟩
  have e1 : C.loss now trip = (C.at_ now).lose trip := if_pos hD1
  have hn1 : ((C.at_ now).lose trip).now = now := by unfold Ctl.lose; split <;> rfl
  have hc1 : closeD ((C.at_ now).lose trip) trip := by
    unfold Ctl.lose
    split
    · rename_i h; exact h
    · exact ⟨rfl, by show now - now < max 1 trip; omega⟩
  have ha1 : ((C.at_ now).lose trip).at_ now = (C.at_ now).lose trip := by unfold Ctl.lose; split <;> rfl
  have hD2 : clossD ((C.at_ now).lose trip) now trip := ⟨hT, by unfold tellD; rw [hn1]; omega⟩
  have e2 : ((C.at_ now).lose trip).loss now trip = (C.at_ now).lose trip := by
    have : ((C.at_ now).lose trip).loss now trip = (((C.at_ now).lose trip).at_ now).lose trip := if_pos hD2
    rw [this, ha1]; exact if_pos hc1
  have hD3 : clossD ((C.at_ now).lose trip) (now + (trip - 1)) trip := ⟨hT, by unfold tellD; rw [hn1]; omega⟩
  rw [e1, e2]
  refine ⟨if_pos hD1, if_pos hD2, ?_, if_pos hD3, fun hb => ?_⟩
  · unfold clossB; rw [ha1, decide_eq_false (not_not_intro hc1), Bool.and_false]
  · have hnc : ¬ closeD (C.at_ now) trip := by
      unfold clossB at hb; simp only [Bool.and_eq_true, decide_eq_true_eq] at hb; exact hb.2
    have e3 : (C.at_ now).lose trip = ⟨now, now, true, C.target, max (C.limit / 2) 1500, C.last, C.past⟩ := if_neg hnc
    unfold clossB
    rw [decide_eq_false (not_not_intro ?_), Bool.and_false]
    rw [e3]
    exact ⟨rfl, by show now + (trip - 1) - now < max 1 trip; omega⟩
theorem loss_same (C : Ctl) (t trip : Int) : (C.loss t trip).last = C.last ∧ (C.loss t trip).past = C.past ∧ (C.loss t trip).now ≤ max C.now t := by
  unfold Ctl.loss
  split
  · unfold Ctl.lose
    split
    · exact ⟨rfl, rfl, by show t ≤ max C.now t; omega⟩
    · exact ⟨rfl, rfl, by show t ≤ max C.now t; omega⟩
  · exact ⟨rfl, rfl, by omega⟩
set_option maxHeartbeats 8000000 in
theorem lawYields (tg : Int) (l : List ActS) (v : Value) (H : AHeap) (hv : RdN H 6 v (actsC l)) : ARet Try.prog 5 [.int .i64 tg, v] H (.bool true) H := by
  have hal : (actsC l).length = l.length := by simp [actsC]
  have q1 : ∀ H' K, lenW Try.prog 39 v H' K = K (.int .i64 (l.length : Nat)) H' := fun H' K => by rw [hv.lenT (by simp only [go_sem, ↓reduceIte, Nat.reduceEqDiff, reduceCtorEq, Nat.reduceAdd, Int.reduceEq, Int.reduceBNe, Int.reduceBEq, Int.reduceToNat, Int.reduceLT, Int.reduceLE, Int.reduceGT, Int.reduceGE, Nat.reduceSub, Nat.reduceBEq, Nat.reduceBNe, Int.reduceAdd, Int.reduceSub, Int.reduceMul, Int.reduceNeg, Nat.reduceMul, Nat.reduceLeDiff, Nat.reduceLT]), hal]
  have hlt := light l v H hv
  cases hll : lightL l with
  | false =>
    rw [hll] at hlt
    refine AC.enter Try.func5 rfl (by kernel_rfl) 149 rfl [.tmp 4] rfl (by simp) fun hsc B => ?_
    repeat first
      | with_reducible refine AWP.seq ?_
      | ((with_reducible refine AWP.region ?_ ?_); exact rfl)
      | with_reducible refine AWP.block ?_
      | with_reducible refine AWP.skip ?_
      | with_reducible refine AWP.exit ?_
      | with_reducible refine AWP.ret ?_
      | with_reducible refine AWP.label ?_
      | with_reducible refine AWP.goto ?_
      | ((with_reducible refine AWP.condT ?_ ?_); focus (simp only [ev, lk_cons, ↓reduceIte, Nat.reduceEqDiff]; done))
      | ((with_reducible refine AWP.condF ?_ ?_); focus (simp only [ev, lk_cons, ↓reduceIte, Nat.reduceEqDiff]; done))
      | with_reducible refine hlt.use ?_
      | with_reducible refine (awake _).use ?_
      | simp only [go_sem, ↓reduceIte, Nat.reduceEqDiff, reduceCtorEq, Nat.reduceAdd, Int.reduceEq, Int.reduceBNe, Int.reduceBEq, Int.reduceToNat, Int.reduceLT, Int.reduceLE, Int.reduceGT, Int.reduceGE, Nat.reduceSub, Nat.reduceBEq, Nat.reduceBNe, Int.reduceAdd, Int.reduceSub, Int.reduceMul, Int.reduceNeg, Nat.reduceMul, Nat.reduceLeDiff, Nat.reduceLT]
      | simp (disch := omega) only [wi64, wu8, wu16, wu32, wu64, Int.tdiv_eq_ediv_of_nonneg, Int.tmod_eq_emod_of_nonneg]
      | with_reducible_and_instances exact finR
      | ((with_reducible refine finR' ?_ ?_) <;> rfl)
      | ((with_reducible refine finD hsc (NRel.of_plain ?_)); exact rfl)
  | true =>
    rw [hll] at hlt
    have hll' := hll
    unfold lightL at hll'
    simp only [Bool.and_eq_true, decide_eq_true_eq, List.all_eq_true, Bool.not_eq_true', decide_eq_false_iff_not] at hll'
    obtain ⟨h80, hfar⟩ := hll'
    have hN := New tg H
    by_cases htg : 1 ≤ tg ∧ tg ≤ 1000
    · rw [if_pos htg, if_pos htg] at hN
      have hN : ARet Try.prog 20 [.int .i64 tg] H (.tuple ⟨[.pointer (some ⟨H.length, 0, none⟩), .int .i64 0]⟩) (H ++ [cO (ctl0 tg) (.slice none 0 0) (.slice none 0 0)]) := hN
      refine AC.enter Try.func5 rfl (by kernel_rfl) 149 rfl [.tmp 4] rfl (by simp) fun hsc B => ?_
      repeat first
        | with_reducible refine AWP.seq ?_
        | ((with_reducible refine AWP.region ?_ ?_); exact rfl)
        | with_reducible refine AWP.block ?_
        | with_reducible refine AWP.skip ?_
        | with_reducible refine AWP.exit ?_
        | with_reducible refine AWP.ret ?_
        | with_reducible refine AWP.label ?_
        | with_reducible refine AWP.goto ?_
        | ((with_reducible refine AWP.condT ?_ ?_); focus (simp only [ev, lk_cons, ↓reduceIte, Nat.reduceEqDiff]; done))
        | ((with_reducible refine AWP.condF ?_ ?_); focus (simp only [ev, lk_cons, ↓reduceIte, Nat.reduceEqDiff]; done))
        | with_reducible refine hlt.use ?_
        | with_reducible refine hN.use ?_
        | simp only [go_sem, ↓reduceIte, Nat.reduceEqDiff, reduceCtorEq, Nat.reduceAdd, Int.reduceEq, Int.reduceBNe, Int.reduceBEq, Int.reduceToNat, Int.reduceLT, Int.reduceLE, Int.reduceGT, Int.reduceGE, Nat.reduceSub, Nat.reduceBEq, Nat.reduceBNe, Int.reduceAdd, Int.reduceSub, Int.reduceMul, Int.reduceNeg, Nat.reduceMul, Nat.reduceLeDiff, Nat.reduceLT, q1]
        | simp (disch := omega) only [wi64, wu8, wu16, wu32, wu64, Int.tdiv_eq_ediv_of_nonneg, Int.tmod_eq_emod_of_nonneg]
        | with_reducible_and_instances exact finR
        | ((with_reducible refine finR' ?_ ?_) <;> rfl)
        | ((with_reducible refine finD hsc (NRel.of_plain ?_)); exact rfl)
      refine AWP.loopP (fun s : Nat × Int × AHeap => ⟨[(0, .int .i64 tg), (1, v), (5, .pointer (some ⟨H.length, 0, none⟩)), (7, .int .i64 s.2.1), (31, v), (32, .int .i64 (l.length : Nat)), (33, .int .i64 (s.1 : Nat))], [], s.2.2⟩)
        (fun s => s.1 ≤ l.length ∧ (0 ≤ s.2.1 ∧ s.2.1 ≤ s.1 * 1060000) ∧ ∃ C : Ctl, C.inv tg s.1 ∧ C.now ≤ s.2.1 ∧ Stg (H ++ [cO (ctl0 tg) (.slice none 0 0) (.slice none 0 0)]) H.length [] [] C s.2.2) (fun s => l.length - s.1) (0, 0, H ++ [cO (ctl0 tg) (.slice none 0 0) (.slice none 0 0)]) ?_ ?_ ?_
      · exact Weak.env (by simp [envIn, lk_cons, wth_some])
      · exact ⟨Nat.zero_le _, by simp, ctl0 tg, ⟨⟨by simp [ctl0], htg, by simp [ctl0], by simp [ctl0]⟩, by simp [ctl0], rfl, Nat.le_refl _⟩, Int.le_refl _, .start (ctl0_at tg H)⟩
      rintro ⟨n, now, H1⟩ ⟨hn, hnow, C, hI, hCn, hS⟩
      simp only at hn hnow hI hCn hS
      have hf := hS.frm
      by_cases hc : n < l.length
      · have hc' : (n : Int) < (l.length : Int) := by omega
        rcases hv with ⟨rfl, e1⟩ | ⟨i, o, cap, cs, k, rfl, hi, hle, hrr⟩
        · have : l.length = 0 := by rw [← hal, e1]; rfl
          omega
        have hil := lt_of_get hi
        have hi1 : H1[i]? = some (.cells cs k) := hf.get (j := i) (o := .cells cs k) (by rw [hgetl hil]; exact hi) (by simp; omega)
        have hil1 := lt_of_get hi1
        obtain ⟨hg, hg2⟩ := act_get (H := H) (i := i) (cap := cap) (k := k) (hle (by intro e; rw [e] at hal; simp at hal; omega)) hrr hc
        have hfx := hfar l[n] (List.getElem_mem _)
        generalize l[n] = x at hg hfx
        unfold farA at hfx
        simp only [actC] at hg
        by_cases hneg : x.later < 0
        · obtain ⟨Y, rfl⟩ := hf.split (by simp)
          repeat first
            | with_reducible refine AWP.seq ?_
            | ((with_reducible refine AWP.region ?_ ?_); exact rfl)
            | with_reducible refine AWP.block ?_
            | with_reducible refine AWP.skip ?_
            | with_reducible refine AWP.exit ?_
            | with_reducible refine AWP.ret ?_
            | with_reducible refine AWP.label ?_
            | with_reducible refine AWP.goto ?_
            | ((with_reducible refine AWP.condT ?_ ?_); focus (simp only [ev, lk_cons, ↓reduceIte, Nat.reduceEqDiff]; done))
            | ((with_reducible refine AWP.condF ?_ ?_); focus (simp only [ev, lk_cons, ↓reduceIte, Nat.reduceEqDiff]; done))
            | with_reducible refine (awake _).use ?_
            | simp only [go_sem, ↓reduceIte, Nat.reduceEqDiff, reduceCtorEq, Nat.reduceAdd, Int.reduceEq, Int.reduceBNe, Int.reduceBEq, Int.reduceToNat, Int.reduceLT, Int.reduceLE, Int.reduceGT, Int.reduceGE, Nat.reduceSub, Nat.reduceBEq, Nat.reduceBNe, Int.reduceAdd, Int.reduceSub, Int.reduceMul, Int.reduceNeg, Nat.reduceMul, Nat.reduceLeDiff, Nat.reduceLT, hc', hi1, hil1, hgetl, hg, hg2, hal, hneg]
            | simp (disch := omega) only [wi64, wu8, wu16, wu32, wu64, Int.tdiv_eq_ediv_of_nonneg, Int.tmod_eq_emod_of_nonneg]
            | with_reducible_and_instances exact finR
            | ((with_reducible refine finR' ?_ ?_) <;> rfl)
            | ((with_reducible refine finD hsc (NRel.of_plain ?_)); exact rfl)
        · obtain ⟨⟨lv, pv, T1, T2, hC, k1, k2⟩, _⟩ := hS
          have hCb := hC.more [boxA x]
          have hLim := Limit H.length C lv pv T1 T2 _ hCb
          have hSm := Sample H.length C hI.ok lv pv T1 T2 (now + x.later) x.bytes x.delay x.under (by have := hI.past; omega) _ hCb
          have hcl := lt_of_get hC.at_
          have hsi := sample_inv C tg n hI (now + x.later) x.bytes x.delay x.under
          repeat first
            | with_reducible refine AWP.seq ?_
            | ((with_reducible refine AWP.region ?_ ?_); exact rfl)
            | with_reducible refine AWP.block ?_
            | with_reducible refine AWP.skip ?_
            | with_reducible refine AWP.exit ?_
            | with_reducible refine AWP.ret ?_
            | with_reducible refine AWP.label ?_
            | with_reducible refine AWP.goto ?_
            | ((with_reducible refine AWP.condT ?_ ?_); focus (simp only [ev, lk_cons, ↓reduceIte, Nat.reduceEqDiff]; done))
            | ((with_reducible refine AWP.condF ?_ ?_); focus (simp only [ev, lk_cons, ↓reduceIte, Nat.reduceEqDiff]; done))
            | with_reducible refine hLim.use ?_
            | simp only [go_sem, ↓reduceIte, Nat.reduceEqDiff, reduceCtorEq, Nat.reduceAdd, Int.reduceEq, Int.reduceBNe, Int.reduceBEq, Int.reduceToNat, Int.reduceLT, Int.reduceLE, Int.reduceGT, Int.reduceGE, Nat.reduceSub, Nat.reduceBEq, Nat.reduceBNe, Int.reduceAdd, Int.reduceSub, Int.reduceMul, Int.reduceNeg, Nat.reduceMul, Nat.reduceLeDiff, Nat.reduceLT, hc', hi1, hil1, hgetl, hg, hg2, hal, hneg]
            | simp (disch := omega) only [wi64, wu8, wu16, wu32, wu64, Int.tdiv_eq_ediv_of_nonneg, Int.tmod_eq_emod_of_nonneg]
            | with_reducible_and_instances exact finR
            | ((with_reducible refine finR' ?_ ?_) <;> rfl)
            | ((with_reducible refine finD hsc (NRel.of_plain ?_)); exact rfl)
          refine hSm.mono ?_
          rintro r H2 ⟨rfl, ⟨lv2, pv2, U1, U2, hC2, j1, j2⟩, hf2⟩
          have hnotin : H1.length ∉ H.length :: (T1 ++ T2) := by
            intro hm
            rcases List.mem_cons.1 hm with e | hm
            · omega
            · rcases List.mem_append.1 hm with hm | hm
              · have := hC.last.lt _ hm; omega
              · have := hC.past.lt _ hm; omega
          have gbx : H2[H1.length]? = some (boxA x) := hf2.get (hget0 rfl) hnotin
          have hcne : H.length ≠ H1.length := by omega
          have hcl2 := lt_of_get hC2.at_
          have hfin : ∀ (C' : Ctl) (H3 : AHeap), CtlAt H3 H.length C' lv2 pv2 U1 U2 → Frm [H.length] H2 H3 → Stg (H ++ [cO (ctl0 tg) (.slice none 0 0) (.slice none 0 0)]) H.length [] [] C' H3 := fun C' H3 h3 f3 =>
            .step1 k1 k2 hf h3 (((Frm.app (S := H.length :: (T1 ++ T2)) (X := [boxA x])).trans hf2 (fun s hs => .inl hs)).trans (f3.mono (by simp)) (fun s hs => .inl hs)) (fun s hs => (j1 s hs).imp id (fun h => by simp at h; omega)) (fun s hs => (j2 s hs).imp id (fun h => by simp at h; omega))
          obtain ⟨hsi, hsn⟩ := hsi
          by_cases hd : sampleD C (now + x.later) x.bytes x.delay x.under
          · have hE : sampleE C (now + x.later) x.bytes x.delay x.under = 0 := if_pos hd
            have hCn' : (C.sampleL (now + x.later) x.bytes x.delay x.under).now = now + x.later := by rw [sampleL_eq _ _ _ _ _ hd]; rfl
            obtain ⟨y1, y2, y3, y4⟩ := yields C hI.ok (now + x.later) x.bytes x.delay x.under hd
            rw [hE]
            generalize C.sampleL (now + x.later) x.bytes x.delay x.under = C' at *
            generalize queueL (C.taken (now + x.later) x.delay) = Q at y2 y3 y4
            rw [hI.target] at y3 y4
            have hQ := Queueing H.length C' lv2 pv2 U1 U2 (by have := hsi.ok.last; omega) (by have := hsi.past; omega) H2 hC2
            rw [y1, y2] at hQ
            have hLim2 := Limit H.length C' lv2 pv2 U1 U2 H2 hC2
            repeat first
              | with_reducible refine AWP.seqJ (x := .seq (.region 16 _ _) _) ⟨[(0, .int .i64 tg), (1, .slice (some ⟨i, o, none⟩) (actsC l).length cap), (5, .pointer (some ⟨H.length, 0, none⟩)), (7, .int .i64 (now + x.later)), (9, .pointer (some ⟨H1.length, 0, none⟩)), (31, .slice (some ⟨i, o, none⟩) (actsC l).length cap), (32, .int .i64 (l.length : Nat)), (33, .int .i64 (n : Nat))], [], H2⟩ ?_ ?_
              | with_reducible refine AWP.seq ?_
              | ((with_reducible refine AWP.region ?_ ?_); exact rfl)
              | with_reducible refine AWP.block ?_
              | with_reducible refine AWP.skip ?_
              | with_reducible refine AWP.exit ?_
              | with_reducible refine AWP.ret ?_
              | with_reducible refine AWP.label ?_
              | with_reducible refine AWP.goto ?_
              | ((with_reducible refine AWP.condT ?_ ?_); focus (simp only [ev, lk_cons, ↓reduceIte, Nat.reduceEqDiff]; done))
              | ((with_reducible refine AWP.condF ?_ ?_); focus (simp only [ev, lk_cons, ↓reduceIte, Nat.reduceEqDiff]; done))
              | with_reducible refine hQ.use ?_
              | with_reducible refine hLim2.use ?_
              | simp only [go_sem, ↓reduceIte, Nat.reduceEqDiff, reduceCtorEq, Nat.reduceAdd, Int.reduceEq, Int.reduceBNe, Int.reduceBEq, Int.reduceToNat, Int.reduceLT, Int.reduceLE, Int.reduceGT, Int.reduceGE, Nat.reduceSub, Nat.reduceBEq, Nat.reduceBNe, Int.reduceAdd, Int.reduceSub, Int.reduceMul, Int.reduceNeg, Nat.reduceMul, Nat.reduceLeDiff, Nat.reduceLT]
              | simp (disch := omega) only [wi64, wu8, wu16, wu32, wu64, Int.tdiv_eq_ediv_of_nonneg, Int.tmod_eq_emod_of_nonneg]
              | with_reducible_and_instances exact finR
              | ((with_reducible refine finR' ?_ ?_) <;> rfl)
              | ((with_reducible refine finD hsc (NRel.of_plain ?_)); exact rfl)
            · by_cases a1 : Q ≥ tg
              · have b1 : ¬ C'.limit > C.limit := by have := y3 a1; omega
                by_cases a2 : Q ≤ tg
                · have b2 : ¬ C'.limit < C.limit := by have := y4 a2; omega
                  repeat first
                    | with_reducible refine AWP.seq ?_
                    | ((with_reducible refine AWP.region ?_ ?_); exact rfl)
                    | with_reducible refine AWP.block ?_
                    | with_reducible refine AWP.skip ?_
                    | with_reducible refine AWP.exit ?_
                    | with_reducible refine AWP.ret ?_
                    | with_reducible refine AWP.label ?_
                    | with_reducible refine AWP.goto ?_
                    | ((with_reducible refine AWP.condT ?_ ?_); focus (simp only [ev, lk_cons, ↓reduceIte, Nat.reduceEqDiff]; done))
                    | ((with_reducible refine AWP.condF ?_ ?_); focus (simp only [ev, lk_cons, ↓reduceIte, Nat.reduceEqDiff]; done))
                    | with_reducible refine hLim2.use ?_
                    | simp only [go_sem, ↓reduceIte, Nat.reduceEqDiff, reduceCtorEq, Nat.reduceAdd, Int.reduceEq, Int.reduceBNe, Int.reduceBEq, Int.reduceToNat, Int.reduceLT, Int.reduceLE, Int.reduceGT, Int.reduceGE, Nat.reduceSub, Nat.reduceBEq, Nat.reduceBNe, Int.reduceAdd, Int.reduceSub, Int.reduceMul, Int.reduceNeg, Nat.reduceMul, Nat.reduceLeDiff, Nat.reduceLT, a1, a2, b1, b2]
                    | simp (disch := omega) only [wi64, wu8, wu16, wu32, wu64, Int.tdiv_eq_ediv_of_nonneg, Int.tmod_eq_emod_of_nonneg]
                    | with_reducible_and_instances exact finR
                    | ((with_reducible refine finR' ?_ ?_) <;> rfl)
                    | ((with_reducible refine finD hsc (NRel.of_plain ?_)); exact rfl)
                  exact Weak.env (by simp [envIn, lk_cons, wth_some, hal])
                · skip
                  repeat first
                    | with_reducible refine AWP.seq ?_
                    | ((with_reducible refine AWP.region ?_ ?_); exact rfl)
                    | with_reducible refine AWP.block ?_
                    | with_reducible refine AWP.skip ?_
                    | with_reducible refine AWP.exit ?_
                    | with_reducible refine AWP.ret ?_
                    | with_reducible refine AWP.label ?_
                    | with_reducible refine AWP.goto ?_
                    | ((with_reducible refine AWP.condT ?_ ?_); focus (simp only [ev, lk_cons, ↓reduceIte, Nat.reduceEqDiff]; done))
                    | ((with_reducible refine AWP.condF ?_ ?_); focus (simp only [ev, lk_cons, ↓reduceIte, Nat.reduceEqDiff]; done))
                    | with_reducible refine hLim2.use ?_
                    | simp only [go_sem, ↓reduceIte, Nat.reduceEqDiff, reduceCtorEq, Nat.reduceAdd, Int.reduceEq, Int.reduceBNe, Int.reduceBEq, Int.reduceToNat, Int.reduceLT, Int.reduceLE, Int.reduceGT, Int.reduceGE, Nat.reduceSub, Nat.reduceBEq, Nat.reduceBNe, Int.reduceAdd, Int.reduceSub, Int.reduceMul, Int.reduceNeg, Nat.reduceMul, Nat.reduceLeDiff, Nat.reduceLT, a1, a2, b1]
                    | simp (disch := omega) only [wi64, wu8, wu16, wu32, wu64, Int.tdiv_eq_ediv_of_nonneg, Int.tmod_eq_emod_of_nonneg]
                    | with_reducible_and_instances exact finR
                    | ((with_reducible refine finR' ?_ ?_) <;> rfl)
                    | ((with_reducible refine finD hsc (NRel.of_plain ?_)); exact rfl)
                  exact Weak.env (by simp [envIn, lk_cons, wth_some, hal])
              · have a2 : Q ≤ tg := by omega
                have b2 : ¬ C'.limit < C.limit := by have := y4 a2; omega
                repeat first
                  | with_reducible refine AWP.seq ?_
                  | ((with_reducible refine AWP.region ?_ ?_); exact rfl)
                  | with_reducible refine AWP.block ?_
                  | with_reducible refine AWP.skip ?_
                  | with_reducible refine AWP.exit ?_
                  | with_reducible refine AWP.ret ?_
                  | with_reducible refine AWP.label ?_
                  | with_reducible refine AWP.goto ?_
                  | ((with_reducible refine AWP.condT ?_ ?_); focus (simp only [ev, lk_cons, ↓reduceIte, Nat.reduceEqDiff]; done))
                  | ((with_reducible refine AWP.condF ?_ ?_); focus (simp only [ev, lk_cons, ↓reduceIte, Nat.reduceEqDiff]; done))
                  | with_reducible refine hLim2.use ?_
                  | simp only [go_sem, ↓reduceIte, Nat.reduceEqDiff, reduceCtorEq, Nat.reduceAdd, Int.reduceEq, Int.reduceBNe, Int.reduceBEq, Int.reduceToNat, Int.reduceLT, Int.reduceLE, Int.reduceGT, Int.reduceGE, Nat.reduceSub, Nat.reduceBEq, Nat.reduceBNe, Int.reduceAdd, Int.reduceSub, Int.reduceMul, Int.reduceNeg, Nat.reduceMul, Nat.reduceLeDiff, Nat.reduceLT, a1, a2, b2]
                  | simp (disch := omega) only [wi64, wu8, wu16, wu32, wu64, Int.tdiv_eq_ediv_of_nonneg, Int.tmod_eq_emod_of_nonneg]
                  | with_reducible_and_instances exact finR
                  | ((with_reducible refine finR' ?_ ?_) <;> rfl)
                  | ((with_reducible refine finD hsc (NRel.of_plain ?_)); exact rfl)
                exact Weak.env (by simp [envIn, lk_cons, wth_some, hal])
            · by_cases h5 : x.kind = 5 ∧ 1 < x.trip ∧ x.trip ≤ 60000
              · obtain ⟨h5, h6, h7⟩ := h5
                have h5' : (x.kind == 5) = true := by simp [h5]
                have h6' : x.trip > 1 := h6
                have h7' := h7
                obtain ⟨m1, m2, m3, m4, m5⟩ := losses C' (now + x.later) x.trip hCn' (by omega) ⟨h6, h7⟩
                have v3 := (loss_inv C' tg (n + 1) hsi (now + x.later) x.trip).1
                have v4 := (loss_inv _ tg (n + 1) v3 (now + x.later) x.trip).1
                have v5 := (loss_inv _ tg (n + 1) v4 (now + x.later + (x.trip - 1)) x.trip).1
                obtain ⟨u1, u2, u3⟩ := loss_same C' (now + x.later) x.trip
                obtain ⟨u4, u5, u6⟩ := loss_same (C'.loss (now + x.later) x.trip) (now + x.later) x.trip
                obtain ⟨u7, u8, u9⟩ := loss_same ((C'.loss (now + x.later) x.trip).loss (now + x.later) x.trip) (now + x.later + (x.trip - 1)) x.trip
                have hA := cLoss H.length C' lv2 pv2 hsi.ok hsi.halved (now + x.later) x.trip H2 hC2.at_
                have hB := cLoss H.length _ lv2 pv2 v3.ok v3.halved (now + x.later) x.trip (H2.set H.length (cO (C'.loss (now + x.later) x.trip) lv2 pv2)) (hset_self hcl2)
                have hD := cLoss H.length _ lv2 pv2 v4.ok v4.halved (now + x.later + (x.trip - 1)) x.trip (H2.set H.length (cO ((C'.loss (now + x.later) x.trip).loss (now + x.later) x.trip) lv2 pv2)) (hset_self hcl2)
                rw [m1] at hA
                rw [hset_set, m2, m3] at hB
                rw [hset_set, m4] at hD
                have hC5 : CtlAt (H2.set H.length (cO (((C'.loss (now + x.later) x.trip).loss (now + x.later) x.trip).loss (now + x.later + (x.trip - 1)) x.trip) lv2 pv2)) H.length (((C'.loss (now + x.later) x.trip).loss (now + x.later) x.trip).loss (now + x.later + (x.trip - 1)) x.trip) lv2 pv2 U1 U2 :=
                  hC2.put (by rw [u7, u4, u1]) (by rw [u8, u5, u2])
                generalize (C'.loss (now + x.later) x.trip).loss (now + x.later) x.trip = C4 at *
                generalize C'.loss (now + x.later) x.trip = C3 at *
                generalize C4.loss (now + x.later + (x.trip - 1)) x.trip = C5 at *
                generalize clossB C' (now + x.later) x.trip = fb at *
                generalize clossB C4 (now + x.later + (x.trip - 1)) x.trip = lb at *
                have w1 : IntKind.i64.wrap (x.trip - 1) = x.trip - 1 := IntWalk.i64_in _ (by omega)
                have w2 : IntKind.i64.wrap (now + x.later + (x.trip - 1)) = now + x.later + (x.trip - 1) := IntWalk.i64_in _ (by omega)
                have hend := fun (h : C5.now ≤ now + x.later + (x.trip - 1)) => hfin C5 _ hC5 ((Frm.refl [H.length] H2).set (.inl (by simp)))
                cases fb with
                | true =>
                  have hlb : lb = false := m5 rfl
                  subst hlb
                  repeat first
                    | with_reducible refine AWP.seq ?_
                    | ((with_reducible refine AWP.region ?_ ?_); exact rfl)
                    | with_reducible refine AWP.block ?_
                    | with_reducible refine AWP.skip ?_
                    | with_reducible refine AWP.exit ?_
                    | with_reducible refine AWP.ret ?_
                    | with_reducible refine AWP.label ?_
                    | with_reducible refine AWP.goto ?_
                    | ((with_reducible refine AWP.condT ?_ ?_); focus (simp only [ev, lk_cons, ↓reduceIte, Nat.reduceEqDiff]; done))
                    | ((with_reducible refine AWP.condF ?_ ?_); focus (simp only [ev, lk_cons, ↓reduceIte, Nat.reduceEqDiff]; done))
                    | with_reducible refine hA.use ?_
                    | with_reducible refine hB.use ?_
                    | with_reducible refine hD.use ?_
                    | simp only [go_sem, ↓reduceIte, Nat.reduceEqDiff, reduceCtorEq, Nat.reduceAdd, Int.reduceEq, Int.reduceBNe, Int.reduceBEq, Int.reduceToNat, Int.reduceLT, Int.reduceLE, Int.reduceGT, Int.reduceGE, Nat.reduceSub, Nat.reduceBEq, Nat.reduceBNe, Int.reduceAdd, Int.reduceSub, Int.reduceMul, Int.reduceNeg, Nat.reduceMul, Nat.reduceLeDiff, Nat.reduceLT, gbx, hcne, hcl2, h5', h6', h7', w1, w2]
                    | simp (disch := omega) only [wi64, wu8, wu16, wu32, wu64, Int.tdiv_eq_ediv_of_nonneg, Int.tmod_eq_emod_of_nonneg]
                    | with_reducible_and_instances exact finR
                    | ((with_reducible refine finR' ?_ ?_) <;> rfl)
                    | ((with_reducible refine finD hsc (NRel.of_plain ?_)); exact rfl)
                  exact ⟨(n + 1, now + x.later + (x.trip - 1), _), Weak.env (by simp [envIn, lk_cons, wth_some, hal]), by simp; omega, by simp only; omega, by simp only; omega, ⟨C5, v5, by simp only; omega, hend (by omega)⟩, by simp; omega⟩
                | false =>
                  cases lb with
                  | true =>
                    repeat first
                      | with_reducible refine AWP.seq ?_
                      | ((with_reducible refine AWP.region ?_ ?_); exact rfl)
                      | with_reducible refine AWP.block ?_
                      | with_reducible refine AWP.skip ?_
                      | with_reducible refine AWP.exit ?_
                      | with_reducible refine AWP.ret ?_
                      | with_reducible refine AWP.label ?_
                      | with_reducible refine AWP.goto ?_
                      | ((with_reducible refine AWP.condT ?_ ?_); focus (simp only [ev, lk_cons, ↓reduceIte, Nat.reduceEqDiff]; done))
                      | ((with_reducible refine AWP.condF ?_ ?_); focus (simp only [ev, lk_cons, ↓reduceIte, Nat.reduceEqDiff]; done))
                      | with_reducible refine hA.use ?_
                      | with_reducible refine hB.use ?_
                      | with_reducible refine hD.use ?_
                      | simp only [go_sem, ↓reduceIte, Nat.reduceEqDiff, reduceCtorEq, Nat.reduceAdd, Int.reduceEq, Int.reduceBNe, Int.reduceBEq, Int.reduceToNat, Int.reduceLT, Int.reduceLE, Int.reduceGT, Int.reduceGE, Nat.reduceSub, Nat.reduceBEq, Nat.reduceBNe, Int.reduceAdd, Int.reduceSub, Int.reduceMul, Int.reduceNeg, Nat.reduceMul, Nat.reduceLeDiff, Nat.reduceLT, gbx, hcne, hcl2, h5', h6', h7', w1, w2]
                      | simp (disch := omega) only [wi64, wu8, wu16, wu32, wu64, Int.tdiv_eq_ediv_of_nonneg, Int.tmod_eq_emod_of_nonneg]
                      | with_reducible_and_instances exact finR
                      | ((with_reducible refine finR' ?_ ?_) <;> rfl)
                      | ((with_reducible refine finD hsc (NRel.of_plain ?_)); exact rfl)
                    exact ⟨(n + 1, now + x.later + (x.trip - 1), _), Weak.env (by simp [envIn, lk_cons, wth_some, hal]), by simp; omega, by simp only; omega, by simp only; omega, ⟨C5, v5, by simp only; omega, hend (by omega)⟩, by simp; omega⟩
                  | false =>
                    repeat first
                      | with_reducible refine AWP.seq ?_
                      | ((with_reducible refine AWP.region ?_ ?_); exact rfl)
                      | with_reducible refine AWP.block ?_
                      | with_reducible refine AWP.skip ?_
                      | with_reducible refine AWP.exit ?_
                      | with_reducible refine AWP.ret ?_
                      | with_reducible refine AWP.label ?_
                      | with_reducible refine AWP.goto ?_
                      | ((with_reducible refine AWP.condT ?_ ?_); focus (simp only [ev, lk_cons, ↓reduceIte, Nat.reduceEqDiff]; done))
                      | ((with_reducible refine AWP.condF ?_ ?_); focus (simp only [ev, lk_cons, ↓reduceIte, Nat.reduceEqDiff]; done))
                      | with_reducible refine hA.use ?_
                      | with_reducible refine hB.use ?_
                      | with_reducible refine hD.use ?_
                      | simp only [go_sem, ↓reduceIte, Nat.reduceEqDiff, reduceCtorEq, Nat.reduceAdd, Int.reduceEq, Int.reduceBNe, Int.reduceBEq, Int.reduceToNat, Int.reduceLT, Int.reduceLE, Int.reduceGT, Int.reduceGE, Nat.reduceSub, Nat.reduceBEq, Nat.reduceBNe, Int.reduceAdd, Int.reduceSub, Int.reduceMul, Int.reduceNeg, Nat.reduceMul, Nat.reduceLeDiff, Nat.reduceLT, gbx, hcne, hcl2, h5', h6', h7', w1, w2]
                      | simp (disch := omega) only [wi64, wu8, wu16, wu32, wu64, Int.tdiv_eq_ediv_of_nonneg, Int.tmod_eq_emod_of_nonneg]
                      | with_reducible_and_instances exact finR
                      | ((with_reducible refine finR' ?_ ?_) <;> rfl)
                      | ((with_reducible refine finD hsc (NRel.of_plain ?_)); exact rfl)
                    exact ⟨(n + 1, now + x.later + (x.trip - 1), _), Weak.env (by simp [envIn, lk_cons, wth_some, hal]), by simp; omega, by simp only; omega, by simp only; omega, ⟨C5, v5, by simp only; omega, hend (by omega)⟩, by simp; omega⟩
              · have hfi := hfin C' H2 hC2 (.refl _ _)
                by_cases h5 : x.kind = 5
                · have h5' : (x.kind == 5) = true := by simp [h5]
                  by_cases h6 : x.trip > 1
                  · have h7 : ¬ x.trip ≤ 60000 := by omega
                    repeat first
                      | with_reducible refine AWP.seq ?_
                      | ((with_reducible refine AWP.region ?_ ?_); exact rfl)
                      | with_reducible refine AWP.block ?_
                      | with_reducible refine AWP.skip ?_
                      | with_reducible refine AWP.exit ?_
                      | with_reducible refine AWP.ret ?_
                      | with_reducible refine AWP.label ?_
                      | with_reducible refine AWP.goto ?_
                      | ((with_reducible refine AWP.condT ?_ ?_); focus (simp only [ev, lk_cons, ↓reduceIte, Nat.reduceEqDiff]; done))
                      | ((with_reducible refine AWP.condF ?_ ?_); focus (simp only [ev, lk_cons, ↓reduceIte, Nat.reduceEqDiff]; done))
                      | simp only [go_sem, ↓reduceIte, Nat.reduceEqDiff, reduceCtorEq, Nat.reduceAdd, Int.reduceEq, Int.reduceBNe, Int.reduceBEq, Int.reduceToNat, Int.reduceLT, Int.reduceLE, Int.reduceGT, Int.reduceGE, Nat.reduceSub, Nat.reduceBEq, Nat.reduceBNe, Int.reduceAdd, Int.reduceSub, Int.reduceMul, Int.reduceNeg, Nat.reduceMul, Nat.reduceLeDiff, Nat.reduceLT, gbx, h5', h6, h7]
                      | simp (disch := omega) only [wi64, wu8, wu16, wu32, wu64, Int.tdiv_eq_ediv_of_nonneg, Int.tmod_eq_emod_of_nonneg]
                      | with_reducible_and_instances exact finR
                      | ((with_reducible refine finR' ?_ ?_) <;> rfl)
                      | ((with_reducible refine finD hsc (NRel.of_plain ?_)); exact rfl)
                    exact ⟨(n + 1, now + x.later, H2), Weak.env (by simp [envIn, lk_cons, wth_some, hal]), by simp; omega, by simp only; omega, by simp only; omega, ⟨C', hsi, by simp only; omega, hfi⟩, by simp; omega⟩
                  · skip
                    repeat first
                      | with_reducible refine AWP.seq ?_
                      | ((with_reducible refine AWP.region ?_ ?_); exact rfl)
                      | with_reducible refine AWP.block ?_
                      | with_reducible refine AWP.skip ?_
                      | with_reducible refine AWP.exit ?_
                      | with_reducible refine AWP.ret ?_
                      | with_reducible refine AWP.label ?_
                      | with_reducible refine AWP.goto ?_
                      | ((with_reducible refine AWP.condT ?_ ?_); focus (simp only [ev, lk_cons, ↓reduceIte, Nat.reduceEqDiff]; done))
                      | ((with_reducible refine AWP.condF ?_ ?_); focus (simp only [ev, lk_cons, ↓reduceIte, Nat.reduceEqDiff]; done))
                      | simp only [go_sem, ↓reduceIte, Nat.reduceEqDiff, reduceCtorEq, Nat.reduceAdd, Int.reduceEq, Int.reduceBNe, Int.reduceBEq, Int.reduceToNat, Int.reduceLT, Int.reduceLE, Int.reduceGT, Int.reduceGE, Nat.reduceSub, Nat.reduceBEq, Nat.reduceBNe, Int.reduceAdd, Int.reduceSub, Int.reduceMul, Int.reduceNeg, Nat.reduceMul, Nat.reduceLeDiff, Nat.reduceLT, gbx, h5', h6]
                      | simp (disch := omega) only [wi64, wu8, wu16, wu32, wu64, Int.tdiv_eq_ediv_of_nonneg, Int.tmod_eq_emod_of_nonneg]
                      | with_reducible_and_instances exact finR
                      | ((with_reducible refine finR' ?_ ?_) <;> rfl)
                      | ((with_reducible refine finD hsc (NRel.of_plain ?_)); exact rfl)
                    exact ⟨(n + 1, now + x.later, H2), Weak.env (by simp [envIn, lk_cons, wth_some, hal]), by simp; omega, by simp only; omega, by simp only; omega, ⟨C', hsi, by simp only; omega, hfi⟩, by simp; omega⟩
                · have h5' : (x.kind == 5) = false := by simp [h5]
                  repeat first
                    | with_reducible refine AWP.seq ?_
                    | ((with_reducible refine AWP.region ?_ ?_); exact rfl)
                    | with_reducible refine AWP.block ?_
                    | with_reducible refine AWP.skip ?_
                    | with_reducible refine AWP.exit ?_
                    | with_reducible refine AWP.ret ?_
                    | with_reducible refine AWP.label ?_
                    | with_reducible refine AWP.goto ?_
                    | ((with_reducible refine AWP.condT ?_ ?_); focus (simp only [ev, lk_cons, ↓reduceIte, Nat.reduceEqDiff]; done))
                    | ((with_reducible refine AWP.condF ?_ ?_); focus (simp only [ev, lk_cons, ↓reduceIte, Nat.reduceEqDiff]; done))
                    | simp only [go_sem, ↓reduceIte, Nat.reduceEqDiff, reduceCtorEq, Nat.reduceAdd, Int.reduceEq, Int.reduceBNe, Int.reduceBEq, Int.reduceToNat, Int.reduceLT, Int.reduceLE, Int.reduceGT, Int.reduceGE, Nat.reduceSub, Nat.reduceBEq, Nat.reduceBNe, Int.reduceAdd, Int.reduceSub, Int.reduceMul, Int.reduceNeg, Nat.reduceMul, Nat.reduceLeDiff, Nat.reduceLT, gbx, h5']
                    | simp (disch := omega) only [wi64, wu8, wu16, wu32, wu64, Int.tdiv_eq_ediv_of_nonneg, Int.tmod_eq_emod_of_nonneg]
                    | with_reducible_and_instances exact finR
                    | ((with_reducible refine finR' ?_ ?_) <;> rfl)
                    | ((with_reducible refine finD hsc (NRel.of_plain ?_)); exact rfl)
                  exact ⟨(n + 1, now + x.later, H2), Weak.env (by simp [envIn, lk_cons, wth_some, hal]), by simp; omega, by simp only; omega, by simp only; omega, ⟨C', hsi, by simp only; omega, hfi⟩, by simp; omega⟩
          · have hE : sampleE C (now + x.later) x.bytes x.delay x.under = 7 := if_neg hd
            have hL : C.sampleL (now + x.later) x.bytes x.delay x.under = C := if_neg hd
            rw [hE]
            rw [hL] at hC2 hsi
            repeat first
              | with_reducible refine AWP.seq ?_
              | ((with_reducible refine AWP.region ?_ ?_); exact rfl)
              | with_reducible refine AWP.block ?_
              | with_reducible refine AWP.skip ?_
              | with_reducible refine AWP.exit ?_
              | with_reducible refine AWP.ret ?_
              | with_reducible refine AWP.label ?_
              | with_reducible refine AWP.goto ?_
              | ((with_reducible refine AWP.condT ?_ ?_); focus (simp only [ev, lk_cons, ↓reduceIte, Nat.reduceEqDiff]; done))
              | ((with_reducible refine AWP.condF ?_ ?_); focus (simp only [ev, lk_cons, ↓reduceIte, Nat.reduceEqDiff]; done))
              | simp only [go_sem, ↓reduceIte, Nat.reduceEqDiff, reduceCtorEq, Nat.reduceAdd, Int.reduceEq, Int.reduceBNe, Int.reduceBEq, Int.reduceToNat, Int.reduceLT, Int.reduceLE, Int.reduceGT, Int.reduceGE, Nat.reduceSub, Nat.reduceBEq, Nat.reduceBNe, Int.reduceAdd, Int.reduceSub, Int.reduceMul, Int.reduceNeg, Nat.reduceMul, Nat.reduceLeDiff, Nat.reduceLT]
              | simp (disch := omega) only [wi64, wu8, wu16, wu32, wu64, Int.tdiv_eq_ediv_of_nonneg, Int.tmod_eq_emod_of_nonneg]
              | with_reducible_and_instances exact finR
              | ((with_reducible refine finR' ?_ ?_) <;> rfl)
              | ((with_reducible refine finD hsc (NRel.of_plain ?_)); exact rfl)
            exact ⟨(n + 1, now + x.later, H2), Weak.env (by simp [envIn, lk_cons, wth_some, hal]), by simp; omega, by simp only; omega, by simp only; omega, ⟨C, hsi, by simp only; omega, hfin C H2 hC2 (.refl _ _)⟩, by simp; omega⟩
      · have : n = l.length := by omega
        subst this
        have hc' : ¬ (l.length : Int) < (l.length : Int) := by omega
        obtain ⟨Y, rfl⟩ := hf.split (by simp)
        repeat first
          | with_reducible refine AWP.seq ?_
          | ((with_reducible refine AWP.region ?_ ?_); exact rfl)
          | with_reducible refine AWP.block ?_
          | with_reducible refine AWP.skip ?_
          | with_reducible refine AWP.exit ?_
          | with_reducible refine AWP.ret ?_
          | with_reducible refine AWP.label ?_
          | with_reducible refine AWP.goto ?_
          | ((with_reducible refine AWP.condT ?_ ?_); focus (simp only [ev, lk_cons, ↓reduceIte, Nat.reduceEqDiff]; done))
          | ((with_reducible refine AWP.condF ?_ ?_); focus (simp only [ev, lk_cons, ↓reduceIte, Nat.reduceEqDiff]; done))
          | with_reducible refine (awake _).use ?_
          | simp only [go_sem, ↓reduceIte, Nat.reduceEqDiff, reduceCtorEq, Nat.reduceAdd, Int.reduceEq, Int.reduceBNe, Int.reduceBEq, Int.reduceToNat, Int.reduceLT, Int.reduceLE, Int.reduceGT, Int.reduceGE, Nat.reduceSub, Nat.reduceBEq, Nat.reduceBNe, Int.reduceAdd, Int.reduceSub, Int.reduceMul, Int.reduceNeg, Nat.reduceMul, Nat.reduceLeDiff, Nat.reduceLT, hc']
          | simp (disch := omega) only [wi64, wu8, wu16, wu32, wu64, Int.tdiv_eq_ediv_of_nonneg, Int.tmod_eq_emod_of_nonneg]
          | with_reducible_and_instances exact finR
          | ((with_reducible refine finR' ?_ ?_) <;> rfl)
          | ((with_reducible refine finD hsc (NRel.of_plain ?_)); exact rfl)
    · rw [if_neg htg, if_neg htg, List.append_nil] at hN
      refine AC.enter Try.func5 rfl (by kernel_rfl) 149 rfl [.tmp 4] rfl (by simp) fun hsc B => ?_
      repeat first
        | with_reducible refine AWP.seq ?_
        | ((with_reducible refine AWP.region ?_ ?_); exact rfl)
        | with_reducible refine AWP.block ?_
        | with_reducible refine AWP.skip ?_
        | with_reducible refine AWP.exit ?_
        | with_reducible refine AWP.ret ?_
        | with_reducible refine AWP.label ?_
        | with_reducible refine AWP.goto ?_
        | ((with_reducible refine AWP.condT ?_ ?_); focus (simp only [ev, lk_cons, ↓reduceIte, Nat.reduceEqDiff]; done))
        | ((with_reducible refine AWP.condF ?_ ?_); focus (simp only [ev, lk_cons, ↓reduceIte, Nat.reduceEqDiff]; done))
        | with_reducible refine hlt.use ?_
        | with_reducible refine hN.use ?_
        | with_reducible refine (awake _).use ?_
        | simp only [go_sem, ↓reduceIte, Nat.reduceEqDiff, reduceCtorEq, Nat.reduceAdd, Int.reduceEq, Int.reduceBNe, Int.reduceBEq, Int.reduceToNat, Int.reduceLT, Int.reduceLE, Int.reduceGT, Int.reduceGE, Nat.reduceSub, Nat.reduceBEq, Nat.reduceBNe, Int.reduceAdd, Int.reduceSub, Int.reduceMul, Int.reduceNeg, Nat.reduceMul, Nat.reduceLeDiff, Nat.reduceLT]
        | simp (disch := omega) only [wi64, wu8, wu16, wu32, wu64, Int.tdiv_eq_ediv_of_nonneg, Int.tmod_eq_emod_of_nonneg]
        | with_reducible_and_instances exact finR
        | ((with_reducible refine finR' ?_ ?_) <;> rfl)
        | ((with_reducible refine finD hsc (NRel.of_plain ?_)); exact rfl)
end Go.Proofs.Ytoikchnpflnehaa
