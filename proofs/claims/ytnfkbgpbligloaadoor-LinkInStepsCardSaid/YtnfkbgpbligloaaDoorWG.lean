/-
  Writing a link down: a copy of what is under way, sorted.
-/
import Derived.Test.YtnfkbgpbligloaaDoorWF
set_option linter.unusedVariables false
set_option linter.unusedSimpArgs false
set_option maxRecDepth 20000
set_option maxHeartbeats 4000000
namespace Go.Proofs.YtnfkbgpbligloaaDoor
open Go Go.Aw Go.Proofs Go.Shelf
theorem cmsC_flat {us : List (Cm × Value)} (h : ∀ u ∈ us, flat u.2 = true) : (cmsC us).all flat = true := by
  unfold cmsC
  rw [List.all_eq_true]
  intro x hx
  obtain ⟨u, hu, hx⟩ := List.mem_flatMap.1 hx
  have h2 := h u hu
  simp [cmC] at hx
  rcases hx with rfl | rfl | rfl | rfl
  · rfl
  · rfl
  · rfl
  · exact h2
/-- The slice v reads us, in what nobody else has, or it is empty. -/
def OwnE (H : AHeap) (us : List (Cm × Value)) (v : Value) (n0 : Nat) : Prop :=
  (us = [] ∧ ∀ H' K, lenW Tryd.prog 50 v H' K = K (.int .i64 (0 : Nat)) H') ∨ ∃ Sc, OwnL H 66 4 us.length (cmsC us) v Sc ∧ ∀ s ∈ Sc, n0 ≤ s
theorem CloneC {H : AHeap} {us : List (Cm × Value)} {vu : Value} {Su : List Nat} (hO : OwnL H 66 4 us.length (cmsC us) vu Su) (hfl : ∀ u ∈ us, flat u.2 = true) (hsz : us.length < 1099511627776) :
    AC Tryd.prog 30 [vu] H (fun r H1 => ∃ v', r = .ret v' ∧ Frm [] H H1 ∧ OwnE H1 us v' H.length) := by
  rcases hO with ⟨h0, h1, rfl, rfl⟩ | ⟨i, o, cs, rfl, hi, hcl, hd, rfl⟩
  · have hu : us = [] := List.eq_nil_of_length_eq_zero h0
    refine AC.enter Tryd.func30 rfl (by kernel_rfl) 8 rfl [.tmp 2] rfl (by simp) fun hsc B => ?_
    repeat first
      | with_reducible refine AWP.seq ?_
      | ((with_reducible refine AWP.region ?_ ?_); exact rfl)
      | with_reducible refine AWP.block ?_
      | with_reducible refine AWP.skip ?_
      | with_reducible refine AWP.exit ?_
      | with_reducible refine AWP.ret ?_
      | with_reducible refine AWP.label ?_
      | with_reducible refine AWP.goto ?_
      | ((with_reducible refine AWP.condT ?_ ?_); focus (simp only [ev, lk_cons, ↓reduceIte, Nat.reduceEqDiff]; done))
      | ((with_reducible refine AWP.condF ?_ ?_); focus (simp only [ev, lk_cons, ↓reduceIte, Nat.reduceEqDiff]; done))
      | simp only [go_sem, ↓reduceIte, Nat.reduceEqDiff, reduceCtorEq, Nat.reduceAdd, Int.reduceEq, Int.reduceBNe, Int.reduceBEq, Int.reduceToNat, Int.reduceLT, Int.reduceLE, Int.reduceGT, Int.reduceGE, Nat.reduceSub, Nat.reduceBEq, Nat.reduceBNe, Int.reduceAdd, Int.reduceSub, Int.reduceMul, Int.reduceNeg, Nat.reduceMul, Nat.reduceLeDiff, Nat.reduceLT]
      | simp (disch := omega) only [wi64, wu8, wu16, wu32, wu64, Int.tdiv_eq_ediv_of_nonneg, Int.tmod_eq_emod_of_nonneg]
      | with_reducible_and_instances exact finR
      | ((with_reducible refine finR' ?_ ?_) <;> rfl)
      | ((with_reducible refine finD hsc (NRel.of_plain ?_)); exact rfl)
    exact ⟨_, _, .refl _ _ _, _, rfl, .refl _ _, .inl ⟨hu, fun H' K => by rw [lenW_sl (by simp only [go_sem, ↓reduceIte, Nat.reduceEqDiff, reduceCtorEq, Nat.reduceAdd, Int.reduceEq, Int.reduceBNe, Int.reduceBEq, Int.reduceToNat, Int.reduceLT, Int.reduceLE, Int.reduceGT, Int.reduceGE, Nat.reduceSub, Nat.reduceBEq, Nat.reduceBNe, Int.reduceAdd, Int.reduceSub, Int.reduceMul, Int.reduceNeg, Nat.reduceMul, Nat.reduceLeDiff, Nat.reduceLT])]⟩⟩
  · have hil := lt_of_get hi
    have hf := cmsC_flat hfl
    have hln := cmsC_len us
    have htk : (cs.drop o).take (us.length * 4) = cmsC us := by rw [hd]; exact List.take_of_length_le (by rw [hln]; exact Nat.le_refl _)
    have hz0 : repZ 0 [Value.int .i64 0, .int .i64 0, .int .i64 0, .nilFunc] = [] := rfl
    refine AC.enter Tryd.func30 rfl (by kernel_rfl) 8 rfl [.tmp 2] rfl (by simp) fun hsc B => ?_
    repeat first
      | with_reducible refine AWP.seq ?_
      | ((with_reducible refine AWP.region ?_ ?_); exact rfl)
      | with_reducible refine AWP.block ?_
      | with_reducible refine AWP.skip ?_
      | with_reducible refine AWP.exit ?_
      | with_reducible refine AWP.ret ?_
      | with_reducible refine AWP.label ?_
      | with_reducible refine AWP.goto ?_
      | ((with_reducible refine AWP.condT ?_ ?_); focus (simp only [ev, lk_cons, ↓reduceIte, Nat.reduceEqDiff]; done))
      | ((with_reducible refine AWP.condF ?_ ?_); focus (simp only [ev, lk_cons, ↓reduceIte, Nat.reduceEqDiff]; done))
      | simp only [go_sem, ↓reduceIte, Nat.reduceEqDiff, reduceCtorEq, Nat.reduceAdd, Int.reduceEq, Int.reduceBNe, Int.reduceBEq, Int.reduceToNat, Int.reduceLT, Int.reduceLE, Int.reduceGT, Int.reduceGE, Nat.reduceSub, Nat.reduceBEq, Nat.reduceBNe, Int.reduceAdd, Int.reduceSub, Int.reduceMul, Int.reduceNeg, Nat.reduceMul, Nat.reduceLeDiff, Nat.reduceLT, hi, hil, hgetl, hf, htk, hcl, hz0]
      | simp (disch := omega) only [wi64, wu8, wu16, wu32, wu64, Int.tdiv_eq_ediv_of_nonneg, Int.tmod_eq_emod_of_nonneg]
      | with_reducible_and_instances exact finR
      | ((with_reducible refine finR' ?_ ?_) <;> rfl)
      | ((with_reducible refine finD hsc (NRel.of_plain ?_)); exact rfl)
    refine ⟨hln, ?_⟩
    rcases Nat.eq_zero_or_pos us.length with h0 | h0
    · have hu : us = [] := List.eq_nil_of_length_eq_zero h0
      subst hu
      refine appendTo_e0 (e' := 66) (fz := 0) (own := true) (hget0 rfl) ?_
      repeat first
        | with_reducible refine AWP.seq ?_
        | ((with_reducible refine AWP.region ?_ ?_); exact rfl)
        | with_reducible refine AWP.block ?_
        | with_reducible refine AWP.skip ?_
        | with_reducible refine AWP.exit ?_
        | with_reducible refine AWP.ret ?_
        | with_reducible refine AWP.label ?_
        | with_reducible refine AWP.goto ?_
        | ((with_reducible refine AWP.condT ?_ ?_); focus (simp only [ev, lk_cons, ↓reduceIte, Nat.reduceEqDiff]; done))
        | ((with_reducible refine AWP.condF ?_ ?_); focus (simp only [ev, lk_cons, ↓reduceIte, Nat.reduceEqDiff]; done))
        | simp only [go_sem, ↓reduceIte, Nat.reduceEqDiff, reduceCtorEq, Nat.reduceAdd, Int.reduceEq, Int.reduceBNe, Int.reduceBEq, Int.reduceToNat, Int.reduceLT, Int.reduceLE, Int.reduceGT, Int.reduceGE, Nat.reduceSub, Nat.reduceBEq, Nat.reduceBNe, Int.reduceAdd, Int.reduceSub, Int.reduceMul, Int.reduceNeg, Nat.reduceMul, Nat.reduceLeDiff, Nat.reduceLT]
        | simp (disch := omega) only [wi64, wu8, wu16, wu32, wu64, Int.tdiv_eq_ediv_of_nonneg, Int.tmod_eq_emod_of_nonneg]
        | with_reducible_and_instances exact finR
        | ((with_reducible refine finR' ?_ ?_) <;> rfl)
        | ((with_reducible refine finD hsc (NRel.of_plain ?_)); exact rfl)
      exact ⟨_, _, .refl _ _ _, _, rfl, Frm.app, .inl ⟨rfl, fun H' K => by rw [lenW_sl (by simp only [go_sem, ↓reduceIte, Nat.reduceEqDiff, reduceCtorEq, Nat.reduceAdd, Int.reduceEq, Int.reduceBNe, Int.reduceBEq, Int.reduceToNat, Int.reduceLT, Int.reduceLE, Int.reduceGT, Int.reduceGE, Nat.reduceSub, Nat.reduceBEq, Nat.reduceBNe, Int.reduceAdd, Int.reduceSub, Int.reduceMul, Int.reduceNeg, Nat.reduceMul, Nat.reduceLeDiff, Nat.reduceLT])]⟩⟩
    · refine appendTo_e (e' := 66) (fz := 0) (own := true) (hget0 rfl) (by omega) (by omega) (by omega) ?_
      repeat first
        | with_reducible refine AWP.seq ?_
        | ((with_reducible refine AWP.region ?_ ?_); exact rfl)
        | with_reducible refine AWP.block ?_
        | with_reducible refine AWP.skip ?_
        | with_reducible refine AWP.exit ?_
        | with_reducible refine AWP.ret ?_
        | with_reducible refine AWP.label ?_
        | with_reducible refine AWP.goto ?_
        | ((with_reducible refine AWP.condT ?_ ?_); focus (simp only [ev, lk_cons, ↓reduceIte, Nat.reduceEqDiff]; done))
        | ((with_reducible refine AWP.condF ?_ ?_); focus (simp only [ev, lk_cons, ↓reduceIte, Nat.reduceEqDiff]; done))
        | simp only [go_sem, ↓reduceIte, Nat.reduceEqDiff, reduceCtorEq, Nat.reduceAdd, Int.reduceEq, Int.reduceBNe, Int.reduceBEq, Int.reduceToNat, Int.reduceLT, Int.reduceLE, Int.reduceGT, Int.reduceGE, Nat.reduceSub, Nat.reduceBEq, Nat.reduceBNe, Int.reduceAdd, Int.reduceSub, Int.reduceMul, Int.reduceNeg, Nat.reduceMul, Nat.reduceLeDiff, Nat.reduceLT]
        | simp (disch := omega) only [wi64, wu8, wu16, wu32, wu64, Int.tdiv_eq_ediv_of_nonneg, Int.tmod_eq_emod_of_nonneg]
        | with_reducible_and_instances exact finR
        | ((with_reducible refine finR' ?_ ?_) <;> rfl)
        | ((with_reducible refine finD hsc (NRel.of_plain ?_)); exact rfl)
      refine ⟨_, _, .refl _ _ _, _, rfl, Frm.app, .inr ⟨[H.length + 1], ?_, by simp⟩⟩
      exact .inr ⟨H.length + 1, 0, cmsC us, rfl, hgetk (n := H.length) (k := 1) rfl, by rw [hln]; omega, rfl, rfl⟩
theorem sortO {H : AHeap} {us : List (Cm × Value)} {v : Value} {n0 : Nat} (h : OwnE H us v n0) (hb : ∀ u ∈ us, u.1.inB) (hfl : ∀ u ∈ us, flat u.2 = true) (hsz : us.length < 1099511627776) :
    AC Tryd.prog 24 [v, .func (.func 31) ⟨[]⟩ ⟨[]⟩] H (fun r H1 => r = .ret noVal ∧ ∃ (us' : List (Cm × Value)) (Sc : List Nat), us'.Perm us ∧ us'.Pairwise (fun a b => ¬ bef b.1 a.1) ∧ OwnE H1 us' v n0 ∧ Frm Sc H H1 ∧ ∀ s ∈ Sc, n0 ≤ s ∧ ∃ cs k, H[s]? = some (.cells cs k) ∧ k.e = 66) := by
  rcases h with ⟨rfl, h2⟩ | ⟨Sc, hO, hn⟩
  · refine AC.mono (sortE2 (v := v) h2) fun r H1 ⟨h3, h4⟩ => ?_
    subst h4
    exact ⟨h3, [], [], .refl _, .nil, .inl ⟨rfl, h2⟩, .refl _ _, by simp⟩
  · refine AC.mono (sortT hO hb hfl hsz) fun r H1 ⟨e, us', h3, h4, h5, h6⟩ => ⟨e, us', Sc, h3, h4, .inr ⟨Sc, h5, hn⟩, h6, fun t ht => ⟨hn t ht, ?_⟩⟩
    rcases hO with ⟨_, _, _, rfl⟩ | ⟨j, o, cs, _, hj, _, _, rfl⟩
    · cases ht
    · rw [List.mem_singleton.1 ht]
      exact ⟨_, _, hj, rfl⟩
theorem OwnE.bfix {H H2 : AHeap} {us : List (Cm × Value)} {v : Value} {n0 : Nat} (h : OwnE H us v n0) (hf : BFix H H2) : OwnE H2 us v n0 := by
  rcases h with h | ⟨Sc, hO, hn⟩
  · exact .inl h
  · refine .inr ⟨Sc, ?_, hn⟩
    rcases hO with h1 | ⟨j, o, cs, h1, hj, h2, h3, h4⟩
    · exact .inl h1
    · exact .inr ⟨j, o, cs, h1, hf _ _ _ hj rfl, h2, h3, h4⟩
theorem OwnE.lenW {H : AHeap} {us : List (Cm × Value)} {v : Value} {n0 : Nat} (h : OwnE H us v n0) : ∀ H' K, lenW Tryd.prog 50 v H' K = K (.int .i64 (us.length : Nat)) H' := by
  rcases h with ⟨rfl, h⟩ | ⟨Sc, hO, hn⟩
  · exact h
  · exact fun H' K => by rw [OwnL.lenT hO (by simp only [go_sem, ↓reduceIte, Nat.reduceEqDiff, reduceCtorEq, Nat.reduceAdd, Int.reduceEq, Int.reduceBNe, Int.reduceBEq, Int.reduceToNat, Int.reduceLT, Int.reduceLE, Int.reduceGT, Int.reduceGE, Nat.reduceSub, Nat.reduceBEq, Nat.reduceBNe, Int.reduceAdd, Int.reduceSub, Int.reduceMul, Int.reduceNeg, Nat.reduceMul, Nat.reduceLeDiff, Nat.reduceLT])]
theorem OwnE.get {H : AHeap} {us : List (Cm × Value)} {v : Value} {n0 : Nat} (h : OwnE H us v n0) {n : Nat} (hn : n < us.length) :
    ∃ j o cs, v = .slice (some ⟨j, o, none⟩) us.length us.length ∧ H[j]? = some (.cells cs ⟨66, 4, true, 0, none⟩) ∧ o + (n * 4 + 4) ≤ cs.length ∧ (cs.drop (o + n * 4)).take 4 = cmC us[n] := by
  rcases h with ⟨rfl, _⟩ | ⟨Sc, hO, _⟩
  · cases hn
  · rcases hO with ⟨h0, _⟩ | ⟨j, o, cs, e, hj, hl, hd, _⟩
    · omega
    · refine ⟨j, o, cs, e, hj, by omega, ?_⟩
      rw [← List.drop_drop, hd]
      clear hj hl hd e
      induction us generalizing n with
      | nil => cases hn
      | cons u us ih =>
        have e : cmsC (u :: us) = cmC u ++ cmsC us := rfl
        have hc : (cmC u).length = 4 := rfl
        rw [e]
        cases n with
        | zero => rw [Nat.zero_mul, List.drop_zero, List.take_append_of_le_length (by rw [hc]; exact Nat.le_refl _), List.take_of_length_le (by rw [hc]; exact Nat.le_refl _)]; rfl
        | succ n =>
          rw [show (n + 1) * 4 = 4 + n * 4 by omega, ← List.drop_drop, List.drop_left' hc, ih (by simpa using hn)]
          rfl
end Go.Proofs.YtnfkbgpbligloaaDoor
