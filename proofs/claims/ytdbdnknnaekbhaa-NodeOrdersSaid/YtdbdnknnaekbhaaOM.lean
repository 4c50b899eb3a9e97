/-
  The walk of sorted nodes: nodes in their order, each once.
-/
import Derived.Test.YtdbdnknnaekbhaaOK
import Derived.Test.YtdbdnknnaekbhaaAwC
set_option linter.unusedVariables false
set_option linter.unusedSimpArgs false
set_option maxRecDepth 20000
set_option maxHeartbeats 4000000
namespace Go.Proofs.Ytdbdnknnaekbhaa
open Go Go.Aw Go.Proofs
/-- What a copy is. -/
def CopyN (H : AHeap) (l : List Nd) (v : Value) (H1 : AHeap) : Prop :=
  (l = [] ∧ (v = .slice none 0 0 ∨ ∃ i cs k, v = .slice (some ⟨i, 0, none⟩) 0 0 ∧ H1[i]? = some (.cells cs k) ∧ k.esz = 0) ∧ Frm [] H H1) ∨
  (l ≠ [] ∧ ∃ b, v = .slice (some ⟨b, 0, none⟩) l.length l.length ∧ H1[b]? = some (lsO l) ∧ H.length ≤ b ∧ Frm [] H H1)
theorem ndsC_flat (l : List Nd) : (ndsC l).all flat = true := by
  unfold ndsC
  rw [List.all_eq_true]
  intro x hx
  obtain ⟨u, hu, hx⟩ := List.mem_flatMap.1 hx
  simp [ndC] at hx
  rcases hx with rfl | rfl | rfl | rfl <;> rfl
theorem CloneN (l : List Nd) (hl : l.length ≤ 30) (v : Value) (H : AHeap) (hv : RdK H 4 v (l.map ndC)) : AC Try.prog 57 [v] H (fun r H1 => ∃ v', r = .ret v' ∧ CopyN H l v' H1) := by
  rcases hv with ⟨rfl, e⟩ | ⟨i, o, cap, cs, k, rfl, hcap, hi, hown, hz, hle, hr⟩
  · have hl0 : l = [] := by simpa using e
    refine AC.enter Try.func57 rfl (by kernel_rfl) 8 rfl [.tmp 2] rfl (by simp) fun hsc B => ?_
    repeat first
      | with_reducible refine AWP.seq ?_
      | ((with_reducible refine AWP.region ?_ ?_); exact rfl)
      | with_reducible refine AWP.block ?_
      | with_reducible refine AWP.skip ?_
      | with_reducible refine AWP.exit ?_
      | with_reducible refine AWP.ret ?_
      | with_reducible refine AWP.label ?_
      | with_reducible refine AWP.goto ?_
      | ((with_reducible refine AWP.condT ?_ ?_); focus (simp only [ev, lk_cons, ↓reduceIte, Nat.reduceEqDiff]; done))
      | ((with_reducible refine AWP.condF ?_ ?_); focus (simp only [ev, lk_cons, ↓reduceIte, Nat.reduceEqDiff]; done))
      | simp only [go_sem, ↓reduceIte, Nat.reduceEqDiff, reduceCtorEq, Nat.reduceAdd, Int.reduceEq, Int.reduceBNe, Int.reduceBEq, Int.reduceToNat, Int.reduceLT, Int.reduceLE, Int.reduceGT, Int.reduceGE, Nat.reduceSub, Nat.reduceBEq, Nat.reduceBNe, Int.reduceAdd, Int.reduceSub, Int.reduceMul, Int.reduceNeg, Nat.reduceMul, Nat.reduceLeDiff, Nat.reduceLT]
      | simp (disch := omega) only [wi64, wu8, wu16, wu32, wu64, Int.tdiv_eq_ediv_of_nonneg, Int.tmod_eq_emod_of_nonneg]
      | with_reducible_and_instances exact finR
      | ((with_reducible refine finR' ?_ ?_) <;> rfl)
      | ((with_reducible refine finD hsc (NRel.of_plain ?_)); exact rfl)
    exact ⟨_, _, .refl _ _ _, _, rfl, .inl ⟨hl0, .inl rfl, .refl _ _⟩⟩
  · have hil := lt_of_get hi
    rw [List.length_map] at hle ⊢
    have hz0 : repZ 0 [Value.string (bs []), .int .i64 0, .string (bs []), .int .i64 0] = [] := rfl
    rcases Nat.eq_zero_or_pos l.length with h0 | h0
    · have hl0 := List.eq_nil_of_length_eq_zero h0
      subst hl0
      refine AC.enter Try.func57 rfl (by kernel_rfl) 8 rfl [.tmp 2] rfl (by simp) fun hsc B => ?_
      have ho : o ≤ cs.length := by simpa using hle
      repeat first
        | with_reducible refine AWP.seq ?_
        | ((with_reducible refine AWP.region ?_ ?_); exact rfl)
        | with_reducible refine AWP.block ?_
        | with_reducible refine AWP.skip ?_
        | with_reducible refine AWP.exit ?_
        | with_reducible refine AWP.ret ?_
        | with_reducible refine AWP.label ?_
        | with_reducible refine AWP.goto ?_
        | ((with_reducible refine AWP.condT ?_ ?_); focus (simp only [ev, lk_cons, ↓reduceIte, Nat.reduceEqDiff]; done))
        | ((with_reducible refine AWP.condF ?_ ?_); focus (simp only [ev, lk_cons, ↓reduceIte, Nat.reduceEqDiff]; done))
        | simp only [go_sem, ↓reduceIte, Nat.reduceEqDiff, reduceCtorEq, Nat.reduceAdd, Int.reduceEq, Int.reduceBNe, Int.reduceBEq, Int.reduceToNat, Int.reduceLT, Int.reduceLE, Int.reduceGT, Int.reduceGE, Nat.reduceSub, Nat.reduceBEq, Nat.reduceBNe, Int.reduceAdd, Int.reduceSub, Int.reduceMul, Int.reduceNeg, Nat.reduceMul, Nat.reduceLeDiff, Nat.reduceLT, hi, hil, hgetl, hz0]
        | simp (disch := omega) only [wi64, wu8, wu16, wu32, wu64, Int.tdiv_eq_ediv_of_nonneg, Int.tmod_eq_emod_of_nonneg]
        | with_reducible_and_instances exact finR
        | ((with_reducible refine finR' ?_ ?_) <;> rfl)
        | ((with_reducible refine finD hsc (NRel.of_plain ?_)); exact rfl)
      refine ⟨ho, appendTo_e0 (e' := 46) (fz := 0) (own := true) (hget0 rfl) ?_⟩
      repeat first
        | with_reducible refine AWP.seq ?_
        | ((with_reducible refine AWP.region ?_ ?_); exact rfl)
        | with_reducible refine AWP.block ?_
        | with_reducible refine AWP.skip ?_
        | with_reducible refine AWP.exit ?_
        | with_reducible refine AWP.ret ?_
        | with_reducible refine AWP.label ?_
        | with_reducible refine AWP.goto ?_
        | ((with_reducible refine AWP.condT ?_ ?_); focus (simp only [ev, lk_cons, ↓reduceIte, Nat.reduceEqDiff]; done))
        | ((with_reducible refine AWP.condF ?_ ?_); focus (simp only [ev, lk_cons, ↓reduceIte, Nat.reduceEqDiff]; done))
        | simp only [go_sem, ↓reduceIte, Nat.reduceEqDiff, reduceCtorEq, Nat.reduceAdd, Int.reduceEq, Int.reduceBNe, Int.reduceBEq, Int.reduceToNat, Int.reduceLT, Int.reduceLE, Int.reduceGT, Int.reduceGE, Nat.reduceSub, Nat.reduceBEq, Nat.reduceBNe, Int.reduceAdd, Int.reduceSub, Int.reduceMul, Int.reduceNeg, Nat.reduceMul, Nat.reduceLeDiff, Nat.reduceLT]
        | simp (disch := omega) only [wi64, wu8, wu16, wu32, wu64, Int.tdiv_eq_ediv_of_nonneg, Int.tmod_eq_emod_of_nonneg]
        | with_reducible_and_instances exact finR
        | ((with_reducible refine finR' ?_ ?_) <;> rfl)
        | ((with_reducible refine finD hsc (NRel.of_plain ?_)); exact rfl)
      exact ⟨_, _, .refl _ _ _, _, rfl, .inl ⟨rfl, .inr ⟨H.length, _, _, rfl, hget0 rfl, rfl⟩, Frm.app⟩⟩
    · have hne : l ≠ [] := fun e => by rw [e] at h0; simp at h0
      have hcells : (cs.drop o).take (l.length * 4) = ndsC l := by
        refine List.ext_getElem? fun q => ?_
        have hcl := ndsC_len l
        by_cases hq : q < l.length * 4
        · have hj : q / 4 < l.length := by omega
          have h1 := hr (q / 4) (ndC l[q / 4]) (by rw [List.getElem?_map, List.getElem?_eq_getElem hj]; rfl)
          have h2 := ndsC_at l (q / 4) hj
          have e1 : (cs.drop (o + q / 4 * 4))[q % 4]? = (ndC l[q / 4])[q % 4]? := by
            rw [← h1, List.getElem?_take_of_lt (by omega)]
          have e2 : ((ndsC l).drop (q / 4 * 4))[q % 4]? = (ndC l[q / 4])[q % 4]? := by
            rw [← h2, List.getElem?_take_of_lt (by omega)]
          rw [List.getElem?_drop] at e1 e2
          rw [List.getElem?_take_of_lt hq, List.getElem?_drop, show o + q = o + q / 4 * 4 + q % 4 by omega, e1, ← e2]
          congr 1
          omega
        · rw [List.getElem?_eq_none (by rw [List.length_take]; omega), List.getElem?_eq_none (by omega)]
      have hfl := ndsC_flat l
      have hcl := ndsC_len l
      refine AC.enter Try.func57 rfl (by kernel_rfl) 8 rfl [.tmp 2] rfl (by simp) fun hsc B => ?_
      repeat first
        | with_reducible refine AWP.seq ?_
        | ((with_reducible refine AWP.region ?_ ?_); exact rfl)
        | with_reducible refine AWP.block ?_
        | with_reducible refine AWP.skip ?_
        | with_reducible refine AWP.exit ?_
        | with_reducible refine AWP.ret ?_
        | with_reducible refine AWP.label ?_
        | with_reducible refine AWP.goto ?_
        | ((with_reducible refine AWP.condT ?_ ?_); focus (simp only [ev, lk_cons, ↓reduceIte, Nat.reduceEqDiff]; done))
        | ((with_reducible refine AWP.condF ?_ ?_); focus (simp only [ev, lk_cons, ↓reduceIte, Nat.reduceEqDiff]; done))
        | simp only [go_sem, ↓reduceIte, Nat.reduceEqDiff, reduceCtorEq, Nat.reduceAdd, Int.reduceEq, Int.reduceBNe, Int.reduceBEq, Int.reduceToNat, Int.reduceLT, Int.reduceLE, Int.reduceGT, Int.reduceGE, Nat.reduceSub, Nat.reduceBEq, Nat.reduceBNe, Int.reduceAdd, Int.reduceSub, Int.reduceMul, Int.reduceNeg, Nat.reduceMul, Nat.reduceLeDiff, Nat.reduceLT, hi, hil, hgetl, hz0, hcells, hfl, hcl]
        | simp (disch := omega) only [wi64, wu8, wu16, wu32, wu64, Int.tdiv_eq_ediv_of_nonneg, Int.tmod_eq_emod_of_nonneg]
        | with_reducible_and_instances exact finR
        | ((with_reducible refine finR' ?_ ?_) <;> rfl)
        | ((with_reducible refine finD hsc (NRel.of_plain ?_)); exact rfl)
      refine ⟨hle, appendTo_e (e' := 46) (fz := 0) (own := true) (hget0 rfl) (by omega) (by omega) (by omega) ?_⟩
      repeat first
        | with_reducible refine AWP.seq ?_
        | ((with_reducible refine AWP.region ?_ ?_); exact rfl)
        | with_reducible refine AWP.block ?_
        | with_reducible refine AWP.skip ?_
        | with_reducible refine AWP.exit ?_
        | with_reducible refine AWP.ret ?_
        | with_reducible refine AWP.label ?_
        | with_reducible refine AWP.goto ?_
        | ((with_reducible refine AWP.condT ?_ ?_); focus (simp only [ev, lk_cons, ↓reduceIte, Nat.reduceEqDiff]; done))
        | ((with_reducible refine AWP.condF ?_ ?_); focus (simp only [ev, lk_cons, ↓reduceIte, Nat.reduceEqDiff]; done))
        | simp only [go_sem, ↓reduceIte, Nat.reduceEqDiff, reduceCtorEq, Nat.reduceAdd, Int.reduceEq, Int.reduceBNe, Int.reduceBEq, Int.reduceToNat, Int.reduceLT, Int.reduceLE, Int.reduceGT, Int.reduceGE, Nat.reduceSub, Nat.reduceBEq, Nat.reduceBNe, Int.reduceAdd, Int.reduceSub, Int.reduceMul, Int.reduceNeg, Nat.reduceMul, Nat.reduceLeDiff, Nat.reduceLT]
        | simp (disch := omega) only [wi64, wu8, wu16, wu32, wu64, Int.tdiv_eq_ediv_of_nonneg, Int.tmod_eq_emod_of_nonneg]
        | with_reducible_and_instances exact finR
        | ((with_reducible refine finR' ?_ ?_) <;> rfl)
        | ((with_reducible refine finD hsc (NRel.of_plain ?_)); exact rfl)
      refine ⟨_, _, .refl _ _ _, _, rfl, .inr ⟨hne, H.length + 1, rfl, ?_, by omega, Frm.app⟩⟩
      rw [hgetk (n := H.length) (k := 1) rfl]
      rfl
end Go.Proofs.Ytdbdnknnaekbhaa

