/-
  The walk of slices.Clone over texts.
-/
import Derived.Test.YthcdjconlfdidaaDoorDM
set_option linter.unusedVariables false
set_option linter.unusedSimpArgs false
set_option maxHeartbeats 4000000
set_option maxRecDepth 20000
namespace Go.Proofs.YthcdjconlfdidaaDoor
open Go Go.Aw Go.Proofs
def strsC (l : List (List UInt8)) : List Value := l.map fun s => .string (bs s)
theorem strsC_len (l : List (List UInt8)) : (strsC l).length = l.length := by simp [strsC]
theorem strsC_flat (l : List (List UInt8)) : (strsC l).all flat = true := by
  unfold strsC
  rw [List.all_eq_true]
  intro x hx
  obtain ⟨u, hu, rfl⟩ := List.mem_map.1 hx
  rfl
/-- What a copy is. -/
def CopyK (H : AHeap) (l : List (List UInt8)) (v : Value) (H1 : AHeap) : Prop :=
  (l = [] ∧ (v = .slice none 0 0 ∨ ∃ i, v = .slice (some ⟨i, 0, none⟩) 0 0) ∧ Frm [] H H1) ∨
  (l ≠ [] ∧ ∃ b, v = .slice (some ⟨b, 0, none⟩) l.length l.length ∧ H1[b]? = some (.cells (strsC l) ⟨9, 1, true, 0, none⟩) ∧ H.length ≤ b ∧ Frm [] H H1)
def CloneP (H : AHeap) (l : List (List UInt8)) (r : ARes) (H1 : AHeap) : Prop := ∃ v', r = .ret v' ∧ CopyK H l v' H1
theorem CloneK (l : List (List UInt8)) (hl : l.length ≤ 1099511627776) (v : Value) (H : AHeap) (hv : RdK H 1 v (keyC l)) : AC Tryd.prog 72 [v] H (CloneP H l) := by
  have hkl : (keyC l).length = l.length := by unfold keyC; simp
  rcases hv with ⟨rfl, e⟩ | ⟨i, o, cap, cs, k, rfl, hcap, hi, hown, hz, hle, hr⟩
  · have hl0 : l = [] := by rw [e] at hkl; exact List.eq_nil_of_length_eq_zero hkl.symm
    refine AC.enter Tryd.func72 rfl (by kernel_rfl) 8 rfl [.tmp 2] rfl (by simp) fun hsc B => ?_
    repeat first
      | with_reducible (first | refine AWP.seq ?_ | refine AWP.block ?_ | refine AWP.skip ?_ | refine AWP.exit ?_ | refine AWP.ret ?_ | refine AWP.label ?_ | refine AWP.goto ?_)
      | ((with_reducible (first | refine AWP.region ?_ ?_ | refine AWP.condT ?_ ?_)); exact rfl)
      | ((with_reducible refine AWP.condF ?_ ?_); exact rfl)
      | simp only [go_sem, sevalprocAttr, reduceCtorEq]
      | simp (disch := omega) only [wi64, wu8, wu16, wu32, wu64, Int.tdiv_eq_ediv_of_nonneg, Int.tmod_eq_emod_of_nonneg]
      | with_reducible_and_instances exact finR
      | ((with_reducible refine finR' ?_ ?_) <;> rfl)
      | ((with_reducible refine finD hsc (NRel.of_plain ?_)); exact rfl)
    exact ⟨_, _, .refl _ _ _, _, rfl, .inl ⟨hl0, .inl rfl, .refl _ _⟩⟩
  · have hil := lt_of_get hi
    rw [hkl] at hle hcap ⊢
    have hz0 : repZ 0 [Value.string (bs [])] = [] := rfl
    rcases Nat.eq_zero_or_pos l.length with h0 | h0
    · have hl0 := List.eq_nil_of_length_eq_zero h0
      subst hl0
      refine AC.enter Tryd.func72 rfl (by kernel_rfl) 8 rfl [.tmp 2] rfl (by simp) fun hsc B => ?_
      have ho : o ≤ cs.length := by simpa using hle
      repeat first
        | with_reducible (first | refine AWP.seq ?_ | refine AWP.block ?_ | refine AWP.skip ?_ | refine AWP.exit ?_ | refine AWP.ret ?_ | refine AWP.label ?_ | refine AWP.goto ?_)
        | ((with_reducible (first | refine AWP.region ?_ ?_ | refine AWP.condT ?_ ?_)); exact rfl)
        | ((with_reducible refine AWP.condF ?_ ?_); exact rfl)
        | simp only [go_sem, sevalprocAttr, reduceCtorEq, hi, hil, hgetl, hz0]
        | simp (disch := omega) only [wi64, wu8, wu16, wu32, wu64, Int.tdiv_eq_ediv_of_nonneg, Int.tmod_eq_emod_of_nonneg]
        | with_reducible_and_instances exact finR
        | ((with_reducible refine finR' ?_ ?_) <;> rfl)
        | ((with_reducible refine finD hsc (NRel.of_plain ?_)); exact rfl)
      refine ⟨ho, appendTo_e0 (e' := 9) (fz := 0) (own := true) (hget0 rfl) ?_⟩
      repeat first
        | with_reducible (first | refine AWP.seq ?_ | refine AWP.block ?_ | refine AWP.skip ?_ | refine AWP.exit ?_ | refine AWP.ret ?_ | refine AWP.label ?_ | refine AWP.goto ?_)
        | ((with_reducible (first | refine AWP.region ?_ ?_ | refine AWP.condT ?_ ?_)); exact rfl)
        | ((with_reducible refine AWP.condF ?_ ?_); exact rfl)
        | simp only [go_sem, sevalprocAttr, reduceCtorEq]
        | simp (disch := omega) only [wi64, wu8, wu16, wu32, wu64, Int.tdiv_eq_ediv_of_nonneg, Int.tmod_eq_emod_of_nonneg]
        | with_reducible_and_instances exact finR
        | ((with_reducible refine finR' ?_ ?_) <;> rfl)
        | ((with_reducible refine finD hsc (NRel.of_plain ?_)); exact rfl)
      exact ⟨_, _, .refl _ _ _, _, rfl, .inl ⟨rfl, .inr ⟨H.length, rfl⟩, Frm.app⟩⟩
    · have hne : l ≠ [] := fun e => by rw [e] at h0; simp at h0
      have hcells : (cs.drop o).take l.length = strsC l := by
        refine List.ext_getElem? fun q => ?_
        by_cases hq : q < l.length
        · have h1 := congrArg (fun l => l[0]?) (hr q _ (keyC_at hq))
          have h2 : cs[o + q]? = some (.string (bs l[q])) := by simpa using h1
          rw [List.getElem?_take_of_lt hq, List.getElem?_drop, h2]
          unfold strsC
          rw [List.getElem?_map, List.getElem?_eq_getElem hq]; rfl
        · rw [List.getElem?_eq_none (by rw [List.length_take]; omega), List.getElem?_eq_none (by rw [strsC_len]; omega)]
      have hfl := strsC_flat l
      have hcl := strsC_len l
      have hle' : o + l.length ≤ cs.length := by omega
      refine AC.enter Tryd.func72 rfl (by kernel_rfl) 8 rfl [.tmp 2] rfl (by simp) fun hsc B => ?_
      repeat first
        | with_reducible (first | refine AWP.seq ?_ | refine AWP.block ?_ | refine AWP.skip ?_ | refine AWP.exit ?_ | refine AWP.ret ?_ | refine AWP.label ?_ | refine AWP.goto ?_)
        | ((with_reducible (first | refine AWP.region ?_ ?_ | refine AWP.condT ?_ ?_)); exact rfl)
        | ((with_reducible refine AWP.condF ?_ ?_); exact rfl)
        | simp only [go_sem, sevalprocAttr, reduceCtorEq, hi, hil, hgetl, hz0, hcells, hfl, hcl]
        | simp (disch := omega) only [wi64, wu8, wu16, wu32, wu64, Int.tdiv_eq_ediv_of_nonneg, Int.tmod_eq_emod_of_nonneg]
        | with_reducible_and_instances exact finR
        | ((with_reducible refine finR' ?_ ?_) <;> rfl)
        | ((with_reducible refine finD hsc (NRel.of_plain ?_)); exact rfl)
      refine ⟨hle', appendTo_e (e' := 9) (fz := 0) (own := true) (hget0 rfl) (by omega) (by omega) (by omega) ?_⟩
      repeat first
        | with_reducible (first | refine AWP.seq ?_ | refine AWP.block ?_ | refine AWP.skip ?_ | refine AWP.exit ?_ | refine AWP.ret ?_ | refine AWP.label ?_ | refine AWP.goto ?_)
        | ((with_reducible (first | refine AWP.region ?_ ?_ | refine AWP.condT ?_ ?_)); exact rfl)
        | ((with_reducible refine AWP.condF ?_ ?_); exact rfl)
        | simp only [go_sem, sevalprocAttr, reduceCtorEq]
        | simp (disch := omega) only [wi64, wu8, wu16, wu32, wu64, Int.tdiv_eq_ediv_of_nonneg, Int.tmod_eq_emod_of_nonneg]
        | with_reducible_and_instances exact finR
        | ((with_reducible refine finR' ?_ ?_) <;> rfl)
        | ((with_reducible refine finD hsc (NRel.of_plain ?_)); exact rfl)
      refine ⟨_, _, .refl _ _ _, _, rfl, .inr ⟨hne, H.length + 1, rfl, ?_, by omega, Frm.app⟩⟩
      rw [hgetk (n := H.length) (k := 1) rfl]
      rfl
end Go.Proofs.YthcdjconlfdidaaDoor

