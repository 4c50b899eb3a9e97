/-
  What fits: a value's shape, its parts counted, its bytes counted.
-/
import Derived.Test.YthcdjconlfdidaaDoorDQ
import Derived.Test.YthcdjconlfdidaaDoorDR
import Derived.Test.YthcdjconlfdidaaDoorCD
set_option linter.unusedVariables false
set_option linter.unusedSimpArgs false
namespace Go.Proofs.YthcdjconlfdidaaDoor
open Go Go.Aw Go.Proofs
def shapeB : BV → Bool
  | .mk k n s kids keys =>
    if k = 1 then (s == []) && (kids.length + keys.length == 0) else if k = 2 then (n == 0) && (kids.length + keys.length == 0)
    else if k = 3 then (n == 0) && (s == []) && (keys.length == 0) else if k = 4 then dictB n s kids keys else false
/-- A form is a shape and the kids' forms. -/
theorem form_shape (k n : Int) (s : List UInt8) (kids : List BV) (keys : List (List UInt8)) : (BV.mk k n s kids keys).form = (shapeB (.mk k n s kids keys) && BV.formL kids) := by
  unfold BV.form shapeB
  congr 1
  by_cases h1 : k = 1
  · simp only [if_pos h1]
    rw [Bool.eq_iff_iff]
    simp [Nat.add_eq_zero_iff, List.length_eq_zero_iff]
  simp only [if_neg h1]
  by_cases h2 : k = 2
  · simp only [if_pos h2]
    rw [Bool.eq_iff_iff]
    simp [Nat.add_eq_zero_iff, List.length_eq_zero_iff]
  simp only [if_neg h2]
  by_cases h3 : k = 3
  · simp only [if_pos h3]
    rw [Bool.eq_iff_iff]
    simp [List.length_eq_zero_iff, and_assoc]
  simp only [if_neg h3]
  by_cases h4 : k = 4
  · simp only [if_pos h4]
    unfold dictB
    rw [Bool.eq_iff_iff, asc_iff]
    simp [and_assoc]
  simp only [if_neg h4]
  rfl
def keysW (keys : List (List UInt8)) : Nat := (keys.map fun k => (BV.wText k).length).sum
def own (k n : Int) (s : List UInt8) : Nat := if k = 1 then (Lib.itoa n).length else if k = 2 then (BV.wText s).length - 2 else 0
mutual
/-- What the count of parts and of bytes is behind a value, if it fits. -/
def fitV : Nat → Nat → Nat → BV → Option (Nat × Nat)
  | lv, c, b, .mk k n s kids keys =>
    if lv = 0 ∨ 1000 < c + 1 ∨ shapeB (.mk k n s kids keys) = false then none else
    match fitL (lv - 1) (c + 1) (b + own k n s + 2 + keysW keys) kids with
    | none => none
    | some (c', b') => if b' ≤ 65536 then some (c', b') else none
def fitL : Nat → Nat → Nat → List BV → Option (Nat × Nat)
  | lv, c, b, [] => some (c, b)
  | lv, c, b, v :: l => match fitV lv c b v with
    | none => none
    | some (c', b') => fitL lv c' b' l
end
theorem writeD_len' : ∀ {ks : List (List UInt8)} {l : List BV}, ks.length = l.length → (BV.writeD ks l).length = keysW ks + (BV.writeL l).length
  | [], [], _ => by simp [BV.writeD, BV.writeL, keysW]
  | k :: ks, v :: l, h => by
    have := writeD_len' (ks := ks) (l := l) (by simpa using h)
    unfold keysW at this ⊢
    simp [BV.writeD, BV.writeL, this]; omega
/-- The bytes of a value of a good shape. -/
theorem write_len (k n : Int) (s : List UInt8) (kids : List BV) (keys : List (List UInt8)) (h : shapeB (.mk k n s kids keys) = true) : (BV.mk k n s kids keys).write.length = own k n s + 2 + keysW keys + (BV.writeL kids).length := by
  unfold shapeB at h
  dsimp only at h
  unfold BV.write own
  by_cases h1 : k = 1
  · rw [if_pos h1] at h
    simp only [if_pos h1]
    simp [Nat.add_eq_zero_iff, List.length_eq_zero_iff] at h
    rw [h.2.1, h.2.2]
    simp [keysW, BV.writeL]
  rw [if_neg h1] at h
  simp only [if_neg h1]
  by_cases h2 : k = 2
  · rw [if_pos h2] at h
    simp only [if_pos h2]
    simp [Nat.add_eq_zero_iff, List.length_eq_zero_iff] at h
    rw [h.2.1, h.2.2]
    have : 2 ≤ (BV.wText s).length := by
      have h1 := Nat.pos_of_ne_zero (n := (Lib.itoa (s.length : Nat)).length) (fun e => by
        have := Go.Aw.itoa_nat s.length
        rw [this] at e
        have := Go.Aw.dd_pos s.length
        omega)
      unfold BV.wText
      rw [List.length_append, List.length_cons]; omega
    simp only [keysW, BV.writeL, List.map_nil, List.sum_nil, List.length_nil]
    omega
  rw [if_neg h2] at h
  simp only [if_neg h2]
  by_cases h3 : k = 3
  · rw [if_pos h3] at h
    simp only [if_pos h3]
    simp [List.length_eq_zero_iff] at h
    rw [h.2]
    simp [keysW]; omega
  rw [if_neg h3] at h
  simp only [if_neg h3]
  by_cases h4 : k = 4
  · rw [if_pos h4] at h
    unfold dictB at h
    simp only [Bool.and_eq_true, beq_iff_eq] at h
    have hl : keys.length = kids.length := h.1.1.2
    have := writeD_len' hl
    simp only [List.length_cons, List.length_append, List.length_nil]
    omega
  · rw [if_neg h4] at h
    cases h
mutual
/-- **What fits: a form with so many parts, so deep, so long.** -/
theorem fitV_iff : ∀ (v : BV) (lv c b : Nat), fitV lv c b v = if v.form = true ∧ v.depth ≤ lv ∧ c + v.count ≤ 1000 ∧ b + v.write.length ≤ 65536 then some (c + v.count, b + v.write.length) else none
  | .mk k n s kids keys, lv, c, b => by
    unfold fitV
    have hcnt : (BV.mk k n s kids keys).count = 1 + BV.countL kids := by unfold BV.count; rfl
    have hdep : (BV.mk k n s kids keys).depth = 1 + BV.depthL kids := by unfold BV.depth; rfl
    rw [form_shape, hcnt, hdep]
    by_cases h0 : lv = 0 ∨ 1000 < c + 1 ∨ shapeB (.mk k n s kids keys) = false
    · rw [if_pos h0, if_neg]
      rintro ⟨h1, h2, h3, -⟩
      rw [Bool.and_eq_true] at h1
      rcases h0 with h | h | h
      · omega
      · omega
      · rw [h1.1] at h; cases h
    · rw [if_neg h0]
      have hl : lv ≠ 0 := fun h => h0 (.inl h)
      have hc : ¬ 1000 < c + 1 := fun h => h0 (.inr (.inl h))
      have hs : shapeB (.mk k n s kids keys) = true := by
        cases hb : shapeB (.mk k n s kids keys) with
        | true => rfl
        | false => exact absurd (.inr (.inr hb)) h0
      have hw := write_len k n s kids keys hs
      rw [hw, hs, Bool.true_and, fitL_iff kids]
      by_cases hk : kids = [] ∨ (BV.formL kids = true ∧ BV.depthL kids ≤ lv - 1 ∧ (c + 1) + BV.countL kids ≤ 1000 ∧ (b + own k n s + 2 + keysW keys) + (BV.writeL kids).length ≤ 65536)
      · rw [if_pos hk]
        dsimp only
        have hk2 : BV.formL kids = true ∧ BV.depthL kids ≤ lv - 1 ∧ (c + 1) + BV.countL kids ≤ 1000 := by
          rcases hk with rfl | hk
          · exact ⟨by simp [BV.formL], by simp [BV.depthL], by simp [BV.countL]; omega⟩
          · exact ⟨hk.1, hk.2.1, hk.2.2.1⟩
        by_cases hb : b + own k n s + 2 + keysW keys + (BV.writeL kids).length ≤ 65536
        · rw [if_pos hb, if_pos ⟨hk2.1, by omega, by omega, by omega⟩]
          congr 2
          · omega
          · omega
        · rw [if_neg hb, if_neg]
          rintro ⟨-, -, -, h⟩
          omega
      · rw [if_neg hk]
        dsimp only
        rw [if_neg]
        rintro ⟨h1, h2, h3, h4⟩
        exact hk (.inr ⟨h1, by omega, by omega, by omega⟩)
theorem fitL_iff : ∀ (l : List BV) (lv c b : Nat), fitL lv c b l = if l = [] ∨ (BV.formL l = true ∧ BV.depthL l ≤ lv ∧ c + BV.countL l ≤ 1000 ∧ b + (BV.writeL l).length ≤ 65536) then some (c + BV.countL l, b + (BV.writeL l).length) else none
  | [], lv, c, b => by simp [fitL, BV.countL, BV.writeL]
  | v :: l, lv, c, b => by
    unfold fitL
    have hcnt : BV.countL (v :: l) = v.count + BV.countL l := by simp only [BV.countL]
    have hdep : BV.depthL (v :: l) = max v.depth (BV.depthL l) := by simp only [BV.depthL]
    have hfm : BV.formL (v :: l) = (v.form && BV.formL l) := by simp only [BV.formL]
    have hwr : (BV.writeL (v :: l)).length = v.write.length + (BV.writeL l).length := by simp only [BV.writeL, List.length_append]
    rw [fitV_iff v, hcnt, hdep, hfm, hwr]
    by_cases hv : v.form = true ∧ v.depth ≤ lv ∧ c + v.count ≤ 1000 ∧ b + v.write.length ≤ 65536
    · rw [if_pos hv]
      dsimp only
      rw [fitL_iff l]
      by_cases hk : l = [] ∨ (BV.formL l = true ∧ BV.depthL l ≤ lv ∧ (c + v.count) + BV.countL l ≤ 1000 ∧ (b + v.write.length) + (BV.writeL l).length ≤ 65536)
      · rw [if_pos hk, if_pos, Nat.add_assoc, Nat.add_assoc]
        refine .inr ?_
        rcases hk with rfl | hk
        · exact ⟨by rw [hv.1]; simp [BV.formL], by simp [BV.depthL]; exact hv.2.1, by simp [BV.countL]; exact hv.2.2.1, by simp [BV.writeL]; exact hv.2.2.2⟩
        · exact ⟨by rw [hv.1, hk.1]; rfl, Nat.max_le.2 ⟨hv.2.1, hk.2.1⟩, by omega, by omega⟩
      · rw [if_neg hk, if_neg]
        rintro (h | ⟨h1, h3, h4, h5⟩)
        · cases h
        · obtain ⟨h1, h2⟩ := (Bool.and_eq_true _ _).mp h1
          exact hk (.inr ⟨h2, (Nat.max_le.1 h3).2, by omega, by omega⟩)
    · rw [if_neg hv]
      dsimp only
      rw [if_neg]
      rintro (h | ⟨h1, h3, h4, h5⟩)
      · cases h
      · obtain ⟨h1, h2⟩ := (Bool.and_eq_true _ _).mp h1
        exact hv ⟨h1, (Nat.max_le.1 h3).1, by omega, by omega⟩
end
theorem fit_valid (v : BV) : (fitV 12 0 0 v).isSome = v.valid := by
  rw [fitV_iff, Bool.eq_iff_iff]
  unfold BV.valid
  split
  · rename_i h
    simp only [Option.isSome_some, Bool.and_eq_true, decide_eq_true_eq, true_iff]
    exact ⟨⟨⟨h.1, by omega⟩, h.2.1⟩, by omega⟩
  · rename_i h
    simp only [Option.isSome_none, Bool.and_eq_true, decide_eq_true_eq, Bool.false_eq_true, false_iff]
    rintro ⟨⟨⟨h1, h2⟩, h3⟩, h4⟩
    exact h ⟨h1, h3, by omega, by omega⟩
end Go.Proofs.YthcdjconlfdidaaDoor

