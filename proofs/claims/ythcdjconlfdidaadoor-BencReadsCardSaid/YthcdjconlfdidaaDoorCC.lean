/-
  Plain law: numbers and texts that are written are read, and what is read was written so.
-/
import Derived.Test.YthcdjconlfdidaaDoorCB
set_option linter.unusedVariables false
set_option linter.unusedSimpArgs false
namespace Go.Aw
open Go.Lib
theorem dd_eq (v : Nat) (h : 10 ≤ v) : decDigits v = decDigits (v / 10) ++ [UInt8.ofNat (48 + v % 10)] := by rw [decDigits, dif_neg (by omega)]
theorem dd_lt (v : Nat) (h : v < 10) : decDigits v = [UInt8.ofNat (48 + v)] := by rw [decDigits, dif_pos h]
theorem dig_nat (d : Nat) (h : d < 10) : (UInt8.ofNat (48 + d)).toNat = 48 + d := by simp; omega
theorem dd_ne (v : Nat) : decDigits v ≠ [] := by
  rw [decDigits]; split <;> simp
theorem dd_pos (v : Nat) : 0 < (decDigits v).length := List.length_pos_iff.2 (dd_ne v)
theorem of_dig {c : UInt8} (h : dig c = true) : c.toNat - 48 < 10 ∧ 48 ≤ c.toNat ∧ c = UInt8.ofNat (48 + (c.toNat - 48)) := by
  unfold dig at h
  simp at h
  refine ⟨by omega, h.1, ?_⟩
  apply UInt8.toNat_inj.1
  rw [dig_nat _ (by omega)]
  omega
theorem dd_snoc {n d : Nat} (hn : n ≠ 0) (hd : d < 10) : decDigits (10 * n + d) = decDigits n ++ [UInt8.ofNat (48 + d)] := by
  rw [dd_eq _ (by omega)]
  congr 2
  · omega
  · congr 1; omega
/-! ### Lengths -/
theorem dd_inv {z : Bool} : ∀ (l : List UInt8) (k n n' k' : Nat), 0 < k → (n = 0 → k = 1 ∧ z = true) → lenGo z k n l = .inr (n', k') → ∃ t r, l = t ++ 58 :: r ∧ decDigits n' = decDigits n ++ t ∧ k' = k + t.length
  | [], k, n, n', k', hk, h0, h => by simp [lenGo] at h
  | c :: l, k, n, n', k', hk, h0, h => by
    unfold lenGo at h
    split at h
    · rename_i hc
      cases h
      exact ⟨[], l, by rw [hc.1]; rfl, by simp, rfl⟩
    · split at h
      · cases h
      · rename_i h1
        have hd : dig c = true := by
          cases hh : dig c with
          | true => rfl
          | false => exact absurd (.inl hh) h1
        obtain ⟨d1, d2, d3⟩ := of_dig hd
        have hn : n ≠ 0 := fun e => h1 (.inr (.inl (h0 e)))
        obtain ⟨t, r, e1, e2, e3⟩ := dd_inv l _ _ _ _ (by omega) (fun e => by omega) h
        refine ⟨c :: t, r, by rw [e1]; rfl, ?_, by rw [e3, List.length_cons]; omega⟩
        rw [e2, dd_snoc hn d1, List.append_assoc, ← d3]; rfl
theorem len_inv {l : List UInt8} {n k : Nat} (h : lenGo (l[0]? == some 48) 0 0 l = .inr (n, k)) : ∃ r, l = decDigits n ++ 58 :: r ∧ k = (decDigits n).length := by
  cases l with
  | nil => simp [lenGo] at h
  | cons c l =>
    unfold lenGo at h
    rw [if_neg (by omega)] at h
    split at h
    · cases h
    · rename_i h1
      have hd : dig c = true := by
        cases hh : dig c with
        | true => rfl
        | false => exact absurd (.inl hh) h1
      obtain ⟨d1, d2, d3⟩ := of_dig hd
      have hc0 : 10 * 0 + (c.toNat - 48) = c.toNat - 48 := by omega
      rw [hc0] at h
      obtain ⟨t, r, e1, e2, e3⟩ := dd_inv l _ _ _ _ (by omega) (fun e => ⟨rfl, by
        rw [List.getElem?_cons_zero, d3, e]; rfl⟩) h
      rw [dd_lt _ d1] at e2
      refine ⟨r, ?_, ?_⟩
      · rw [e2, e1, ← d3]; rfl
      · rw [e3, e2]; simp; omega
/-- What is read as a text was written so. -/
theorem text_inv {s : List UInt8} {i : Nat} {t : List UInt8} {j n : Nat} (hi : i ≤ s.length) (h : textR s i = .ok t j n) : ∃ q, s.drop i = BV.wText t ++ q ∧ j = i + (BV.wText t).length ∧ t.length ≤ 65536 := by
  unfold textR at h
  split at h
  · cases h
  · rename_i n' k hl
    have hb := lenGo_r _ _ _ _ _ hl
    split at h
    · cases h
    · rename_i hlen
      cases h
      have e0 : s[i]? = (s.drop i)[0]? := by rw [List.getElem?_drop]; rfl
      rw [e0] at hl
      obtain ⟨r, e1, e2⟩ := len_inv hl
      have hdr : s.drop (i + k + 1) = r := by
        have : s.drop (i + k + 1) = (s.drop i).drop (k + 1) := by rw [List.drop_drop]; rfl
        rw [this, e1, ← List.drop_drop, e2, List.drop_left]; rfl
      have hrl : r.length = s.length - (i + k + 1) := by rw [← hdr, List.length_drop]
      have htl : (r.take n').length = n' := by rw [List.length_take]; omega
      rw [hdr]
      have hw : itoa ((r.take n').length : Nat) = decDigits n' := by rw [htl]; unfold itoa; rw [if_neg (by omega)]; rfl
      refine ⟨r.drop n', ?_, ?_, by rw [htl]; exact hb.2.2.2 (by omega)⟩
      · rw [e1]; unfold BV.wText; rw [hw, List.append_assoc, List.cons_append, List.take_append_drop]
      · unfold BV.wText; rw [hw, List.length_append, List.length_cons, htl, ← e2]; omega
/-! ### Numbers -/
theorem dd_invN {m : Bool} : ∀ (l : List UInt8) (k v : Nat) (n' : Int) (k' : Nat), 0 < k → (m = true → v ≠ 0) → (v : Int) ≤ 9223372036854775808 → (m = false → (v : Int) ≤ 9223372036854775807) → numGo m k (-(v : Int)) l = .inr (n', k') →
    ∃ (v' : Nat) (t r : List UInt8), n' = -(v' : Int) ∧ l = t ++ 101 :: r ∧ decDigits v' = decDigits v ++ t ∧ k' = k + t.length ∧ (m = true → v' ≠ 0) ∧ (v' : Int) ≤ 9223372036854775808 ∧ (m = false → (v' : Int) ≤ 9223372036854775807)
  | [], k, v, n', k', hk, h0, hb, hb2, h => by simp [numGo] at h
  | c :: l, k, v, n', k', hk, h0, hb, hb2, h => by
    unfold numGo at h
    split at h
    · rename_i hc
      cases h
      exact ⟨v, [], l, rfl, by rw [hc.1]; rfl, by simp, rfl, h0, hb, hb2⟩
    · split at h
      · cases h
      · rename_i h1
        have hd : dig c = true := by
          cases hh : dig c with
          | true => rfl
          | false => exact absurd (.inl hh) h1
        obtain ⟨d1, d2, d3⟩ := of_dig hd
        have hn : v ≠ 0 := fun e => h1 (.inr (.inl ⟨hk, by omega⟩))
        split at h
        · cases h
        · rename_i h2
          have hv : 10 * (-(v : Int)) - ((c.toNat : Int) - 48) = -((10 * v + (c.toNat - 48) : Nat) : Int) := by omega
          rw [hv] at h h2
          obtain ⟨v', t, r, e0, e1, e2, e3, e4⟩ := dd_invN l _ _ _ _ (by omega) (fun e => by omega) (by
            have : ¬ -((10 * v + (c.toNat - 48) : Nat) : Int) < -9223372036854775808 := fun h => h2 (.inl h)
            omega) (fun e => by
            have h3 : ¬ -((10 * v + (c.toNat - 48) : Nat) : Int) < -9223372036854775808 := fun h => h2 (.inl h)
            have h4 : ¬ -((10 * v + (c.toNat - 48) : Nat) : Int) = -9223372036854775808 := fun h => h2 (.inr ⟨e, h⟩)
            omega) h
          refine ⟨v', c :: t, r, e0, by rw [e1]; rfl, ?_, by rw [e3, List.length_cons]; omega, e4⟩
          rw [e2, dd_snoc hn d1, List.append_assoc, ← d3]; rfl
theorem num_inv {m : Bool} {l : List UInt8} {n : Int} {k : Nat} (h : numGo m 0 0 l = .inr (n, k)) :
    ∃ (v : Nat) (r : List UInt8), n = -(v : Int) ∧ l = decDigits v ++ 101 :: r ∧ k = (decDigits v).length ∧ (m = true → v ≠ 0) ∧ (v : Int) ≤ 9223372036854775808 ∧ (m = false → (v : Int) ≤ 9223372036854775807) := by
  cases l with
  | nil => simp [numGo] at h
  | cons c l =>
    unfold numGo at h
    rw [if_neg (by omega)] at h
    split at h
    · cases h
    · rename_i h1
      have hd : dig c = true := by
        cases hh : dig c with
        | true => rfl
        | false => exact absurd (.inl hh) h1
      obtain ⟨d1, d2, d3⟩ := of_dig hd
      split at h
      · cases h
      · have hv : 10 * (0 : Int) - ((c.toNat : Int) - 48) = -((c.toNat - 48 : Nat) : Int) := by omega
        rw [hv] at h
        obtain ⟨v', t, r, e0, e1, e2, e3, e4⟩ := dd_invN l _ _ _ _ (by omega) (fun e e' => h1 (.inr (.inr ⟨rfl, e, by rw [d3, e']; rfl⟩))) (by omega) (fun e => by omega) h
        rw [dd_lt _ d1] at e2
        refine ⟨v', r, e0, ?_, ?_, e4⟩
        · rw [e2, e1, ← d3]; rfl
        · rw [e3, e2]; simp; omega
def isI64 (z : Int) : Prop := -9223372036854775808 ≤ z ∧ z ≤ 9223372036854775807
theorem numR_inv {s : List UInt8} {i : Nat} {z : Int} {j n : Nat} (hi : i ≤ s.length) (h : numR s i = .ok z j n) : ∃ q, s.drop i = itoa z ++ 101 :: q ∧ j = i + (itoa z).length + 1 ∧ isI64 z := by
  unfold numR at h
  simp only at h
  have e0 : s[i]? = (s.drop i)[0]? := by rw [List.getElem?_drop]; rfl
  cases hm : (s[i]? == some (45 : UInt8)) with
  | true =>
    rw [hm] at h
    simp only [if_true] at h
    split at h
    · cases h
    · rename_i n' k hl
      cases h
      obtain ⟨v, r, e1, e2, e3, e4, e5, e6⟩ := num_inv hl
      have hv := e4 rfl
      have hs : s[i]? = some 45 := by simpa using hm
      have hlt := (List.getElem?_eq_some_iff.1 hs).1
      have hz : z < 0 := by omega
      have hit : itoa z = 45 :: decDigits v := by unfold itoa; rw [if_pos hz]; congr 2; omega
      refine ⟨r, ?_, by rw [hit, e3, List.length_cons]; omega, by unfold isI64; omega⟩
      rw [hit, List.drop_eq_getElem_cons hlt, e2]
      have : s[i] = 45 := by rw [List.getElem?_eq_getElem hlt] at hs; exact Option.some.inj hs
      rw [this]; rfl
  | false =>
    rw [hm] at h
    simp only [Bool.false_eq_true, if_false] at h
    split at h
    · cases h
    · rename_i n' k hl
      cases h
      obtain ⟨v, r, e1, e2, e3, e4, e5, e6⟩ := num_inv hl
      have hv := e6 rfl
      have hit : itoa (-n') = decDigits v := by unfold itoa; rw [if_neg (by omega)]; congr 1; omega
      exact ⟨r, by rw [hit]; exact e2, by rw [hit, e3], by unfold isI64; omega⟩
end Go.Aw

