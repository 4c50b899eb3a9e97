/-
  Plain law: numbers and texts that are written are read, and what is read was written so.
-/
import Derived.Test.YthcdjconlfdidaaDoorCAM
set_option linter.unusedVariables false
set_option linter.unusedSimpArgs false
namespace Go.Aw
open Go.Lib
theorem dd_eq (v : Nat) (h : 10 ≤ v) : decDigits v = decDigits (v / 10) ++ [UInt8.ofNat (48 + v % 10)] := by rw [decDigits, dif_neg (by omega)]
theorem dd_lt (v : Nat) (h : v < 10) : decDigits v = [UInt8.ofNat (48 + v)] := by rw [decDigits, dif_pos h]
theorem dig_nat (d : Nat) (h : d < 10) : (UInt8.ofNat (48 + d)).toNat = 48 + d := by simp; omega
theorem dd_ne (v : Nat) : decDigits v ≠ [] := by
  rw [decDigits]; split <;> simp
theorem dd_pos (v : Nat) : 0 < (decDigits v).length := List.length_pos_iff.2 (dd_ne v)
theorem dd_head : ∀ (v : Nat), (decDigits v)[0]? = some 48 → v = 0 := by
  intro v
  induction v using Nat.strongRecOn with
  | _ v ih =>
    intro h
    rcases Nat.lt_or_ge v 10 with h1 | h1
    · rw [dd_lt v h1] at h
      have h2 : UInt8.ofNat (48 + v) = 48 := by simpa using h
      have := congrArg UInt8.toNat h2
      rw [dig_nat v h1] at this
      have h3 : (48 : UInt8).toNat = 48 := rfl
      omega
    · rw [dd_eq v h1, List.getElem?_append_left (List.length_pos_iff.2 (dd_ne _))] at h
      have := ih (v / 10) (by omega) h
      omega
theorem dd_first (v : Nat) : ∃ c, (decDigits v)[0]? = some c ∧ dig c = true := by
  induction v using Nat.strongRecOn with
  | _ v ih =>
    rcases Nat.lt_or_ge v 10 with h | h
    · refine ⟨_, by rw [dd_lt v h]; rfl, ?_⟩
      unfold dig
      rw [dig_nat v h]
      simp
      omega
    · obtain ⟨c, h1, h2⟩ := ih (v / 10) (by omega)
      exact ⟨c, by rw [dd_eq v h, List.getElem?_append_left (dd_pos _)]; exact h1, h2⟩
theorem dig_of (d : Nat) (h : d < 10) : dig (UInt8.ofNat (48 + d)) = true := by
  unfold dig
  rw [dig_nat d h]
  simp
  omega
theorem ne58 (d : Nat) (h : d < 10) : UInt8.ofNat (48 + d) ≠ 58 := fun e => by
  have := congrArg UInt8.toNat e
  rw [dig_nat d h] at this
  have h3 : (58 : UInt8).toNat = 58 := rfl
  omega
theorem ne101 (d : Nat) (h : d < 10) : UInt8.ofNat (48 + d) ≠ 101 := fun e => by
  have := congrArg UInt8.toNat e
  rw [dig_nat d h] at this
  have h3 : (101 : UInt8).toNat = 101 := rfl
  omega
theorem of_dig {c : UInt8} (h : dig c = true) : c.toNat - 48 < 10 ∧ 48 ≤ c.toNat ∧ c = UInt8.ofNat (48 + (c.toNat - 48)) := by
  unfold dig at h
  simp at h
  refine ⟨by omega, h.1, ?_⟩
  apply UInt8.toNat_inj.1
  rw [dig_nat _ (by omega)]
  omega
theorem dd_snoc {n d : Nat} (hn : n ≠ 0) (hd : d < 10) : decDigits (10 * n + d) = decDigits n ++ [UInt8.ofNat (48 + d)] := by
  rw [dd_eq _ (by omega)]
  congr 2
  · omega
  · congr 1; omega
/-! ### Lengths -/
theorem len_dd {z : Bool} : ∀ (v : Nat), v ≤ 65536 → (z = true → v = 0) → ∀ r, lenGo z 0 0 (decDigits v ++ r) = lenGo z (decDigits v).length v r := by
  intro v
  induction v using Nat.strongRecOn with
  | _ v ih =>
    intro hv hz r
    rcases Nat.lt_or_ge v 10 with h | h
    · rw [dd_lt v h]
      rw [List.cons_append, List.nil_append, lenGo, if_neg (by omega), if_neg, dig_nat v h]
      · congr 1; omega
      · rw [dig_of v h, dig_nat v h]
        rintro (h | h | h)
        · cases h
        · omega
        · omega
    · have hz0 : z ≠ true := fun e => by have := hz e; omega
      rw [dd_eq v h, List.append_assoc, ih (v / 10) (by omega) (by omega) (fun e => absurd e hz0), List.cons_append, List.nil_append, lenGo, if_neg (fun e => ne58 _ (by omega) e.1), if_neg, dig_nat _ (by omega)]
      · rw [List.length_append]
        congr 1; omega
      · rw [dig_of _ (by omega), dig_nat _ (by omega)]
        rintro (h | h | h)
        · cases h
        · exact hz0 h.2
        · omega
theorem dd_inv {z : Bool} : ∀ (l : List UInt8) (k n n' k' : Nat), 0 < k → (n = 0 → k = 1 ∧ z = true) → lenGo z k n l = .inr (n', k') → ∃ t r, l = t ++ 58 :: r ∧ decDigits n' = decDigits n ++ t ∧ k' = k + t.length
  | [], k, n, n', k', hk, h0, h => by simp [lenGo] at h
  | c :: l, k, n, n', k', hk, h0, h => by
    unfold lenGo at h
    split at h
    · rename_i hc
      cases h
      exact ⟨[], l, by rw [hc.1]; rfl, by simp, rfl⟩
    · split at h
      · cases h
      · rename_i h1
        have hd : dig c = true := by
          cases hh : dig c with
          | true => rfl
          | false => exact absurd (.inl hh) h1
        obtain ⟨d1, d2, d3⟩ := of_dig hd
        have hn : n ≠ 0 := fun e => h1 (.inr (.inl (h0 e)))
        obtain ⟨t, r, e1, e2, e3⟩ := dd_inv l _ _ _ _ (by omega) (fun e => by omega) h
        refine ⟨c :: t, r, by rw [e1]; rfl, ?_, by rw [e3, List.length_cons]; omega⟩
        rw [e2, dd_snoc hn d1, List.append_assoc, ← d3]; rfl
theorem len_inv {l : List UInt8} {n k : Nat} (h : lenGo (l[0]? == some 48) 0 0 l = .inr (n, k)) : ∃ r, l = decDigits n ++ 58 :: r ∧ k = (decDigits n).length := by
  cases l with
  | nil => simp [lenGo] at h
  | cons c l =>
    unfold lenGo at h
    rw [if_neg (by omega)] at h
    split at h
    · cases h
    · rename_i h1
      have hd : dig c = true := by
        cases hh : dig c with
        | true => rfl
        | false => exact absurd (.inl hh) h1
      obtain ⟨d1, d2, d3⟩ := of_dig hd
      have hc0 : 10 * 0 + (c.toNat - 48) = c.toNat - 48 := by omega
      rw [hc0] at h
      obtain ⟨t, r, e1, e2, e3⟩ := dd_inv l _ _ _ _ (by omega) (fun e => ⟨rfl, by
        rw [List.getElem?_cons_zero, d3, e]; rfl⟩) h
      rw [dd_lt _ d1] at e2
      refine ⟨r, ?_, ?_⟩
      · rw [e2, e1, ← d3]; rfl
      · rw [e3, e2]; simp; omega
/-- A text that is written is read. -/
theorem text_wText {s p t q : List UInt8} (hs : s = p ++ (BV.wText t ++ q)) (ht : t.length ≤ 65536) : textR s p.length = .ok t (p.length + (BV.wText t).length) 0 := by
  have hi : itoa (t.length : Nat) = decDigits t.length := by unfold itoa; rw [if_neg (by omega)]; rfl
  have hd : s.drop p.length = decDigits t.length ++ (58 :: (t ++ q)) := by
    rw [hs, List.drop_left]; unfold BV.wText; rw [hi]; simp
  have h0 : (s[p.length]? == some 48) = true → t.length = 0 := fun e => by
    have e : s[p.length]? = some 48 := by simpa using e
    refine dd_head _ ?_
    have : s[p.length]? = (s.drop p.length)[0]? := by rw [List.getElem?_drop]; rfl
    rw [this, hd, List.getElem?_append_left (dd_pos _)] at e
    exact e
  unfold textR
  rw [hd, len_dd _ ht h0, lenGo, if_pos ⟨rfl, dd_pos _⟩]
  have hl : s.length = p.length + ((decDigits t.length).length + 1 + t.length + q.length) := by
    rw [hs]; unfold BV.wText; rw [hi]; simp; omega
  simp only
  rw [if_neg (by omega)]
  have hw : (BV.wText t).length = (decDigits t.length).length + 1 + t.length := by unfold BV.wText; rw [hi]; simp; omega
  have hdd : s.drop (p.length + (decDigits t.length).length + 1) = t ++ q := by
    have : s.drop (p.length + (decDigits t.length).length + 1) = (s.drop p.length).drop ((decDigits t.length).length + 1) := by rw [List.drop_drop]; rfl
    rw [this, hd]
    rw [← List.drop_drop, List.drop_left]
    rfl
  rw [hdd, List.take_left, hw]
  congr 1
  omega
/-- What is read as a text was written so. -/
theorem text_inv {s : List UInt8} {i : Nat} {t : List UInt8} {j n : Nat} (hi : i ≤ s.length) (h : textR s i = .ok t j n) : ∃ q, s.drop i = BV.wText t ++ q ∧ j = i + (BV.wText t).length ∧ t.length ≤ 65536 := by
  unfold textR at h
  split at h
  · cases h
  · rename_i n' k hl
    have hb := lenGo_r _ _ _ _ _ hl
    split at h
    · cases h
    · rename_i hlen
      cases h
      have e0 : s[i]? = (s.drop i)[0]? := by rw [List.getElem?_drop]; rfl
      rw [e0] at hl
      obtain ⟨r, e1, e2⟩ := len_inv hl
      have hdr : s.drop (i + k + 1) = r := by
        have : s.drop (i + k + 1) = (s.drop i).drop (k + 1) := by rw [List.drop_drop]; rfl
        rw [this, e1, ← List.drop_drop, e2, List.drop_left]; rfl
      have hrl : r.length = s.length - (i + k + 1) := by rw [← hdr, List.length_drop]
      have htl : (r.take n').length = n' := by rw [List.length_take]; omega
      rw [hdr]
      have hw : itoa ((r.take n').length : Nat) = decDigits n' := by rw [htl]; unfold itoa; rw [if_neg (by omega)]; rfl
      refine ⟨r.drop n', ?_, ?_, by rw [htl]; exact hb.2.2.2 (by omega)⟩
      · rw [e1]; unfold BV.wText; rw [hw, List.append_assoc, List.cons_append, List.take_append_drop]
      · unfold BV.wText; rw [hw, List.length_append, List.length_cons, htl, ← e2]; omega
/-! ### Numbers -/
theorem num_dd {m : Bool} : ∀ (v : Nat), (v : Int) ≤ 9223372036854775808 → (m = false → (v : Int) ≤ 9223372036854775807) → (m = true → v ≠ 0) → ∀ r, numGo m 0 0 (decDigits v ++ r) = numGo m (decDigits v).length (-(v : Int)) r := by
  intro v
  induction v using Nat.strongRecOn with
  | _ v ih =>
    intro hv hm hz r
    rcases Nat.lt_or_ge v 10 with h | h
    · rw [dd_lt v h]
      rw [List.cons_append, List.nil_append, numGo, if_neg (by omega), if_neg, if_neg, dig_nat v h]
      · congr 1; omega
      · rw [dig_nat v h]
        rintro (h | ⟨h, h'⟩) <;> omega
      · rw [dig_of v h]
        rintro (h | h | ⟨_, h1, h2⟩)
        · cases h
        · omega
        · have := congrArg UInt8.toNat h2
          rw [dig_nat v h] at this
          have h3 : (48 : UInt8).toNat = 48 := rfl
          exact hz h1 (by omega)
    · rw [dd_eq v h, List.append_assoc, ih (v / 10) (by omega) (by omega) (fun e => by have := hm e; omega) (fun e => by omega), List.cons_append, List.nil_append, numGo, if_neg (fun e => ne101 _ (by omega) e.1), if_neg, if_neg, dig_nat _ (by omega)]
      · rw [List.length_append]
        congr 1; omega
      · rw [dig_nat _ (by omega)]
        rintro (h | ⟨h, h'⟩)
        · omega
        · have := hm h; omega
      · rw [dig_of _ (by omega)]
        rintro (h | h | ⟨h1, _⟩)
        · cases h
        · omega
        · have := dd_pos (v / 10); omega
theorem dd_invN {m : Bool} : ∀ (l : List UInt8) (k v : Nat) (n' : Int) (k' : Nat), 0 < k → (m = true → v ≠ 0) → (v : Int) ≤ 9223372036854775808 → (m = false → (v : Int) ≤ 9223372036854775807) → numGo m k (-(v : Int)) l = .inr (n', k') →
    ∃ (v' : Nat) (t r : List UInt8), n' = -(v' : Int) ∧ l = t ++ 101 :: r ∧ decDigits v' = decDigits v ++ t ∧ k' = k + t.length ∧ (m = true → v' ≠ 0) ∧ (v' : Int) ≤ 9223372036854775808 ∧ (m = false → (v' : Int) ≤ 9223372036854775807)
  | [], k, v, n', k', hk, h0, hb, hb2, h => by simp [numGo] at h
  | c :: l, k, v, n', k', hk, h0, hb, hb2, h => by
    unfold numGo at h
    split at h
    · rename_i hc
      cases h
      exact ⟨v, [], l, rfl, by rw [hc.1]; rfl, by simp, rfl, h0, hb, hb2⟩
    · split at h
      · cases h
      · rename_i h1
        have hd : dig c = true := by
          cases hh : dig c with
          | true => rfl
          | false => exact absurd (.inl hh) h1
        obtain ⟨d1, d2, d3⟩ := of_dig hd
        have hn : v ≠ 0 := fun e => h1 (.inr (.inl ⟨hk, by omega⟩))
        split at h
        · cases h
        · rename_i h2
          have hv : 10 * (-(v : Int)) - ((c.toNat : Int) - 48) = -((10 * v + (c.toNat - 48) : Nat) : Int) := by omega
          rw [hv] at h h2
          obtain ⟨v', t, r, e0, e1, e2, e3, e4⟩ := dd_invN l _ _ _ _ (by omega) (fun e => by omega) (by
            have : ¬ -((10 * v + (c.toNat - 48) : Nat) : Int) < -9223372036854775808 := fun h => h2 (.inl h)
            omega) (fun e => by
            have h3 : ¬ -((10 * v + (c.toNat - 48) : Nat) : Int) < -9223372036854775808 := fun h => h2 (.inl h)
            have h4 : ¬ -((10 * v + (c.toNat - 48) : Nat) : Int) = -9223372036854775808 := fun h => h2 (.inr ⟨e, h⟩)
            omega) h
          refine ⟨v', c :: t, r, e0, by rw [e1]; rfl, ?_, by rw [e3, List.length_cons]; omega, e4⟩
          rw [e2, dd_snoc hn d1, List.append_assoc, ← d3]; rfl
theorem num_inv {m : Bool} {l : List UInt8} {n : Int} {k : Nat} (h : numGo m 0 0 l = .inr (n, k)) :
    ∃ (v : Nat) (r : List UInt8), n = -(v : Int) ∧ l = decDigits v ++ 101 :: r ∧ k = (decDigits v).length ∧ (m = true → v ≠ 0) ∧ (v : Int) ≤ 9223372036854775808 ∧ (m = false → (v : Int) ≤ 9223372036854775807) := by
  cases l with
  | nil => simp [numGo] at h
  | cons c l =>
    unfold numGo at h
    rw [if_neg (by omega)] at h
    split at h
    · cases h
    · rename_i h1
      have hd : dig c = true := by
        cases hh : dig c with
        | true => rfl
        | false => exact absurd (.inl hh) h1
      obtain ⟨d1, d2, d3⟩ := of_dig hd
      split at h
      · cases h
      · have hv : 10 * (0 : Int) - ((c.toNat : Int) - 48) = -((c.toNat - 48 : Nat) : Int) := by omega
        rw [hv] at h
        obtain ⟨v', t, r, e0, e1, e2, e3, e4⟩ := dd_invN l _ _ _ _ (by omega) (fun e e' => h1 (.inr (.inr ⟨rfl, e, by rw [d3, e']; rfl⟩))) (by omega) (fun e => by omega) h
        rw [dd_lt _ d1] at e2
        refine ⟨v', r, e0, ?_, ?_, e4⟩
        · rw [e2, e1, ← d3]; rfl
        · rw [e3, e2]; simp; omega
def isI64 (z : Int) : Prop := -9223372036854775808 ≤ z ∧ z ≤ 9223372036854775807
theorem ne45 {v : Nat} : ∀ {q : List UInt8}, ((decDigits v ++ q)[0]? == some 45) = false := by
  intro q
  obtain ⟨c, h1, h2⟩ := dd_first v
  rw [List.getElem?_append_left (dd_pos _), h1]
  have := (of_dig h2).2.1
  cases hc : (some c == some (45 : UInt8)) with
  | false => rfl
  | true =>
    have : c = 45 := by simpa using hc
    subst this
    have h3 : (45 : UInt8).toNat = 45 := rfl
    omega
/-- A number that is written is read. -/
theorem num_itoa {s p q : List UInt8} {z : Int} (hs : s = p ++ (itoa z ++ 101 :: q)) (hz : isI64 z) : numR s p.length = .ok z (p.length + (itoa z).length + 1) 0 := by
  have hd : s.drop p.length = itoa z ++ 101 :: q := by rw [hs, List.drop_left]
  have e0 : s[p.length]? = (s.drop p.length)[0]? := by rw [List.getElem?_drop]; rfl
  unfold numR
  simp only
  rw [e0]
  rcases (show z < 0 ∨ 0 ≤ z by omega) with h | h
  · have hi : itoa z = 45 :: decDigits z.natAbs := by unfold itoa; rw [if_pos h]
    rw [hd, hi]
    have hm : ((45 :: decDigits z.natAbs ++ 101 :: q)[0]? == some (45 : UInt8)) = true := rfl
    rw [hm]
    simp only [if_true]
    have hdd : s.drop (p.length + 1) = decDigits z.natAbs ++ 101 :: q := by
      rw [← List.drop_drop, hd, hi]; rfl
    rw [hdd, num_dd _ (by unfold isI64 at hz; omega) (fun e => by cases e) (fun _ => by omega), numGo, if_pos ⟨rfl, dd_pos _⟩]
    simp only [List.length_cons]
    congr 1
    · omega
    · omega
  · have hi : itoa z = decDigits z.toNat := by unfold itoa; rw [if_neg (by omega)]
    rw [hd, hi, ne45]
    simp only [Bool.false_eq_true, if_false]
    have hdd : s.drop p.length = decDigits z.toNat ++ 101 :: q := by rw [hd, hi]
    rw [hdd, num_dd _ (by unfold isI64 at hz; omega) (fun e => by unfold isI64 at hz; omega) (fun e => by cases e), numGo, if_pos ⟨rfl, dd_pos _⟩]
    simp only
    congr 1
    omega
theorem numR_inv {s : List UInt8} {i : Nat} {z : Int} {j n : Nat} (hi : i ≤ s.length) (h : numR s i = .ok z j n) : ∃ q, s.drop i = itoa z ++ 101 :: q ∧ j = i + (itoa z).length + 1 ∧ isI64 z := by
  unfold numR at h
  simp only at h
  have e0 : s[i]? = (s.drop i)[0]? := by rw [List.getElem?_drop]; rfl
  cases hm : (s[i]? == some (45 : UInt8)) with
  | true =>
    rw [hm] at h
    simp only [if_true] at h
    split at h
    · cases h
    · rename_i n' k hl
      cases h
      obtain ⟨v, r, e1, e2, e3, e4, e5, e6⟩ := num_inv hl
      have hv := e4 rfl
      have hs : s[i]? = some 45 := by simpa using hm
      have hlt := (List.getElem?_eq_some_iff.1 hs).1
      have hz : z < 0 := by omega
      have hit : itoa z = 45 :: decDigits v := by unfold itoa; rw [if_pos hz]; congr 2; omega
      refine ⟨r, ?_, by rw [hit, e3, List.length_cons]; omega, by unfold isI64; omega⟩
      rw [hit, List.drop_eq_getElem_cons hlt, e2]
      have : s[i] = 45 := by rw [List.getElem?_eq_getElem hlt] at hs; exact Option.some.inj hs
      rw [this]; rfl
  | false =>
    rw [hm] at h
    simp only [Bool.false_eq_true, if_false] at h
    split at h
    · cases h
    · rename_i n' k hl
      cases h
      obtain ⟨v, r, e1, e2, e3, e4, e5, e6⟩ := num_inv hl
      have hv := e6 rfl
      have hit : itoa (-n') = decDigits v := by unfold itoa; rw [if_neg (by omega)]; congr 1; omega
      exact ⟨r, by rw [hit]; exact e2, by rw [hit, e3], by unfold isI64; omega⟩
end Go.Aw

