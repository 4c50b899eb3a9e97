/- A part of the proof of a statement of this seat. -/
import Derived.Test.YtdbdnknnaekbhaaAwB
set_option linter.unusedVariables false
namespace Go.Aw
/-! Bits of bytes. -/
def bitAt (id : List UInt8) (n : Nat) : Bool := (id.getD (n / 8) 0).toNat.testBit (7 - n % 8)
theorem bitAt_set (c : List UInt8) (j : Nat) (b : UInt8) (hj : j < c.length) (m : Nat) : bitAt (c.set j b) m = if m / 8 = j then b.toNat.testBit (7 - m % 8) else bitAt c m := by
  unfold bitAt
  by_cases h : m / 8 = j
  · subst h
    rw [if_pos rfl, List.getD_eq_getElem?_getD, List.getElem?_set_self hj]; rfl
  · rw [if_neg h, List.getD_eq_getElem?_getD, List.getElem?_set_ne (Ne.symm h), ← List.getD_eq_getElem?_getD]
theorem byte_ext (a b : UInt8) (h : ∀ k, k < 8 → a.toNat.testBit k = b.toNat.testBit k) : a = b := by
  apply UInt8.toNat_inj.1
  apply Nat.eq_of_testBit_eq
  intro i
  by_cases hi : i < 8
  · exact h i hi
  · have h1 := a.toNat_lt
    have h2 := b.toNat_lt
    have h3 : 2 ^ 8 ≤ 2 ^ i := Nat.pow_le_pow_right (by omega) (by omega)
    rw [Nat.testBit_lt_two_pow (Nat.lt_of_lt_of_le h1 h3), Nat.testBit_lt_two_pow (Nat.lt_of_lt_of_le h2 h3)]
theorem bits_ext (a b : List UInt8) (n : Nat) (ha : a.length = n) (hb : b.length = n) (h : ∀ m, m < 8 * n → bitAt a m = bitAt b m) : a = b := by
  apply List.ext_getElem (by omega)
  intro j h1 h2
  apply byte_ext
  intro k hk
  have := h (8 * j + (7 - k)) (by omega)
  unfold bitAt at this
  rw [show (8 * j + (7 - k)) / 8 = j by omega, show 7 - (8 * j + (7 - k)) % 8 = k by omega, List.getD_eq_getElem?_getD, List.getD_eq_getElem?_getD, List.getElem?_eq_getElem h1, List.getElem?_eq_getElem h2] at this
  exact this
theorem bitAt_xor (a b : List UInt8) (h : a.length = b.length) (m : Nat) : bitAt (List.zipWith (· ^^^ ·) a b) m = (bitAt a m != bitAt b m) := by
  unfold bitAt
  rw [List.getD_eq_getElem?_getD, List.getD_eq_getElem?_getD, List.getD_eq_getElem?_getD]
  by_cases hm : m / 8 < a.length
  · rw [List.getElem?_eq_getElem (by simp; omega), List.getElem?_eq_getElem hm, List.getElem?_eq_getElem (by omega)]
    simp [UInt8.toNat_xor, Nat.testBit_xor]
  · rw [List.getElem?_eq_none (by simp; omega), List.getElem?_eq_none (by omega), List.getElem?_eq_none (by omega)]
    simp
end Go.Aw

