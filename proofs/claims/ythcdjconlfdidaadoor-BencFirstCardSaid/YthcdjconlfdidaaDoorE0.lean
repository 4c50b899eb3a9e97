/-
  Numbers in decimal: what is read of them by the library.
-/
import Derived.Test.YthcdjconlfdidaaDoorCC
import Derived.Lib.AtoiAll
set_option linter.unusedVariables false
namespace Go.Aw
open Go.Lib
theorem dd_digit : ∀ (v : Nat), ∀ c ∈ decDigits v, 48 ≤ c.toNat ∧ c.toNat ≤ 57 := by
  intro v
  induction v using Nat.strongRecOn with
  | _ v ih =>
    intro c hc
    rcases Nat.lt_or_ge v 10 with h | h
    · rw [dd_lt v h] at hc
      have : c = UInt8.ofNat (48 + v) := by simpa using hc
      subst this
      rw [dig_nat v h]; omega
    · rw [dd_eq v h] at hc
      rcases List.mem_append.1 hc with hc | hc
      · exact ih (v / 10) (by omega) c hc
      · have : c = UInt8.ofNat (48 + v % 10) := by simpa using hc
        subst this
        rw [dig_nat _ (by omega)]; omega
theorem parse_app : ∀ (l t : List UInt8) (acc u : Nat), parseUint10 acc l = .ok u → parseUint10 acc (l ++ t) = parseUint10 u t
  | [], t, acc, u, h => by
    simp only [parseUint10] at h
    injection h with h
    subst h; rfl
  | c :: r, t, acc, u, h => by
    rw [List.cons_append]
    simp only [parseUint10] at h ⊢
    split at h
    · rename_i h1
      rw [if_pos h1]
      split at h
      · cases h
      · rename_i h2
        rw [if_neg h2]
        split at h
        · cases h
        · rename_i h3
          rw [if_neg h3]
          exact parse_app r t _ u h
    · cases h
theorem dd_parse : ∀ (v : Nat), v < 18446744073709551616 → parseUint10 0 (decDigits v) = .ok v := by
  intro v
  induction v using Nat.strongRecOn with
  | _ v ih =>
    intro hv
    rcases Nat.lt_or_ge v 10 with h | h
    · rw [dd_lt v h]
      simp only [parseUint10]
      rw [dig_nat v h, if_pos (by omega), if_neg (by omega), if_neg (by omega)]
      congr 1; omega
    · rw [dd_eq v h, parse_app _ _ _ _ (ih (v / 10) (by omega) (by omega))]
      simp only [parseUint10]
      rw [dig_nat _ (by omega), if_pos (by omega), if_neg (by omega), if_neg (by omega)]
      congr 1; omega
theorem dd_inj {a b : Nat} (ha : a < 18446744073709551616) (hb : b < 18446744073709551616) (h : decDigits a = decDigits b) : a = b := by
  have h1 := dd_parse a ha
  rw [h, dd_parse b hb] at h1
  injection h1 with h1
  exact h1.symm
theorem dd_atoi (v : Nat) (h : v < 9223372036854775808) : atoiAll (decDigits v) = .ok v := by
  have hd := dd_digit v
  have hp := dd_parse v (by omega)
  have hne := dd_ne v
  cases hc : decDigits v with
  | nil => exact absurd hc hne
  | cons c r =>
    have h1 := hd c (by rw [hc]; simp)
    rw [hc] at hp
    have e : parseMag (c :: r) = .ok v := by unfold parseMag; rw [if_neg (by simp), hp]
    unfold atoiAll
    simp only
    rw [if_neg (by omega), e]
    simp only
    rw [if_neg (by omega), if_neg (by omega), if_neg (by omega)]
end Go.Aw

