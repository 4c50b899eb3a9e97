/-
  Numbers of 64 bits: the operations on them as those of UInt64.
-/
import Derived.Test.YtdeoaadkngiilaaDoorAw22
set_option linter.unusedVariables false
namespace Go.Aw
theorem w64_xor (a b : UInt64) : xorI .u64 (a.toNat : Int) (b.toNat : Int) = ((a ^^^ b).toNat : Int) := by
  unfold xorI
  rw [wu64]
  · congr 1
    rw [BitVec.toNat_xor, UInt64.toNat_xor]
    congr 1
    · show (BitVec.ofInt 64 (a.toNat : Int)).toNat = _
      rw [BitVec.ofInt_natCast, BitVec.toNat_ofNat]
      exact Nat.mod_eq_of_lt a.toNat_lt
    · show (BitVec.ofInt 64 (b.toNat : Int)).toNat = _
      rw [BitVec.ofInt_natCast, BitVec.toNat_ofNat]
      exact Nat.mod_eq_of_lt b.toNat_lt
  · constructor
    · exact Int.natCast_nonneg _
    · have := (BitVec.ofInt IntKind.u64.bits (a.toNat : Int) ^^^ BitVec.ofInt IntKind.u64.bits (b.toNat : Int)).isLt
      have h : (2 : Nat) ^ IntKind.u64.bits = 18446744073709551616 := by decide
      rw [h] at this
      omega
theorem w64_of (x : Int) : IntKind.u64.wrap x = ((UInt64.ofNat (x % 18446744073709551616).toNat).toNat : Int) := by
  rw [IntKind.wrap_u64, UInt64.toNat_ofNat']
  have h1 : 0 ≤ x % 18446744073709551616 := Int.emod_nonneg _ (by decide)
  have h2 : x % 18446744073709551616 < 18446744073709551616 := Int.emod_lt_of_pos _ (by decide)
  rw [Nat.mod_eq_of_lt (by omega)]
  omega
theorem w64_mul (a b : UInt64) : IntKind.u64.wrap ((a.toNat : Int) * (b.toNat : Int)) = ((a * b).toNat : Int) := by
  rw [IntKind.wrap_u64, UInt64.toNat_mul, ← Int.natCast_mul, show (2 : Nat) ^ 64 = 18446744073709551616 by decide]
  omega
theorem w64_add (a b : UInt64) : IntKind.u64.wrap ((a.toNat : Int) + (b.toNat : Int)) = ((a + b).toNat : Int) := by
  rw [IntKind.wrap_u64, UInt64.toNat_add, show (2 : Nat) ^ 64 = 18446744073709551616 by decide]
  omega
theorem w64_shr (a : UInt64) (n : Nat) (h : n < 64) : shrI .u64 (a.toNat : Int) (n : Int) = ((a >>> UInt64.ofNat n).toNat : Int) := by
  rw [shrI_n _ _ _ (by show n ≤ 64; omega), UInt64.toNat_shiftRight, UInt64.toNat_ofNat', Nat.shiftRight_eq_div_pow]
  have h2 : n % 2 ^ 64 % 64 = n := by
    rw [Nat.mod_eq_of_lt (Nat.lt_of_lt_of_le h (by decide))]; exact Nat.mod_eq_of_lt h
  rw [h2]
theorem w64_u8 (a : UInt64) : IntKind.u8.wrap (a.toNat : Int) = (a.toUInt8.toNat : Int) := by
  rw [IntKind.wrap_u8, UInt64.toNat_toUInt8]; omega
theorem w8_u64 (b : UInt8) : IntKind.u64.wrap (b.toNat : Int) = (b.toUInt64.toNat : Int) := by
  rw [wu64 ⟨by omega, by have := b.toNat_lt; omega⟩, UInt8.toNat_toUInt64]
theorem wN_u64 (n : Nat) : IntKind.u64.wrap (n : Int) = ((UInt64.ofNat n).toNat : Int) := by
  rw [IntKind.wrap_u64, UInt64.toNat_ofNat', show (2 : Nat) ^ 64 = 18446744073709551616 by decide]; omega
theorem w64_quo (a : UInt64) (n : Nat) (h : n < 64) : (a.toNat : Int).tdiv ((2 ^ n : Nat) : Int) = ((a >>> UInt64.ofNat n).toNat : Int) := by
  rw [← w64_shr a n h, shrI_n _ _ _ (by show n ≤ 64; omega), Int.ofNat_tdiv]
end Go.Aw
