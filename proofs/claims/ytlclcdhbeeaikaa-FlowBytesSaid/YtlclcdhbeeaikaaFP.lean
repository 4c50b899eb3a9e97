/-
  Numbers in so many bytes, the greatest first: written and read.
-/
import Derived.Test.YtlclcdhbeeaikaaAwC
set_option linter.unusedVariables false
namespace Go.Aw
def numL (n k : Nat) : List UInt8 := (List.range k).map fun j => UInt8.ofNat (n / 256 ^ (k - 1 - j))
def valN (l : List UInt8) : Nat := l.foldl (fun a b => a * 256 + b.toNat) 0
theorem numL_len (n k : Nat) : (numL n k).length = k := by simp [numL]
theorem ofNat_mod (n : Nat) : UInt8.ofNat (n % 256) = UInt8.ofNat n := by
  apply UInt8.toNat.inj; simp
theorem numL_succ (n k : Nat) : numL n (k + 1) = numL (n / 256) k ++ [UInt8.ofNat n] := by
  unfold numL
  rw [List.range_succ, List.map_append]
  congr 1
  · refine List.map_congr_left fun j hj => ?_
    have := List.mem_range.1 hj
    rw [show k + 1 - 1 - j = (k - 1 - j) + 1 by omega, Nat.pow_succ, Nat.mul_comm, ← Nat.div_div_eq_div_mul]
  · simp
theorem valN_snoc (l : List UInt8) (b : UInt8) : valN (l ++ [b]) = valN l * 256 + b.toNat := by unfold valN; rw [List.foldl_append]; rfl
theorem valN_numL : ∀ (k n : Nat), valN (numL n k) = n % 256 ^ k
  | 0, n => by simp [numL, valN, Nat.mod_one]
  | k + 1, n => by
    rw [numL_succ, valN_snoc, valN_numL k]
    have h1 : (UInt8.ofNat n).toNat = n % 256 := by simp
    rw [h1, Nat.pow_succ, Nat.mul_comm (256 ^ k) 256, Nat.mod_mul]
    omega
theorem valN_of {k n : Nat} (h : n < 256 ^ k) : valN (numL n k) = n := by rw [valN_numL, Nat.mod_eq_of_lt h]
theorem valN_lt : ∀ (l : List UInt8), valN l < 256 ^ l.length := fun l => by
  rcases List.eq_nil_or_concat l with rfl | ⟨l', b, rfl⟩
  · simp [valN]
  · have ih := valN_lt l'
    rw [List.concat_eq_append, valN_snoc, List.length_append, List.length_singleton, Nat.pow_succ]
    have := b.toNat_lt
    omega
termination_by l => l.length
decreasing_by simp_all
theorem numL_valN : ∀ (l : List UInt8), numL (valN l) l.length = l := fun l => by
  rcases List.eq_nil_or_concat l with rfl | ⟨l', b, rfl⟩
  · simp [numL]
  · have ih := numL_valN l'
    have hb := b.toNat_lt
    rw [List.concat_eq_append, valN_snoc, List.length_append, List.length_singleton, numL_succ, show (valN l' * 256 + b.toNat) / 256 = valN l' by omega, ih]
    congr 2
    rw [← ofNat_mod, show (valN l' * 256 + b.toNat) % 256 = b.toNat by omega]
    apply UInt8.toNat.inj; simp
termination_by l => l.length
decreasing_by simp_all
end Go.Aw
