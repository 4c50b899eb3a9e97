/-
  The bytes of a key's stream; the reference's Stream.
-/
import Derived.Test.YtlclcdhbeeaikaaDoorK6
set_option linter.unusedVariables false
set_option linter.unusedSimpArgs false
set_option maxRecDepth 20000
namespace Go.Proofs.YtlclcdhbeeaikaaDoor
open Go Go.Aw Go.Proofs
def dig (key : List UInt8) (k : Nat) : List UInt8 := sumL (key ++ 47 :: Lib.itoa (k : Int))
def dgs (key : List UInt8) (k0 n : Nat) : List UInt8 := (List.range n).flatMap fun j => dig key (k0 + j)
def sbyte (key : List UInt8) (pos : Nat) : UInt8 := (dig key (pos / 32)).getD (pos % 32) 0
def strm (key : List UInt8) (f c : Nat) : List UInt8 := (List.range c).map fun j => sbyte key (f + j)
theorem dig_len (key : List UInt8) (k : Nat) : (dig key k).length = 32 := sumL_len _
theorem dgs_succ (key : List UInt8) (k0 n : Nat) : dgs key k0 (n + 1) = dgs key k0 n ++ dig key (k0 + n) := by
  unfold dgs; rw [List.range_succ, List.flatMap_append]; simp
theorem dgs_len (key : List UInt8) (k0 : Nat) : ∀ n, (dgs key k0 n).length = 32 * n
  | 0 => rfl
  | n + 1 => by rw [dgs_succ, List.length_append, dgs_len key k0 n, dig_len]; omega
theorem dgs_get (key : List UInt8) (k0 : Nat) : ∀ n j, j < 32 * n → (dgs key k0 n)[j]? = some (sbyte key (32 * k0 + j))
  | 0, j, h => by omega
  | n + 1, j, h => by
    rw [dgs_succ]
    by_cases hj : j < 32 * n
    · rw [List.getElem?_append_left (by rw [dgs_len]; exact hj)]; exact dgs_get key k0 n j hj
    · rw [List.getElem?_append_right (by rw [dgs_len]; omega), dgs_len]
      unfold sbyte
      rw [show (32 * k0 + j) / 32 = k0 + n by omega, show (32 * k0 + j) % 32 = j - 32 * n by omega, List.getD_eq_getElem?_getD, List.getElem?_eq_getElem (by rw [dig_len]; omega), Option.getD_some]
theorem dgs_cut (key : List UInt8) (f c n : Nat) (h : f % 32 + c ≤ 32 * n) : ((dgs key (f / 32) n).take (f % 32 + c)).drop (f % 32) = strm key f c := by
  refine List.ext_getElem? fun i => ?_
  unfold strm
  by_cases hi : i < c
  · rw [List.getElem?_drop, List.getElem?_take_of_lt (by omega), dgs_get key _ n _ (by omega), List.getElem?_map, List.getElem?_range hi]
    simp only [Option.map_some]
    rw [show 32 * (f / 32) + (f % 32 + i) = f + i by omega]
  · rw [List.getElem?_eq_none (by simp [dgs_len]; omega), List.getElem?_eq_none (by simp; omega)]
theorem strm_len (key : List UInt8) (f c : Nat) : (strm key f c).length = c := by simp [strm]
theorem strm_add (key : List UInt8) (f a b : Nat) : strm key f a ++ strm key (f + a) b = strm key f (a + b) := by
  refine List.ext_getElem? fun i => ?_
  unfold strm
  by_cases h1 : i < a
  · rw [List.getElem?_append_left (by simpa using h1), List.getElem?_map, List.getElem?_map, List.getElem?_range h1, List.getElem?_range (by omega)]
  · rw [List.getElem?_append_right (by simp; omega), List.length_map, List.length_range, List.getElem?_map, List.getElem?_map]
    by_cases h2 : i < a + b
    · rw [List.getElem?_range (by omega), List.getElem?_range h2]
      simp only [Option.map_some]
      rw [show f + a + (i - a) = f + i by omega]
    · rw [List.getElem?_eq_none (by simp; omega), List.getElem?_eq_none (by simp; omega), Option.map_none, Option.map_none]
def okS (f c : Int) : Prop := 0 ≤ f ∧ 0 ≤ c ∧ f ≤ 65536 ∧ c ≤ 65536 - f
instance (f c : Int) : Decidable (okS f c) := by unfold okS; exact inferInstance
def strR (key : List UInt8) (f c : Int) : Value := if okS f c then .tuple ⟨[.string (bs (strm key f.toNat c.toNat)), .int .i64 0]⟩ else .tuple ⟨[.string (bs []), .int .i64 7]⟩
end Go.Proofs.YtlclcdhbeeaikaaDoor
