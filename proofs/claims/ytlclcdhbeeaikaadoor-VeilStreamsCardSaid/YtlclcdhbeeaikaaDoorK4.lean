/-
  Numbers of a digest, decimal numerals, draws; the walk of HashDraws.
-/
import Derived.Test.YtlclcdhbeeaikaaDoorK2
import Derived.Test.YtlclcdhbeeaikaaDoorKL
import Derived.Test.YtlclcdhbeeaikaaDoorAwC
import Derived.Lib.AppendIntMem
import Derived.Lib.ItoaLen
set_option linter.unusedVariables false
set_option linter.unusedSimpArgs false
set_option maxRecDepth 20000
namespace Go.Proofs.YtlclcdhbeeaikaaDoor
open Go Go.Aw Go.Proofs
def step8 (h : UInt64) (b : UInt8) : UInt64 := h * 256 + b.toUInt64
def first8 (s : List UInt8) : UInt64 := (s.take 8).foldl step8 0
theorem first_step (s : List UInt8) (n : Nat) (h : n < s.length) : (s.take (n + 1)).foldl step8 0 = step8 ((s.take n).foldl step8 0) s[n] := by
  rw [List.take_add_one, List.getElem?_eq_getElem h, List.foldl_append]; rfl
theorem or_shl8 (h : UInt64) (b : UInt8) : orI .u64 (shlI .u64 (h.toNat : Int) 8) (b.toNat : Int) = ((step8 h b).toNat : Int) := by
  have e1 : shlI .u64 (h.toNat : Int) 8 = ((h * 256).toNat : Int) := by
    rw [← w64_mul]; rfl
  have hb := b.toNat_lt
  have hx : (h * 256).toNat = 2 ^ 8 * (h.toNat % 2 ^ 56) := by
    rw [UInt64.toNat_mul]; show h.toNat * 256 % 2 ^ 64 = _; omega
  have hor : (h * 256).toNat ||| b.toNat = (h * 256).toNat + b.toNat := by
    rw [hx]; exact (Nat.two_pow_add_eq_or_of_lt hb _).symm
  have hlt : (h * 256).toNat + b.toNat < 2 ^ 64 := by rw [hx]; omega
  rw [e1]
  unfold orI step8
  have e2 : (BitVec.ofInt IntKind.u64.bits ((h * 256).toNat : Int) ||| BitVec.ofInt IntKind.u64.bits (b.toNat : Int)).toNat = (h * 256).toNat ||| b.toNat := by
    rw [BitVec.toNat_or]
    congr 1
    · show (BitVec.ofInt 64 _).toNat = _
      rw [BitVec.ofInt_natCast, BitVec.toNat_ofNat]
      exact Nat.mod_eq_of_lt (h * 256).toNat_lt
    · show (BitVec.ofInt 64 _).toNat = _
      rw [BitVec.ofInt_natCast, BitVec.toNat_ofNat]
      exact Nat.mod_eq_of_lt (by omega)
  rw [e2, hor, UInt64.toNat_add, UInt8.toNat_toUInt64, Nat.mod_eq_of_lt hlt, wu64 ⟨by omega, by omega⟩]
def numR (s : List UInt8) (n : Int) : Value := if s.length < 8 then .tuple ⟨[.int .i64 0, .int .i64 1]⟩ else if n < 1 then .tuple ⟨[.int .i64 0, .int .i64 7]⟩ else .tuple ⟨[.int .i64 (IntKind.i64.wrap (((first8 s).toNat : Int).tmod n)), .int .i64 0]⟩
theorem dec_len : ∀ (u : Nat), (Lib.decDigits u).length ≤ u + 1 := fun u => by
  induction u using Nat.strongRecOn with
  | _ u ih =>
    rw [Lib.decDigits]
    split
    · simp
    · have := ih (u / 10) (by omega)
      rw [List.length_append, List.length_singleton]; omega
theorem dec_big (u : Nat) (h : ¬ u < 10) : Lib.decDigits u = Lib.decDigits (u / 10) ++ [UInt8.ofNat (48 + u % 10)] := by rw [Lib.decDigits, dif_neg h]
theorem dec_small (u : Nat) (h : u < 10) : Lib.decDigits u = [UInt8.ofNat (48 + u % 10)] := by rw [Lib.decDigits, dif_pos h, Nat.mod_eq_of_lt h]
theorem gTab : Tryd.prog.globalNamed "internal/strconv.uint64pow10" = some 0 := by kernel_rfl
def TabH (H : AHeap) : Prop := ∃ e, H[0]? = some (tabO e 0 .u64 Lib.pow10Tab)
theorem TabH.more {H : AHeap} (h : TabH H) (X : AHeap) : TabH (H ++ X) := by
  obtain ⟨e, h⟩ := h
  exact ⟨e, by rw [hgetl (lt_of_get h)]; exact h⟩
theorem Itoa (n : Int) (h0 : -9223372036854775808 ≤ n) (h1 : n ≤ 9223372036854775807) (H : AHeap) (hT : TabH H) : ARet Tryd.prog 20 [.int .i64 n] H (.string (bs (Lib.itoa n))) H := by
  obtain ⟨e, hT⟩ := hT
  refine ARet.ofCallsT Tryd.func20 rfl (by kernel_rfl) rfl rfl H (fun w => Lib.TabIs Tryd.prog w "internal/strconv.uint64pow10" .u64 Lib.pow10Tab) (fun c w hh => tabIs_of_rel hh gTab hT) (fun w hw => ?_)
  refine (Any.strconv_Itoa Tryd.laysItoa n h0 h1 w hw).mono fun e w' ⟨he, k, os, hw'⟩ => ⟨he, ?_⟩
  subst hw'
  exact Lib.below_grow _ w (Nat.le_refl _) k os
def drawR (s : List UInt8) (k n : Int) : Value := if n < 1 ∨ k < 0 then .tuple ⟨[.int .i64 0, .int .i64 7]⟩ else numR (sumL (s ++ 58 :: Lib.itoa k)) n
theorem itoa_len (k : Int) (h0 : 0 ≤ k) (h1 : k ≤ 9223372036854775807) : Lib.itoa k = Lib.decDigits k.toNat := by
  unfold Lib.itoa; rw [if_neg (by omega)]
theorem numR_two (s : List UInt8) (n : Int) : ∃ a b, numR s n = .tuple ⟨[.int .i64 a, .int .i64 b]⟩ := by
  unfold numR; split
  · exact ⟨_, _, rfl⟩
  · split <;> exact ⟨_, _, rfl⟩
theorem drawR_two (s : List UInt8) (k n : Int) : ∃ a b, drawR s k n = .tuple ⟨[.int .i64 a, .int .i64 b]⟩ := by
  unfold drawR; split
  · exact ⟨_, _, rfl⟩
  · exact numR_two _ _
end Go.Proofs.YtlclcdhbeeaikaaDoor
