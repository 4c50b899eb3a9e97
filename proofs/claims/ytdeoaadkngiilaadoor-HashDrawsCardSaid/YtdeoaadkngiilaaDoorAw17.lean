/-
  Numbers that fit their kind; cells of bytes.
-/
import Derived.Test.YtdeoaadkngiilaaDoorAw16
set_option linter.unusedVariables false
set_option linter.unusedSimpArgs false
namespace Go.Aw
theorem wi64 {n : Int} (h : -9223372036854775808 ≤ n ∧ n < 9223372036854775808) : IntKind.i64.wrap n = n := by rw [IntKind.wrap_i64]; omega
theorem wu64 {n : Int} (h : 0 ≤ n ∧ n < 18446744073709551616) : IntKind.u64.wrap n = n := by rw [IntKind.wrap_u64]; omega
theorem wu32 {n : Int} (h : 0 ≤ n ∧ n < 4294967296) : IntKind.u32.wrap n = n := by rw [IntKind.wrap_u32]; omega
theorem wu16 {n : Int} (h : 0 ≤ n ∧ n < 65536) : IntKind.u16.wrap n = n := by rw [IntKind.wrap_u16]; omega
theorem wu8 {n : Int} (h : 0 ≤ n ∧ n < 256) : IntKind.u8.wrap n = n := by rw [IntKind.wrap_u8]; omega

/-! ### Cells of bytes -/
theorem bytesC_set (l : List UInt8) (i : Nat) (b : UInt8) : (bytesC l).set i (.int .u8 b.toNat) = bytesC (l.set i b) := by
  simp [bytesC, List.map_set]
theorem bytesC_get (l : List UInt8) (i : Nat) : (bytesC l)[i]? = l[i]?.map fun b => .int .u8 b.toNat := by simp [bytesC]
theorem bytesC_take (l : List UInt8) (i : Nat) : (bytesC l).take i = bytesC (l.take i) := by simp [bytesC]
theorem bytesC_drop (l : List UInt8) (i : Nat) : (bytesC l).drop i = bytesC (l.drop i) := by simp [bytesC]
theorem bytesC_append (l m : List UInt8) : bytesC l ++ bytesC m = bytesC (l ++ m) := by simp [bytesC]
theorem bytesC_nil : bytesC [] = [] := rfl
theorem bytesC_cons (b : UInt8) (l : List UInt8) : Value.int .u8 b.toNat :: bytesC l = bytesC (b :: l) := rfl

/-! ### A list that is turned place by place -/
theorem turn_get {p a : List UInt8} {i : Nat} (hp : p.length = i) (hi : i < a.length) : (p ++ a.drop i)[i]? = some a[i] := by
  subst hp
  rw [List.getElem?_append_right (Nat.le_refl _), Nat.sub_self, List.getElem?_drop, Nat.add_zero, List.getElem?_eq_getElem hi]
theorem turn_set {p a : List UInt8} {i : Nat} (c : UInt8) (hp : p.length = i) (hi : i < a.length) : (p ++ a.drop i).set i c = (p ++ [c]) ++ a.drop (i + 1) := by
  subst hp
  rw [List.set_append_right _ _ (Nat.le_refl _), Nat.sub_self, List.drop_eq_getElem_cons hi, List.set_cons_zero]
  simp
theorem zipWith_take_succ {α β γ : Type} (f : α → β → γ) (a : List α) (b : List β) (i : Nat) (h1 : i < a.length) (h2 : i < b.length) :
    List.zipWith f (a.take (i + 1)) (b.take (i + 1)) = List.zipWith f (a.take i) (b.take i) ++ [f a[i] b[i]] := by
  rw [← List.take_append_getElem h1, ← List.take_append_getElem h2, List.zipWith_append (by simp; omega)]
  rfl
theorem zipWith_take_right {α β γ : Type} (f : α → β → γ) : ∀ (a : List α) (b : List β), List.zipWith f a (b.take a.length) = List.zipWith f a b
  | [], b => by simp
  | x :: a, [] => by simp
  | x :: a, y :: b => by simp [zipWith_take_right f a b]
end Go.Aw
