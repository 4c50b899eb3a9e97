/-
  Plain law: comparing texts, numbers, addresses and nodes is an order.
-/
import Derived.Lib.Bytealg
import Derived.Sort.Walk0
set_option linter.unusedVariables false
set_option linter.unusedSimpArgs false
namespace Go.Aw
open Go.Lib
/-- A comparing function. -/
structure Cmps {α : Type} (f : α → α → Int) : Prop where
  neg : ∀ a b, f b a = - f a b
  tr : ∀ a b c, f a b ≤ 0 → f b c ≤ 0 → f a c ≤ 0
theorem Cmps.self {α : Type} {f : α → α → Int} (h : Cmps f) (a : α) : f a a = 0 := by have := h.neg a a; omega
def lexC {α : Type} (f g : α → α → Int) (a b : α) : Int := if f a b ≠ 0 then f a b else g a b
theorem Cmps.lt_le {α : Type} {f : α → α → Int} (h : Cmps f) {a b c : α} (h1 : f a b < 0) (h2 : f b c ≤ 0) : f a c < 0 := by
  have := h.tr a b c (by omega) h2
  rcases (show f a c < 0 ∨ f a c = 0 by omega) with h3 | h3
  · exact h3
  · have h4 := h.neg a c
    have h5 := h.tr b c a h2 (by omega)
    have h6 := h.neg a b
    omega
theorem Cmps.le_lt {α : Type} {f : α → α → Int} (h : Cmps f) {a b c : α} (h1 : f a b ≤ 0) (h2 : f b c < 0) : f a c < 0 := by
  have := h.tr a b c h1 (by omega)
  rcases (show f a c < 0 ∨ f a c = 0 by omega) with h3 | h3
  · exact h3
  · have h4 := h.neg a c
    have h5 := h.tr c a b (by omega) h1
    have h6 := h.neg b c
    omega
theorem Cmps.lex {α : Type} {f g : α → α → Int} (hf : Cmps f) (hg : Cmps g) : Cmps (lexC f g) := by
  refine ⟨fun a b => ?_, fun a b c h1 h2 => ?_⟩
  · unfold lexC
    have e1 := hf.neg a b
    have e2 := hg.neg a b
    split <;> split <;> omega
  · unfold lexC at *
    have e1 := hf.tr a b c
    split at h1
    · have := hf.lt_le (a := a) (b := b) (c := c) (by omega) (by split at h2 <;> omega)
      rw [if_pos (by omega)]; omega
    · split at h2
      · have := hf.le_lt (a := a) (b := b) (c := c) (by omega) (by omega)
        rw [if_pos (by omega)]; omega
      · have := e1 (by omega) (by omega)
        split
        · omega
        · exact hg.tr a b c h1 h2
theorem Cmps.pull {α β : Type} {f : α → α → Int} (h : Cmps f) (k : β → α) : Cmps (fun x y => f (k x) (k y)) := ⟨fun a b => h.neg _ _, fun a b c => h.tr _ _ _⟩
def cmpI (a b : Int) : Int := if a < b then -1 else if b < a then 1 else 0
theorem cmpI_ok : Cmps cmpI := by
  refine ⟨fun a b => ?_, fun a b c => ?_⟩
  · unfold cmpI; (repeat' split) <;> omega
  · unfold cmpI; (repeat' split) <;> omega
theorem cmpI_zero {a b : Int} : cmpI a b = 0 ↔ a = b := by unfold cmpI; (repeat' split) <;> omega
theorem cmpS_neg : ∀ (a b : List UInt8), compareBytes b a = - compareBytes a b
  | [], [] => rfl
  | [], _ :: _ => rfl
  | _ :: _, [] => rfl
  | a :: x, b :: y => by
    unfold compareBytes
    have h := cmpS_neg x y
    by_cases h1 : a < b
    · have h2 : ¬ b < a := fun h2 => by
        have := UInt8.lt_iff_toNat_lt.1 h1; have := UInt8.lt_iff_toNat_lt.1 h2; omega
      rw [if_pos h1, if_neg h2, if_pos h1]; rfl
    · by_cases h2 : b < a
      · rw [if_pos h2, if_neg h1, if_pos h2]
      · rw [if_neg h1, if_neg h2, if_neg h2, if_neg h1, h]
theorem cmpS_cons (a b : UInt8) (x y : List UInt8) : compareBytes (a :: x) (b :: y) = if cmpI a.toNat b.toNat ≠ 0 then cmpI a.toNat b.toNat else compareBytes x y := by
  rw [compareBytes]
  unfold cmpI
  simp only [UInt8.lt_iff_toNat_lt]
  (repeat' split) <;> first | rfl | omega
theorem cmpS_tr : ∀ (a b c : List UInt8), compareBytes a b ≤ 0 → compareBytes b c ≤ 0 → compareBytes a c ≤ 0
  | [], b, [], _, _ => by decide
  | [], b, _ :: _, _, _ => by show (-1 : Int) ≤ 0; decide
  | _ :: _, [], _, h, _ => by exact absurd h (by show ¬ ((1 : Int) ≤ 0); decide)
  | _ :: _, _ :: _, [], _, h => by exact absurd h (by show ¬ ((1 : Int) ≤ 0); decide)
  | a :: x, b :: y, c :: z, h1, h2 => by
    rw [cmpS_cons] at h1 h2 ⊢
    have ih := cmpS_tr x y z
    have e1 := cmpI_ok.tr a.toNat b.toNat c.toNat
    split at h1
    · have := cmpI_ok.lt_le (a := (a.toNat : Int)) (b := b.toNat) (c := c.toNat) (by omega) (by split at h2 <;> omega)
      rw [if_pos (by omega)]; omega
    · split at h2
      · have := cmpI_ok.le_lt (a := (a.toNat : Int)) (b := b.toNat) (c := c.toNat) (by omega) (by omega)
        rw [if_pos (by omega)]; omega
      · have := e1 (by omega) (by omega)
        split
        · omega
        · exact ih h1 h2
theorem cmpS_ok : Cmps compareBytes := ⟨cmpS_neg, cmpS_tr⟩
theorem cmpS_zero : ∀ {a b : List UInt8}, compareBytes a b = 0 ↔ a = b
  | [], [] => by simp [compareBytes]
  | [], _ :: _ => by simp [compareBytes]
  | _ :: _, [] => by simp [compareBytes]
  | a :: x, b :: y => by
    rw [cmpS_cons]
    have := cmpI_zero (a := a.toNat) (b := b.toNat)
    constructor
    · intro h
      split at h
      · exact absurd h (by assumption)
      · rename_i hz
        have h1 : a = b := UInt8.toNat_inj.1 (by have := cmpI_zero.1 (Decidable.not_not.1 hz); omega)
        rw [h1, cmpS_zero.1 h]
    · intro h
      injection h with h1 h2
      subst h1; subst h2
      rw [if_neg (by rw [cmpI_ok.self]; simp)]
      exact cmpS_zero.2 rfl
theorem cmpS_less : ∀ {a b : List UInt8}, compareBytes a b = if Op.bytesLess a b then -1 else if a = b then 0 else 1
  | [], [] => by simp [compareBytes, Op.bytesLess]
  | [], _ :: _ => by simp [compareBytes, Op.bytesLess]
  | _ :: _, [] => by simp [compareBytes, Op.bytesLess]
  | a :: x, b :: y => by
    have ih := cmpS_less (a := x) (b := y)
    rw [Go.Proofs.bytesLess_eq] at ih ⊢
    rw [compareBytes]
    by_cases h1 : a < b
    · have : a :: x < b :: y := List.Lex.rel h1
      rw [if_pos h1, if_pos (by simpa using this)]
    · by_cases h2 : b < a
      · have h3 : ¬ a :: x < b :: y := fun h => by
          cases h with
          | rel h => exact h1 h
          | cons h => have := UInt8.lt_iff_toNat_lt.1 h2; omega
        have h4 : a :: x ≠ b :: y := fun h => by injection h with h _; subst h; have := UInt8.lt_iff_toNat_lt.1 h2; omega
        rw [if_neg h1, if_pos h2, if_neg (by simpa using h3), if_neg h4]
      · have hab : a = b := by
          apply UInt8.toNat_inj.1
          have k1 : ¬ a.toNat < b.toNat := fun h => h1 (UInt8.lt_iff_toNat_lt.2 h)
          have k2 : ¬ b.toNat < a.toNat := fun h => h2 (UInt8.lt_iff_toNat_lt.2 h)
          omega
        subst hab
        rw [if_neg h1, if_neg h2, ih]
        have e1 : (a :: x < a :: y) ↔ x < y := by
          constructor
          · intro h
            cases h with
            | rel h => exact absurd h h1
            | cons h => exact h
          · intro h; exact List.Lex.cons h
        simp only [decide_eq_true_eq, e1, List.cons.injEq, true_and]
/-- The first that is not zero. -/
def orL : List Int → Int
  | [] => 0
  | a :: l => if a ≠ 0 then a else orL l
theorem orL2 (a b : Int) : orL [a, b] = if a ≠ 0 then a else b := by simp only [orL]; (repeat' split) <;> omega
end Go.Aw

