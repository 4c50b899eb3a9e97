/-
  The order of texts; keys that ascend.
-/
import Derived.Test.YthcdjconlfdidaaDoorDO
set_option linter.unusedVariables false
set_option linter.unusedSimpArgs false
namespace Go.Proofs.YthcdjconlfdidaaDoor
open Go Go.Aw Go.Proofs
theorem lt_irr : ∀ (x : Tx), Op.bytesLess x x = false
  | [] => rfl
  | a :: x => by simp [Op.bytesLess, lt_irr x]
theorem lt_asym : ∀ (x y : Tx), Op.bytesLess x y = true → Op.bytesLess y x = false
  | _, [], h => by simp [Op.bytesLess] at h
  | [], _ :: _, h => rfl
  | a :: x, b :: y, h => by
    simp only [Op.bytesLess, Bool.or_eq_true, decide_eq_true_eq, Bool.and_eq_true, beq_iff_eq] at h
    simp only [Op.bytesLess, Bool.or_eq_false_iff, decide_eq_false_iff_not, Bool.and_eq_false_iff, beq_eq_false_iff_ne]
    rcases h with h | ⟨rfl, h⟩
    · exact ⟨fun h2 => absurd (UInt8.lt_trans h h2) (UInt8.lt_irrefl _), .inl fun e => by rw [e] at h; exact UInt8.lt_irrefl _ h⟩
    · exact ⟨UInt8.lt_irrefl _, .inr (lt_asym x y h)⟩
theorem lt_tri : ∀ (x y : Tx), Op.bytesLess x y = false → Op.bytesLess y x = false → x = y
  | [], [], _, _ => rfl
  | [], _ :: _, h, _ => by simp [Op.bytesLess] at h
  | _ :: _, [], _, h => by simp [Op.bytesLess] at h
  | a :: x, b :: y, h, h2 => by
    simp only [Op.bytesLess, Bool.or_eq_false_iff, decide_eq_false_iff_not, Bool.and_eq_false_iff, beq_eq_false_iff_ne] at h h2
    have e : a = b := UInt8.le_antisymm (UInt8.not_lt.1 h2.1) (UInt8.not_lt.1 h.1)
    subst e
    have h3 : Op.bytesLess x y = false := h.2.resolve_left (fun hn => hn rfl)
    have h4 : Op.bytesLess y x = false := h2.2.resolve_left (fun hn => hn rfl)
    rw [lt_tri x y h3 h4]
theorem ascF_iff : ∀ (l : List Tx) (o : Option Tx), BV.ascF o l = true ↔ (∀ b x, o = some b → l[0]? = some x → Op.bytesLess b x = true) ∧ ∀ i x y, l[i]? = some x → l[i + 1]? = some y → Op.bytesLess x y = true
  | [], o => by simp [BV.ascF]
  | k :: ks, o => by
    unfold BV.ascF
    rw [Bool.and_eq_true, ascF_iff ks (some k)]
    constructor
    · rintro ⟨h1, h2, h3⟩
      refine ⟨fun b x hb hx => ?_, fun i x y hx hy => ?_⟩
      · subst hb
        cases hx
        exact h1
      · cases i with
        | zero => cases hx; exact h2 _ _ rfl hy
        | succ i => exact h3 i x y hx hy
    · rintro ⟨h1, h2⟩
      refine ⟨?_, fun b x hb hx => ?_, fun i x y hx hy => h2 (i + 1) x y hx hy⟩
      · cases o with
        | none => rfl
        | some b => exact h1 b k rfl rfl
      · cases hb
        exact h2 0 _ _ rfl hx
theorem srt_iff (l : List Tx) : ∀ N, N < l.length ∨ N = 0 → (srt l N = true ↔ ∀ i x y, i < N → l[i]? = some x → l[i + 1]? = some y → Op.bytesLess y x = false)
  | 0, _ => by simp [srt]
  | N + 1, h => by
    have hN : N + 1 < l.length := h.resolve_right (by omega)
    have hN0 : N < l.length := by omega
    unfold srt
    rw [List.getD_eq_getElem?_getD, List.getD_eq_getElem?_getD, List.getElem?_eq_getElem hN, List.getElem?_eq_getElem hN0]
    dsimp only [Option.getD_some]
    have ih := srt_iff l N (.inl hN0)
    constructor
    · intro hh i x y hi hx hy
      split at hh
      · cases hh
      · rename_i hb
        rcases Nat.lt_or_ge i N with h' | h'
        · exact ih.1 hh i x y h' hx hy
        · obtain rfl : i = N := by omega
          rw [List.getElem?_eq_getElem hN0] at hx
          rw [List.getElem?_eq_getElem hN] at hy
          cases hx; cases hy
          simpa using hb
    · intro hh
      rw [if_neg (by rw [hh N _ _ (by omega) (List.getElem?_eq_getElem hN0) (List.getElem?_eq_getElem hN)]; decide)]
      exact ih.2 fun i x y hi hx hy => hh i x y (by omega) hx hy
theorem cptN_le (l : List Tx) : ∀ n, (cptN l n).length ≤ n
  | 0 => by simp [cptN]
  | n + 1 => by
    have := cptN_le l n
    unfold cptN
    rw [List.length_append]
    split
    · simp; omega
    · have : (l[n]?.toList).length ≤ 1 := by cases l[n]? <;> simp
      omega
theorem cptN_iff (l : List Tx) : ∀ n, n ≤ l.length → ((cptN l n).length = n ↔ ∀ i x y, i + 1 < n → l[i]? = some x → l[i + 1]? = some y → x ≠ y)
  | 0, _ => by simp [cptN]
  | n + 1, h => by
    have ih := cptN_iff l n (by omega)
    have hle := cptN_le l n
    have hn : n < l.length := by omega
    by_cases hc : 0 < n ∧ l[n]? = l[n - 1]?
    · have e : cptN l (n + 1) = cptN l n := by conv => lhs; unfold cptN
                                               rw [if_pos hc, List.append_nil]
      rw [e]
      constructor
      · intro hh; omega
      · intro hh
        have := hh (n - 1) _ _ (by omega) (List.getElem?_eq_getElem (by omega)) (by rw [show n - 1 + 1 = n by omega]; exact List.getElem?_eq_getElem hn)
        have h2 := hc.2
        rw [List.getElem?_eq_getElem hn, List.getElem?_eq_getElem (by omega : n - 1 < l.length)] at h2
        exact absurd (Option.some.inj h2).symm this
    · have e : cptN l (n + 1) = cptN l n ++ [l[n]] := by
        conv => lhs; unfold cptN
        rw [if_neg hc, List.getElem?_eq_getElem hn]; rfl
      rw [e, List.length_append, List.length_singleton]
      constructor
      · intro hh i x y hi hx hy hxy
        rcases Nat.lt_or_ge (i + 1) n with h' | h'
        · exact ih.1 (by omega) i x y h' hx hy hxy
        · obtain rfl : n = i + 1 := by omega
          apply hc
          refine ⟨by omega, ?_⟩
          rw [hy, show i + 1 - 1 = i by omega, hx, hxy]
      · intro hh
        have := ih.2 fun i x y hi hx hy => hh i x y (by omega) hx hy
        omega
/-- Sorted and without equal neighbours: ascending. -/
theorem asc_iff (l : List Tx) : BV.asc l = (srt l (l.length - 1) && ((cptN l l.length).length == l.length)) := by
  rw [Bool.eq_iff_iff, Bool.and_eq_true, beq_iff_eq, cptN_iff l l.length (Nat.le_refl _), srt_iff l _ (by omega)]
  unfold BV.asc
  rw [ascF_iff]
  constructor
  · rintro ⟨-, h⟩
    refine ⟨fun i x y hi hx hy => lt_asym _ _ (h i x y hx hy), fun i x y hi hx hy e => ?_⟩
    have := h i x y hx hy
    rw [e, lt_irr] at this
    cases this
  · rintro ⟨h1, h2⟩
    refine ⟨fun b x hb => (by cases hb), fun i x y hx hy => ?_⟩
    have hi := (List.getElem?_eq_some_iff.1 hy).1
    cases hb : Op.bytesLess x y with
    | true => rfl
    | false => exact absurd (lt_tri x y hb (h1 i x y (by omega) hx hy)) (h2 i x y hi hx hy)
end Go.Proofs.YthcdjconlfdidaaDoor

