/-
  Fields of bits, plain.
-/
import Derived.Test.YtbdlomkogpnkpaaDoorNp
import Derived.Test.YtbdlomkogpnkpaaDoorAwB
set_option linter.unusedVariables false
namespace Go.Aw
def lon (n : Nat) : Nat := (n + 7) / 8
def validB (n : Nat) (s : List UInt8) : Prop := s.length = lon n ∧ ∀ i, n ≤ i → bitAt s i = false
def truths (n : Nat) (s : List UInt8) : List Bool := (List.range n).map (bitAt s)
theorem truths_len (n : Nat) (s : List UInt8) : (truths n s).length = n := by simp [truths]
theorem bitAt_out (s : List UInt8) (i : Nat) (h : 8 * s.length ≤ i) : bitAt s i = false := by
  unfold bitAt
  rw [List.getD_eq_getElem?_getD, List.getElem?_eq_none (by omega)]; simp
theorem valid_ext {n : Nat} {s t : List UInt8} (hs : validB n s) (ht : validB n t) (h : ∀ i, i < n → bitAt s i = bitAt t i) : s = t := by
  refine bits_ext s t (lon n) hs.1 ht.1 fun m _ => ?_
  rcases Nat.lt_or_ge m n with h1 | h1
  · exact h m h1
  · rw [hs.2 m h1, ht.2 m h1]
/-- Truths, and the first of them. -/
def preN (l : List Bool) (j : Nat) : Nat → Nat
  | 0 => 0
  | t + 1 => 2 * preN l j t + (if l.getD (8 * j + t) false = true then 1 else 0)
theorem preN_lt (l : List Bool) (j t : Nat) : preN l j t < 2 ^ t := by
  induction t with
  | zero => simp [preN]
  | succ t ih => simp only [preN, Nat.pow_succ]; split <;> omega
theorem preN_bit (l : List Bool) (j : Nat) : ∀ t k, k < t → (preN l j t).testBit (t - 1 - k) = l.getD (8 * j + k) false
  | 0, k, h => by omega
  | t + 1, k, h => by
    simp only [preN]
    by_cases hk : k = t
    · subst hk
      rw [show k + 1 - 1 - k = 0 by omega, Nat.testBit_zero]
      cases l.getD (8 * j + k) false <;> simp <;> omega
    · rw [show t + 1 - 1 - k = (t - 1 - k) + 1 by omega, Nat.testBit_succ]
      rw [show (2 * preN l j t + if l.getD (8 * j + t) false = true then 1 else 0) / 2 = preN l j t by split <;> omega]
      exact preN_bit l j t k (by omega)
def fieldL (l : List Bool) : List UInt8 := (List.range (lon l.length)).map fun j => UInt8.ofNat (preN l j 8)
theorem fieldL_len (l : List Bool) : (fieldL l).length = lon l.length := by simp [fieldL]
theorem bitAt_field (l : List Bool) (i : Nat) : bitAt (fieldL l) i = l.getD i false := by
  rcases Nat.lt_or_ge i (8 * lon l.length) with h | h
  · unfold bitAt fieldL
    rw [List.getD_eq_getElem?_getD, List.getElem?_map, List.getElem?_range (by omega)]
    simp only [Option.map_some, Option.getD_some]
    rw [toNat_ofNat8 (preN_lt l (i / 8) 8)]
    have := preN_bit l (i / 8) 8 (i % 8) (by omega)
    rw [show 8 * (i / 8) + i % 8 = i by omega] at this
    exact this
  · rw [bitAt_out _ _ (by rw [fieldL_len]; exact h)]
    rw [List.getD_eq_getElem?_getD, List.getElem?_eq_none (by unfold lon at h; omega)]; rfl
theorem field_valid (l : List Bool) : validB l.length (fieldL l) :=
  ⟨fieldL_len l, fun i h => by rw [bitAt_field, List.getD_eq_getElem?_getD, List.getElem?_eq_none h]; rfl⟩
theorem truths_get (n : Nat) (s : List UInt8) (i : Nat) (h : i < n) : (truths n s).getD i false = bitAt s i := by
  unfold truths
  rw [List.getD_eq_getElem?_getD, List.getElem?_map, List.getElem?_range h]; rfl
theorem truths_get' (n : Nat) (s : List UInt8) (i : Nat) (h : i < n) : (truths n s)[i]? = some (bitAt s i) := by
  unfold truths
  rw [List.getElem?_map, List.getElem?_range h]; rfl
theorem field_truths {n : Nat} {s : List UInt8} (h : validB n s) : fieldL (truths n s) = s := by
  have hf := field_valid (truths n s)
  rw [truths_len] at hf
  refine valid_ext hf h fun i hi => ?_
  rw [bitAt_field, truths_get _ _ _ hi]
theorem truths_field {n : Nat} {l : List Bool} (h : l.length = n) : truths n (fieldL l) = l := by
  apply List.ext_getElem (by rw [truths_len, h])
  intro i h1 h2
  have := truths_get n (fieldL l) i (by rw [truths_len] at h1; exact h1)
  rw [bitAt_field, List.getD_eq_getElem?_getD, List.getD_eq_getElem?_getD, List.getElem?_eq_getElem h1, List.getElem?_eq_getElem h2] at this
  exact this
theorem field_of {n : Nat} {s : List UInt8} {l : List Bool} (h : validB n s) (hl : l.length = n) (e : ∀ i, i < n → bitAt s i = l.getD i false) : s = fieldL l := by
  have hf := field_valid l
  rw [hl] at hf
  exact valid_ext h hf fun i hi => by rw [bitAt_field, e i hi]
/-- A bit is set, or cleared. -/
def setB (s : List UInt8) (i : Nat) (b : Bool) : List UInt8 := s.set (i / 8) (UInt8.ofNat (if b = true then (s.getD (i / 8) 0).toNat ||| 2 ^ (7 - i % 8) else (s.getD (i / 8) 0).toNat &&& (255 - 2 ^ (7 - i % 8))))
theorem setB_len (s : List UInt8) (i : Nat) (b : Bool) : (setB s i b).length = s.length := by simp [setB]
theorem mask_bit (k j : Nat) (hk : k < 8) (hj : j < 8) : (255 - 2 ^ k).testBit j = decide (j ≠ k) := by
  have h : ∀ k, k < 8 → ∀ j, j < 8 → (255 - 2 ^ k).testBit j = decide (j ≠ k) := by decide
  exact h k hk j hj
theorem bitAt_setB (s : List UInt8) (i : Nat) (b : Bool) (h : i / 8 < s.length) (m : Nat) : bitAt (setB s i b) m = if m = i then b else bitAt s m := by
  unfold setB
  rw [bitAt_set _ _ _ h]
  have hp : 2 ^ (7 - i % 8) < 256 := Nat.pow_lt_pow_right (n := 8) (by omega) (by omega)
  have h256 : (s.getD (i / 8) 0).toNat ||| 2 ^ (7 - i % 8) < 256 := Nat.or_lt_two_pow (n := 8) (UInt8.toNat_lt _) hp
  have h257 : (s.getD (i / 8) 0).toNat &&& (255 - 2 ^ (7 - i % 8)) < 256 := Nat.lt_of_le_of_lt Nat.and_le_left (UInt8.toNat_lt _)
  by_cases hm : m / 8 = i / 8
  · rw [if_pos hm]
    cases b
    · simp only [Bool.false_eq_true, if_false]
      rw [toNat_ofNat8 h257, Nat.testBit_and, mask_bit _ _ (by omega) (by omega)]
      by_cases hmi : m = i
      · subst hmi; simp
      · rw [if_neg hmi]
        have : 7 - m % 8 ≠ 7 - i % 8 := by omega
        simp only [ne_eq, this, not_false_eq_true, decide_true, Bool.and_true]
        unfold bitAt; rw [hm]
    · simp only [if_true]
      rw [toNat_ofNat8 h256, Nat.testBit_or, Nat.testBit_two_pow]
      by_cases hmi : m = i
      · subst hmi; simp
      · rw [if_neg hmi]
        have : ¬ 7 - i % 8 = 7 - m % 8 := by omega
        simp only [this, decide_false, Bool.or_false]
        unfold bitAt; rw [hm]
  · rw [if_neg hm, if_neg (fun e => hm (by rw [e]))]
theorem setB_valid {n : Nat} {s : List UInt8} (h : validB n s) {i : Nat} (hi : i < n) (b : Bool) : validB n (setB s i b) := by
  have hl := h.1
  unfold lon at hl
  refine ⟨by rw [setB_len]; exact h.1, fun m hm => ?_⟩
  rw [bitAt_setB _ _ _ (by omega), if_neg (by omega)]; exact h.2 m hm
theorem truths_setB {n : Nat} {s : List UInt8} (h : validB n s) {i : Nat} (hi : i < n) (b : Bool) : truths n (setB s i b) = (truths n s).set i b := by
  have hl := h.1
  unfold lon at hl
  apply List.ext_getElem?
  intro m
  by_cases hm : m < n
  · rw [truths_get' _ _ _ hm, bitAt_setB _ _ _ (by omega)]
    by_cases e : m = i
    · subst e; rw [if_pos rfl, List.getElem?_set_self (by rw [truths_len]; exact hm)]
    · rw [if_neg e, List.getElem?_set_ne (Ne.symm e), truths_get' _ _ _ hm]
  · rw [List.getElem?_eq_none (by rw [truths_len]; omega), List.getElem?_eq_none (by rw [List.length_set, truths_len]; omega)]
theorem setB_self {n : Nat} {s : List UInt8} (h : validB n s) {i : Nat} (hi : i < n) : setB s i (bitAt s i) = s := by
  have hl := h.1
  unfold lon at hl
  refine valid_ext (setB_valid h hi _) h fun m hm => ?_
  rw [bitAt_setB _ _ _ (by omega)]
  split
  · rename_i e; rw [e]
  · rfl
theorem setB_setB {n : Nat} {s : List UInt8} (h : validB n s) {i : Nat} (hi : i < n) (a b : Bool) : setB (setB s i a) i b = setB s i b := by
  have hl := h.1
  unfold lon at hl
  refine valid_ext (setB_valid (setB_valid h hi _) hi _) (setB_valid h hi _) fun m hm => ?_
  rw [bitAt_setB _ _ _ (by rw [setB_len]; omega), bitAt_setB _ _ _ (by omega), bitAt_setB _ _ _ (by omega)]
  split <;> rfl
def zerosB (n : Nat) : List UInt8 := List.replicate (lon n) 0
theorem zerosB_valid (n : Nat) : validB n (zerosB n) := ⟨by simp [zerosB], fun i _ => bitAt_zeros _ _⟩
/-- The bits that are set. -/
def listB (n : Nat) (s : List UInt8) : List Nat := (List.range n).filter (bitAt s)
end Go.Aw
namespace Go.Aw
def okN (n : Int) : Prop := 0 ≤ n ∧ n ≤ 4096
instance (n : Int) : Decidable (okN n) := by unfold okN; infer_instance
def badAt (n : Nat) (s : List UInt8) : Option Nat := (List.range' n (8 * lon n - n)).find? (bitAt s)
theorem badAt_some {n i : Nat} {s : List UInt8} (h1 : n ≤ i) (h2 : i < 8 * lon n) (h3 : ∀ j, n ≤ j → j < i → bitAt s j = false) (h4 : bitAt s i = true) : badAt n s = some i := by
  unfold badAt
  rw [List.find?_range'_eq_some]
  refine ⟨h4, ?_, fun j a b => by rw [h3 j a b]; rfl⟩
  simp; omega
theorem badAt_none {n : Nat} {s : List UInt8} (h3 : ∀ j, n ≤ j → j < 8 * lon n → bitAt s j = false) : badAt n s = none := by
  unfold badAt
  rw [List.find?_eq_none]
  intro x hx
  have := List.mem_range'.1 hx
  obtain ⟨k, a, b⟩ := this
  rw [h3 x (by omega) (by omega)]; simp
theorem lon_le (n : Nat) : n ≤ 8 * lon n ∧ 8 * lon n < n + 8 := by unfold lon; omega
theorem badAt_valid {n : Nat} {s : List UInt8} (hl : s.length = lon n) : badAt n s = none ↔ validB n s := by
  constructor
  · intro h
    refine ⟨hl, fun i hi => ?_⟩
    rcases Nat.lt_or_ge i (8 * lon n) with h1 | h1
    · unfold badAt at h
      rw [List.find?_eq_none] at h
      have := h i (by rw [List.mem_range']; exact ⟨i - n, by omega, by omega⟩)
      simpa using this
    · exact bitAt_out _ _ (by rw [hl]; exact h1)
  · intro h
    exact badAt_none fun j a b => h.2 j a
def wrongR (n : Int) (s : List UInt8) : Int × Int :=
  if okN n then (if s.length = lon n.toNat then (match badAt n.toNat s with | some i => ((i : Nat), 12) | none => (-1, 0)) else ((min s.length (lon n.toNat) : Nat), 11)) else (0, 7)
theorem wrongR_ok (n : Nat) (s : List UInt8) (h : n ≤ 4096) : (wrongR n s).2 = 0 ↔ validB n s := by
  unfold wrongR
  rw [if_pos ⟨by omega, by omega⟩, Int.toNat_natCast]
  by_cases hl : s.length = lon n
  · rw [if_pos hl, ← badAt_valid hl]
    cases badAt n s <;> simp
  · rw [if_neg hl]
    simp
    exact fun h => hl h.1
theorem wrongR_valid {n : Nat} {s : List UInt8} (h : n ≤ 4096) (hv : validB n s) : wrongR n s = (-1, 0) := by
  unfold wrongR
  rw [if_pos ⟨by omega, by omega⟩, Int.toNat_natCast, if_pos hv.1, (badAt_valid hv.1).2 hv]
theorem wrongR_range {n : Int} {s : List UInt8} (h : ¬ okN n) : wrongR n s = (0, 7) := by unfold wrongR; rw [if_neg h]
end Go.Aw
namespace Go.Aw
def boolsC (l : List Bool) : List Value := l.map .bool
theorem boolsC_length (l : List Bool) : (boolsC l).length = l.length := by simp [boolsC]
theorem boolsC_scalar (l : List Bool) : (boolsC l).all scalar = true := by simp [boolsC, scalar]
theorem boolsC_snoc (l : List Bool) (b : Bool) : boolsC l ++ [.bool b] = boolsC (l ++ [b]) := by simp [boolsC]
theorem boolsC_ne {l : List Bool} (h : 0 < l.length) : boolsC l ≠ [] := List.ne_nil_of_length_pos (by rw [boolsC_length]; exact h)
theorem boolsC_get (l : List Bool) (i : Nat) : (boolsC l)[i]? = l[i]?.map .bool := by simp [boolsC]
theorem boolsC_set (l : List Bool) (i : Nat) (b : Bool) : (boolsC l).set i (.bool b) = boolsC (l.set i b) := by simp [boolsC, List.map_set]
theorem boolsC_falses (n : Nat) : List.replicate n (Value.bool false) = boolsC (List.replicate n false) := by simp [boolsC]
theorem truths_succ (s : List UInt8) (k : Nat) : truths k s ++ [bitAt s k] = truths (k + 1) s := by simp [truths, List.range_succ]
def natsC (l : List Nat) : List Value := l.map fun n => .int .i64 (n : Nat)
theorem natsC_length (l : List Nat) : (natsC l).length = l.length := by simp [natsC]
theorem natsC_scalar (l : List Nat) : (natsC l).all scalar = true := by simp [natsC, scalar]
theorem natsC_snoc (l : List Nat) (b : Nat) : natsC l ++ [.int .i64 (b : Nat)] = natsC (l ++ [b]) := by simp [natsC]
theorem natsC_ne {l : List Nat} (h : 0 < l.length) : natsC l ≠ [] := List.ne_nil_of_length_pos (by rw [natsC_length]; exact h)
theorem natsC_get (l : List Nat) (i : Nat) : (natsC l)[i]? = l[i]?.map fun n => .int .i64 (n : Nat) := by simp [natsC]
/-- What the specification has made of a field's bytes behind so many bits. -/
def halfF (l : List Bool) (m : Nat) : List UInt8 := (List.range (lon l.length)).map fun j => UInt8.ofNat (preN l j (min 8 (m - 8 * j)))
theorem halfF_len (l : List Bool) (m : Nat) : (halfF l m).length = lon l.length := by simp [halfF]
theorem halfF_zero (l : List Bool) : halfF l 0 = List.replicate (lon l.length) 0 := by
  unfold halfF
  apply List.ext_getElem (by simp)
  intro i h1 h2
  simp [preN]
theorem halfF_end (l : List Bool) : halfF l (8 * lon l.length) = fieldL l := by
  unfold halfF fieldL
  apply List.map_congr_left
  intro j hj
  have := List.mem_range.1 hj
  rw [show min 8 (8 * lon l.length - 8 * j) = 8 by omega]
theorem halfF_get (l : List Bool) (m : Nat) (h : m / 8 < lon l.length) : (halfF l m)[m / 8]? = some (UInt8.ofNat (preN l (m / 8) (m % 8))) := by
  unfold halfF
  rw [List.getElem?_map, List.getElem?_range h, Option.map_some, show min 8 (m - 8 * (m / 8)) = m % 8 by omega]
theorem halfF_set (l : List Bool) (m : Nat) (h : m / 8 < lon l.length) : (halfF l m).set (m / 8) (UInt8.ofNat (2 * preN l (m / 8) (m % 8) + (if l.getD m false = true then 1 else 0))) = halfF l (m + 1) := by
  apply List.ext_getElem?
  intro j
  by_cases hj : j = m / 8
  · subst hj
    rw [List.getElem?_set_self (by rw [halfF_len]; exact h)]
    unfold halfF
    rw [List.getElem?_map, List.getElem?_range h, Option.map_some, show min 8 (m + 1 - 8 * (m / 8)) = m % 8 + 1 by omega]
    simp only [preN]
    rw [show 8 * (m / 8) + m % 8 = m by omega]
  · rw [List.getElem?_set_ne (Ne.symm hj)]
    unfold halfF
    by_cases h2 : j < lon l.length
    · rw [List.getElem?_map, List.getElem?_map, List.getElem?_range h2, Option.map_some, Option.map_some, show min 8 (m + 1 - 8 * j) = min 8 (m - 8 * j) by omega]
    · rw [List.getElem?_eq_none (by simp; omega), List.getElem?_eq_none (by simp; omega)]
end Go.Aw
namespace Go.Aw
/-- How many bits a byte's number takes. -/
def len8 (b : Nat) : Nat := if b = 0 then 0 else b.log2 + 1
def len8L : List UInt8 := (List.range 256).map fun b => UInt8.ofNat (len8 b)
theorem len8_lt (b : Nat) (h : b < 256) : len8 b ≤ 8 := by
  unfold len8
  split
  · omega
  · have := (Nat.log2_lt (by assumption)).2 (show b < 2 ^ 8 from h); omega
theorem len8_get (b : Nat) (h : b < 256) : len8L[b]? = some (UInt8.ofNat (len8 b)) := by
  unfold len8L
  rw [List.getElem?_map, List.getElem?_range h]; rfl
theorem len8_facts (x q : Nat) (hx : x < 256) (hq : q ≤ 8) :
    let b := x % 2 ^ (8 - q)
    (b = 0 → ∀ j, q ≤ j → j < 8 → x.testBit (7 - j) = false) ∧
    (b ≠ 0 → let i := 8 - len8 b
      q ≤ i ∧ i < 8 ∧ x.testBit (7 - i) = true ∧ (∀ j, q ≤ j → j < i → x.testBit (7 - j) = false) ∧ b &&& (255 - 2 ^ (7 - i)) = x % 2 ^ (8 - (i + 1))) := by
  intro b
  constructor
  · intro hb j h1 h2
    have : (x % 2 ^ (8 - q)).testBit (7 - j) = false := by show b.testBit _ = false; rw [hb]; simp
    rw [Nat.testBit_mod_two_pow] at this
    simpa [show 7 - j < 8 - q by omega] using this
  · intro hb i
    have hb8 : b < 2 ^ (8 - q) := Nat.mod_lt _ (Nat.two_pow_pos _)
    have h1 : b.log2 < 8 - q := (Nat.log2_lt hb).2 hb8
    have h2 : 2 ^ b.log2 ≤ b := Nat.log2_self_le hb
    have h3 : b < 2 ^ (b.log2 + 1) := Nat.lt_log2_self
    have hi : i = 7 - b.log2 := by show 8 - len8 b = _; unfold len8; rw [if_neg hb]; omega
    have hbit : ∀ k, k < 8 - q → b.testBit k = x.testBit k := fun k hk => by
      show (x % 2 ^ (8 - q)).testBit k = _
      rw [Nat.testBit_mod_two_pow]; simp [hk]
    clear_value b
    have h7 : 7 - i = b.log2 := by omega
    have hset : b.testBit b.log2 = true := by
      rw [Nat.testBit_eq_decide_div_mod_eq]
      have : b / 2 ^ b.log2 = 1 := by
        have a := Nat.div_lt_of_lt_mul (m := b) (n := 2 ^ b.log2) (k := 2) (by rw [← Nat.pow_succ]; exact h3)
        have c := (Nat.le_div_iff_mul_le (Nat.two_pow_pos b.log2)).2 (by rw [Nat.one_mul]; exact h2)
        omega
      rw [this]; rfl
    refine ⟨by omega, by omega, ?_, fun j a c => ?_, ?_⟩
    · rw [h7, ← hbit _ h1]; exact hset
    · rw [← hbit _ (by omega)]
      exact Nat.testBit_lt_two_pow (Nat.lt_of_lt_of_le h3 (Nat.pow_le_pow_right (by omega) (by omega)))
    · apply Nat.eq_of_testBit_eq
      intro k
      rw [show 8 - (i + 1) = b.log2 by omega, Nat.testBit_and, Nat.testBit_mod_two_pow x b.log2 k, h7]
      by_cases hk : k < 8
      · rw [mask_bit _ _ (by omega) hk]
        by_cases hkl : k < b.log2
        · rw [hbit k (by omega)]
          simp [hkl]; omega
        · by_cases e : k = b.log2
          · simp [e]
          · have : b.testBit k = false := Nat.testBit_lt_two_pow (Nat.lt_of_lt_of_le h3 (Nat.pow_le_pow_right (by omega) (by omega)))
            simp [this, hkl]
      · have : b.testBit k = false := Nat.testBit_lt_two_pow (Nat.lt_of_lt_of_le hb8 (Nat.pow_le_pow_right (by omega) (by omega)))
        rw [this]
        simp; omega
/-- How many bits are set below a number. -/
def cntB (s : List UInt8) (m : Nat) : Nat := ((List.range m).filter (bitAt s)).length
theorem cntB_same (s : List UInt8) (a : Nat) : ∀ d, (∀ j, a ≤ j → j < a + d → bitAt s j = false) → cntB s (a + d) = cntB s a
  | 0, _ => rfl
  | d + 1, h => by
    rw [← Nat.add_assoc]
    unfold cntB
    rw [filter_range_succ, h (a + d) (by omega) (by omega), if_neg (by simp)]
    exact cntB_same s a d fun j x y => h j x (by omega)
def allL (s : List UInt8) : List Nat := (List.range (8 * s.length)).filter (bitAt s)
theorem allL_get {s : List UInt8} {m : Nat} (h : m < 8 * s.length) (hb : bitAt s m = true) : (allL s)[cntB s m]? = some m := filter_range_get h hb
theorem filter_range_const (p : Nat → Bool) (a : Nat) : ∀ d, (∀ j, a ≤ j → j < a + d → p j = false) → (List.range (a + d)).filter p = (List.range a).filter p
  | 0, _ => rfl
  | d + 1, h => by
    rw [← Nat.add_assoc, List.range_succ, List.filter_append, filter_range_const p a d fun j x y => h j x (by omega)]
    simp [h (a + d) (by omega) (by omega)]
theorem allL_valid {n : Nat} {s : List UInt8} (h : validB n s) : allL s = listB n s := by
  have hl := lon_le n
  unfold allL listB
  rw [h.1, show 8 * lon n = n + (8 * lon n - n) by omega]
  exact filter_range_const _ _ _ fun j a _ => h.2 j a
end Go.Aw
namespace Go.Aw
theorem wth_get {l l' : List UInt8} {b : Nat} {a : UInt8} {f : UInt8 → Prop} (h : l = l') (h1 : l'[b]? = some a) (k : f a) : wth l[b]? f := by
  rw [h, h1]; exact k
end Go.Aw
