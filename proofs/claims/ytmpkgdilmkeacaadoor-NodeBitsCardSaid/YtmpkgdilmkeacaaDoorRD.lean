/-
  The next identifier and the middle of two, as lists of bits and as numbers.
-/
import Derived.Test.YtmpkgdilmkeacaaDoorR7
set_option linter.unusedVariables false
set_option linter.unusedSimpArgs false
set_option maxRecDepth 20000
namespace Go.Proofs.YtmpkgdilmkeacaaDoor
open Go Go.Aw Go.Proofs
theorem bitAt_at {l : List UInt8} {c : UInt8} {m : Nat} (h : l[m / 8]? = some c) : bitAt l m = c.toNat.testBit (7 - m % 8) := by
  unfold bitAt
  rw [List.getD_eq_getElem?_getD, h]; rfl
def onesFrom (s : List UInt8) (j : Nat) : Bool := (List.range 160).all fun x => decide (x < j) || bitAt s x
theorem onesFrom_iff {s : List UInt8} {j : Nat} : onesFrom s j = true ↔ ∀ x, j ≤ x → x < 160 → bitAt s x = true := by
  unfold onesFrom
  rw [List.all_eq_true]
  constructor
  · intro h x hx hx2
    have := h x (List.mem_range.2 hx2)
    simp only [Bool.or_eq_true, decide_eq_true_eq] at this
    rcases this with h | h
    · omega
    · exact h
  · intro h x hx
    simp only [Bool.or_eq_true, decide_eq_true_eq]
    rcases Nat.lt_or_ge x j with h' | h'
    · exact .inl h'
    · exact .inr (h x h' (List.mem_range.1 hx))
theorem onesFrom_false {s : List UInt8} {j x : Nat} (hx : j ≤ x) (hx2 : x < 160) (h : bitAt s x = false) : onesFrom s j = false := by
  cases ho : onesFrom s j with
  | false => rfl
  | true => have := onesFrom_iff.1 ho x hx hx2; rw [h] at this; cases this
def nextL (s : List UInt8) : List UInt8 := ofB (fun m => bitAt s m != onesFrom s (m + 1)) 160
theorem nextL_len (s : List UInt8) : (nextL s).length = 20 := ofB_len _ _
theorem nextL_bit (s : List UInt8) (m : Nat) (h : m < 160) : bitAt (nextL s) m = (bitAt s m != onesFrom s (m + 1)) := by unfold nextL; rw [ofB_bit _ _ _ (Nat.le_refl _)]; simp [h]
theorem inc_bits : ∀ n, n < 256 → ∀ k, k < 8 → ((n + 1) % 256).testBit k = (n.testBit k != decide (∀ k', k' < k → n.testBit k' = true)) := by decide +kernel
theorem ff_bits : ∀ n, n < 256 → n ≠ 255 → ∃ k, k < 8 ∧ n.testBit k = false := by decide +kernel
theorem ff_all : ∀ k, k < 8 → (255 : Nat).testBit k = true := by decide
theorem inc_nat (b : UInt8) : (b + 1).toNat = (b.toNat + 1) % 256 := by rw [UInt8.toNat_add]; rfl
/-- All bytes from i on are 255. -/
def ffFrom (s : List UInt8) (i : Nat) : Prop := ∀ x, i ≤ x → x < 20 → s[x]? = some 255
theorem ffFrom.bit {s : List UInt8} {i : Nat} (h : ffFrom s i) {m : Nat} (hm : i ≤ m / 8) (hm2 : m < 160) : bitAt s m = true := by
  rw [bitAt_at (h _ hm (by omega))]
  exact ff_all _ (by omega)
theorem next_break (s : List UInt8) (hs : s.length = 20) (i : Nat) (hi : i < 20) (hff : ffFrom s (i + 1)) (b : UInt8) (hb : s[i]? = some b) (hne : b + 1 ≠ 0) : s.take i ++ [b + 1] ++ List.replicate (19 - i) 0 = nextL s := by
  have h1 : (s.take i).length = i := by rw [List.length_take]; omega
  refine bits_ext _ _ 20 (by simp; omega) (nextL_len s) fun m hm => ?_
  rw [nextL_bit s m hm]
  have hbn : b.toNat ≠ 255 := by
    intro e
    apply hne
    apply UInt8.toNat_inj.1
    rw [inc_nat, e]; rfl
  obtain ⟨k0, hk0, hk1⟩ := ff_bits b.toNat b.toNat_lt hbn
  rcases Nat.lt_trichotomy (m / 8) i with h | h | h
  · have e1 : (s.take i ++ [b + 1] ++ List.replicate (19 - i) 0)[m / 8]? = some s[m / 8] := by
      rw [List.append_assoc, List.getElem?_append_left (by omega), List.getElem?_take_of_lt h, List.getElem?_eq_getElem (by omega)]
    rw [bitAt_at e1, bitAt_at (List.getElem?_eq_getElem (by omega)), onesFrom_false (x := 8 * i + (7 - k0)) (by omega) (by omega)]
    · simp
    · rw [bitAt_at (c := b) (by rw [show (8 * i + (7 - k0)) / 8 = i by omega]; exact hb)]
      rw [show 7 - (8 * i + (7 - k0)) % 8 = k0 by omega]; exact hk1
  · have e1 : (s.take i ++ [b + 1] ++ List.replicate (19 - i) 0)[m / 8]? = some (b + 1) := by
      rw [List.append_assoc, List.getElem?_append_right (by omega), h1, h]; simp
    rw [bitAt_at e1, bitAt_at (c := b) (by rw [h]; exact hb), inc_nat, inc_bits _ b.toNat_lt _ (by omega)]
    congr 1
    cases ho : onesFrom s (m + 1) with
    | true =>
      rw [decide_eq_true_iff]
      intro k' hk'
      have := onesFrom_iff.1 ho (8 * i + (7 - k')) (by omega) (by omega)
      rw [bitAt_at (c := b) (by rw [show (8 * i + (7 - k')) / 8 = i by omega]; exact hb), show 7 - (8 * i + (7 - k')) % 8 = k' by omega] at this
      exact this
    | false =>
      rw [decide_eq_false_iff_not]
      intro hall
      have : onesFrom s (m + 1) = true := onesFrom_iff.2 fun x hx hx2 => by
        rcases Nat.lt_or_ge i (x / 8) with h' | h'
        · exact hff.bit h' hx2
        · have hxi : x / 8 = i := by omega
          rw [bitAt_at (c := b) (by rw [hxi]; exact hb)]
          exact hall _ (by omega)
      rw [ho] at this; cases this
  · have e1 : (s.take i ++ [b + 1] ++ List.replicate (19 - i) 0)[m / 8]? = some 0 := by
      rw [List.getElem?_append_right (by simp; omega), List.getElem?_replicate, if_pos (by simp; omega)]
    have e2 : onesFrom s (m + 1) = true := onesFrom_iff.2 fun x hx hx2 => hff.bit (by omega) hx2
    rw [bitAt_at e1, e2, hff.bit (by omega) hm]; simp
theorem next_all (s : List UInt8) (hff : ffFrom s 0) : List.replicate 20 0 = nextL s := by
  refine bits_ext _ _ 20 (by simp) (nextL_len s) fun m hm => ?_
  rw [nextL_bit s m hm, bitAt_zeros, hff.bit (Nat.zero_le _) hm, onesFrom_iff.2 fun x hx hx2 => hff.bit (Nat.zero_le _) hx2]; rfl
/-- A turned bit. -/
def flipL (s : List UInt8) (n : Nat) : List UInt8 := s.set (n / 8) (UInt8.ofNat ((s.getD (n / 8) 0).toNat ^^^ 2 ^ (7 - n % 8)))
theorem flipL_len (s : List UInt8) (n : Nat) : (flipL s n).length = s.length := by unfold flipL; rw [List.length_set]
theorem flipL_bit (s : List UInt8) (n : Nat) (hn : n / 8 < s.length) (m : Nat) : bitAt (flipL s n) m = if m = n then !bitAt s n else bitAt s m := by
  unfold flipL
  rw [bitAt_set _ _ _ hn]
  have h256 : (s.getD (n / 8) 0).toNat ^^^ 2 ^ (7 - n % 8) < 256 := Nat.xor_lt_two_pow (n := 8) (UInt8.toNat_lt _) (Nat.pow_lt_pow_right (by omega) (by omega))
  split
  · rename_i h
    rw [toNat_ofNat8 h256, Nat.testBit_xor, Nat.testBit_two_pow]
    by_cases hmn : m = n
    · subst hmn
      rw [if_pos rfl]
      unfold bitAt
      simp
    · rw [if_neg hmn]
      have : decide (7 - n % 8 = 7 - m % 8) = false := decide_eq_false (by omega)
      rw [this, Bool.xor_false]
      unfold bitAt
      rw [h]
  · rename_i h
    rw [if_neg (fun e => h (by rw [e]))]

/-! ### Numbers -/
def valB (l : List UInt8) : Nat := l.foldl (fun n b => n * 256 + b.toNat) 0
theorem valB_snoc (l : List UInt8) (b : UInt8) : valB (l ++ [b]) = valB l * 256 + b.toNat := by unfold valB; rw [List.foldl_append]; rfl
theorem valB_byte : ∀ (n : Nat) (l : List UInt8), l.length = n → ∀ i, (h : i < l.length) → (valB l / 256 ^ (l.length - 1 - i)) % 256 = (l[i]).toNat := by
  intro n
  induction n with
  | zero => intro l hl i h; omega
  | succ n ih =>
    intro l hl i h
    have hne : l ≠ [] := List.ne_nil_of_length_pos (by omega)
    obtain ⟨r, b, rfl⟩ : ∃ r b, l = r ++ [b] := ⟨l.dropLast, l.getLast hne, (List.dropLast_concat_getLast hne).symm⟩
    have hr : r.length = n := by simpa using hl
    have hb := b.toNat_lt
    rw [valB_snoc]
    by_cases hi : i = r.length
    · subst hi
      simp only [List.length_append, List.length_singleton, List.getElem_append_right (Nat.le_refl _), Nat.sub_self, List.getElem_cons_zero]
      rw [show r.length + 1 - 1 - r.length = 0 by omega, Nat.pow_zero, Nat.div_one]
      omega
    · have hil : i < r.length := by simp at h; omega
      have := ih r hr i hil
      simp only [List.length_append, List.length_singleton, List.getElem_append_left hil]
      rw [← this, show r.length + 1 - 1 - i = (r.length - 1 - i) + 1 by omega, Nat.pow_succ, Nat.mul_comm (256 ^ _) 256, ← Nat.div_div_eq_div_mul]
      congr 2
      omega
theorem valB_bit {l : List UInt8} (hl : l.length = 20) {m : Nat} (hm : m < 160) : bitAt l m = (valB l).testBit (159 - m) := by
  have h := valB_byte 20 l hl (m / 8) (by omega)
  rw [bitAt_at (List.getElem?_eq_getElem (show m / 8 < l.length by omega)), ← h, hl]
  have e : (256 : Nat) ^ (20 - 1 - m / 8) = 2 ^ (8 * (19 - m / 8)) := by
    rw [show (256 : Nat) = 2 ^ 8 from rfl, ← Nat.pow_mul]
  rw [e, show (256 : Nat) = 2 ^ 8 from rfl, Nat.testBit_mod_two_pow, Nat.testBit_div_two_pow]
  have h8 : decide (7 - m % 8 < 8) = true := decide_eq_true (by omega)
  rw [h8, Bool.true_and]
  congr 1
  omega
def midT (a b : List UInt8) : Nat := valB a + valB b
def midL (a b : List UInt8) : List UInt8 := (List.range 20).map fun i => UInt8.ofNat (midT a b / 2 / 256 ^ (19 - i))
theorem midL_len (a b : List UInt8) : (midL a b).length = 20 := by simp [midL]
theorem midL_bit (a b : List UInt8) (m : Nat) (hm : m < 160) : bitAt (midL a b) m = (midT a b / 2).testBit (159 - m) := by
  have e : (midL a b)[m / 8]? = some (UInt8.ofNat (midT a b / 2 / 256 ^ (19 - m / 8))) := by
    unfold midL
    rw [List.getElem?_map, List.getElem?_range (by omega)]; rfl
  rw [bitAt_at e]
  have h2 : (UInt8.ofNat (midT a b / 2 / 256 ^ (19 - m / 8))).toNat = midT a b / 2 / 256 ^ (19 - m / 8) % 256 := by simp
  rw [h2]
  have e : (256 : Nat) ^ (19 - m / 8) = 2 ^ (8 * (19 - m / 8)) := by
    rw [show (256 : Nat) = 2 ^ 8 from rfl, ← Nat.pow_mul]
  rw [e, show (256 : Nat) = 2 ^ 8 from rfl, Nat.testBit_mod_two_pow, Nat.testBit_div_two_pow]
  have h8 : decide (7 - m % 8 < 8) = true := decide_eq_true (by omega)
  rw [h8, Bool.true_and]
  congr 1
  omega
/-- The carry into place k, in base B. -/
def carryN (B x y k : Nat) : Nat := (x % B ^ k + y % B ^ k) / B ^ k
theorem carry0 (B x y : Nat) : carryN B x y 0 = 0 := by unfold carryN; simp [Nat.mod_one]
theorem mod_split (B x k : Nat) : x % B ^ (k + 1) = x % B ^ k + B ^ k * (x / B ^ k % B) := by rw [Nat.pow_succ, Nat.mod_mul]
theorem carryS (B x y k : Nat) (hB : 0 < B) : carryN B x y (k + 1) = (x / B ^ k % B + y / B ^ k % B + carryN B x y k) / B := by
  unfold carryN
  rw [mod_split, mod_split]
  have hp : 0 < B ^ k := Nat.pow_pos hB
  have h1 : x % B ^ k + B ^ k * (x / B ^ k % B) + (y % B ^ k + B ^ k * (y / B ^ k % B)) = (x % B ^ k + y % B ^ k) + B ^ k * (x / B ^ k % B + y / B ^ k % B) := by rw [Nat.mul_add]; omega
  rw [h1, Nat.pow_succ, ← Nat.div_div_eq_div_mul, Nat.add_mul_div_left _ _ hp]
  congr 1
  omega
theorem sumAt (B x y k : Nat) (hB : 0 < B) : (x / B ^ k % B + y / B ^ k % B + carryN B x y k) % B = (x + y) / B ^ k % B := by
  unfold carryN
  have hp : 0 < B ^ k := Nat.pow_pos hB
  have h1 : x + y = (x % B ^ k + y % B ^ k) + B ^ k * (x / B ^ k + y / B ^ k) := by
    have h2 := Nat.div_add_mod x (B ^ k)
    have h3 := Nat.div_add_mod y (B ^ k)
    rw [Nat.mul_add]; omega
  rw [h1, Nat.add_mul_div_left _ _ hp, Nat.add_comm ((x % B ^ k + y % B ^ k) / B ^ k) (x / B ^ k + y / B ^ k), Nat.add_mod (x / B ^ k + y / B ^ k), Nat.add_mod (x / B ^ k) (y / B ^ k), ← Nat.add_mod]
end Go.Proofs.YtmpkgdilmkeacaaDoor
