/-
  The plain law of marks: which bits they have, how long they are, what they name.
-/
import Derived.Test.YtfcocdeocbiolaaF8
set_option linter.unusedVariables false
set_option linter.unusedSimpArgs false
namespace Go.Proofs.Ytfcocdeocbiolaa
open Go Go.Aw Go.Proofs
theorem testBit_or_pow (x i m : Nat) : (x ||| 2 ^ i).testBit m = (x.testBit m || decide (i = m)) := by
  rw [Nat.testBit_or, Nat.testBit_two_pow]
theorem lbit_set (c : List UInt8) (i m : Nat) (hi : i / 8 < c.length) : lbit (setB c i) m = (lbit c m || decide (m = i)) := by
  unfold lbit setB
  by_cases hq : i / 8 = m / 8
  · rw [← hq, List.getD_eq_getElem?_getD, List.getElem?_set_self hi]
    simp only [Option.getD_some]
    have h2p : 2 ^ (i % 8) < 256 := Nat.pow_lt_pow_right (n := 8) (by omega) (by omega)
    rw [toNat_ofNat8 (Nat.or_lt_two_pow (n := 8) (UInt8.toNat_lt _) h2p), testBit_or_pow]
    congr 1
    simp only [decide_eq_decide]
    omega
  · rw [List.getD_eq_getElem?_getD, List.getElem?_set_ne hq, ← List.getD_eq_getElem?_getD]
    have : decide (m = i) = false := by simp only [decide_eq_false_iff_not]; intro e; subst e; exact hq rfl
    rw [this, Bool.or_false]
theorem lbit_foldl (F : List Nat) : ∀ (c : List UInt8) (m : Nat), (∀ i ∈ F, i / 8 < c.length) → lbit (F.foldl setB c) m = (lbit c m || decide (m ∈ F)) := by
  induction F with
  | nil => intro c m _; simp
  | cons i r ih =>
    intro c m h
    rw [List.foldl_cons, ih _ _ (fun j hj => by rw [setB_len]; exact h j (List.mem_cons_of_mem _ hj)), lbit_set _ _ _ (h i (List.mem_cons_self ..))]
    simp [Bool.or_assoc]
theorem lbit_zero (m : Nat) : lbit [0, 0, 0, 0] m = false := by
  unfold lbit
  have : ([0, 0, 0, 0] : List UInt8).getD (m / 8) 0 = 0 := by
    rcases m / 8 with _ | _ | _ | _ | _ <;> rfl
  rw [this]; simp
theorem lbit_bytes4 (F : List Nat) (hF : ∀ i ∈ F, i < 32) (m : Nat) : lbit (bytes4 F) m = decide (m ∈ F) := by
  unfold bytes4
  rw [lbit_foldl F _ _ (fun i hi => by have := hF i hi; show i / 8 < 4; omega), lbit_zero, Bool.false_or]
/-- The bytes behind the trim are 0; the last one that is kept is not. -/
theorem trimN_spec (c : List UInt8) : ∀ n, (∀ j, trimN c n ≤ j → j < n → c.getD j 0 = 0) ∧ (0 < trimN c n → c.getD (trimN c n - 1) 0 ≠ 0)
  | 0 => ⟨fun j _ h => by omega, fun h => by simp [trimN] at h⟩
  | n + 1 => by
    have ih := trimN_spec c n
    unfold trimN
    by_cases h : c.getD n 0 = 0
    · rw [if_pos h]
      refine ⟨fun j h1 h2 => ?_, ih.2⟩
      rcases Nat.lt_or_ge j n with h3 | h3
      · exact ih.1 j h1 h3
      · have : j = n := by omega
        rw [this]; exact h
    · rw [if_neg h]
      exact ⟨fun j h1 h2 => by omega, fun _ => h⟩
theorem byte_bit {x : UInt8} (h : x ≠ 0) : ∃ k, k < 8 ∧ x.toNat.testBit k = true := by
  refine Classical.byContradiction fun hn => h ?_
  rw [← UInt8.toNat_inj]
  refine Nat.eq_of_testBit_eq fun i => ?_
  rcases Nat.lt_or_ge i 8 with hi | hi
  · have : x.toNat.testBit i = false := by
      cases hb : x.toNat.testBit i
      · rfl
      · exact absurd ⟨i, hi, hb⟩ hn
    rw [this]; simp
  · rw [Nat.testBit_lt_two_pow (Nat.lt_of_lt_of_le (UInt8.toNat_lt x) (Nat.pow_le_pow_right (n := 2) (by omega) hi : 2 ^ 8 ≤ 2 ^ i))]
    simp
theorem markB_len (F : List Nat) : (markB F).length = trimN (bytes4 F) 4 := by
  unfold markB; rw [List.length_take, bytes4_len]; have := trimN_le (bytes4 F) 4; omega
theorem lbit_take (c : List UInt8) (k m : Nat) (h : m < 8 * k) : lbit (c.take k) m = lbit c m := by
  unfold lbit
  rw [List.getD_eq_getElem?_getD, List.getElem?_take_of_lt (by omega), ← List.getD_eq_getElem?_getD]
theorem mem_lt (F : List Nat) (hF : ∀ i ∈ F, i < 32) (i : Nat) (hi : i ∈ F) : i < 8 * (markB F).length := by
  rw [markB_len]
  refine Classical.byContradiction fun hn => ?_
  have h0 := (trimN_spec (bytes4 F) 4).1 (i / 8) (by omega) (by have := hF i hi; omega)
  have h1 := lbit_bytes4 F hF i
  unfold lbit at h1
  rw [h0] at h1
  simp [hi] at h1
theorem namedN_markB (F : List Nat) (hF : ∀ i ∈ F, i < 32) : namedN (markB F) = (List.range 32).filter (fun i => decide (i ∈ F)) := by
  unfold namedN
  have hle : (markB F).length ≤ 4 := by rw [markB_len]; exact trimN_le _ _
  have h1 : (List.range (8 * (markB F).length)).filter (lbit (markB F)) = (List.range (8 * (markB F).length)).filter (fun i => decide (i ∈ F)) := by
    refine List.filter_congr fun m hm => ?_
    rw [List.mem_range] at hm
    rw [← lbit_bytes4 F hF m]
    unfold markB
    rw [lbit_take _ _ _ (by rw [markB_len] at hm; exact hm)]
  rw [h1]
  obtain ⟨k, hk⟩ : ∃ k, 32 = 8 * (markB F).length + k := ⟨32 - 8 * (markB F).length, by omega⟩
  rw [hk, List.range_add, List.filter_append]
  have h2 : ((List.range k).map (8 * (markB F).length + ·)).filter (fun i => decide (i ∈ F)) = [] := by
    rw [List.filter_eq_nil_iff]
    intro a ha
    rw [List.mem_map] at ha
    obtain ⟨x, _, rfl⟩ := ha
    simp only [decide_eq_true_eq]
    intro hm
    have := mem_lt F hF _ hm
    omega
  rw [h2, List.append_nil]
def maxF (F : List Nat) : Nat := F.foldl (fun m i => max m (i + 2)) 0
theorem maxF_step (F : List Nat) : ∀ m, F.foldl (fun m i => max m (i + 2)) m = max m (maxF F) := by
  induction F with
  | nil => intro m; simp [maxF]
  | cons i r ih => intro m; unfold maxF; rw [List.foldl_cons, List.foldl_cons, ih, ih (max 0 (i + 2))]; omega
theorem maxF_nil : maxF [] = 0 := rfl
theorem maxF_cons (i : Nat) (r : List Nat) : maxF (i :: r) = max (i + 2) (maxF r) := by
  unfold maxF; rw [List.foldl_cons, maxF_step]; unfold maxF; omega
theorem maxF_mem (F : List Nat) : ∀ i ∈ F, i + 2 ≤ maxF F := by
  induction F with
  | nil => intro i h; cases h
  | cons a r ih =>
    intro i h
    rw [maxF_cons]
    rcases List.mem_cons.1 h with rfl | h
    · omega
    · have := ih i h; omega
theorem maxF_get (F : List Nat) : maxF F = 0 ∧ F = [] ∨ ∃ i ∈ F, maxF F = i + 2 := by
  induction F with
  | nil => exact .inl ⟨rfl, rfl⟩
  | cons a r ih =>
    right
    rw [maxF_cons]
    rcases ih with ⟨h1, h2⟩ | ⟨i, h1, h2⟩
    · exact ⟨a, List.mem_cons_self .., by omega⟩
    · rcases Nat.lt_or_ge (a + 2) (i + 2) with h | h
      · exact ⟨i, List.mem_cons_of_mem _ h1, by omega⟩
      · exact ⟨a, List.mem_cons_self .., by omega⟩
theorem markB_long (F : List Nat) (hF : ∀ i ∈ F, i < 32) : maxF F = 0 ∧ markB F = [] ∨ 2 ≤ maxF F ∧ (markB F).length = (maxF F - 2) / 8 + 1 := by
  rcases maxF_get F with ⟨h1, rfl⟩ | ⟨i, hi, h⟩
  · left; exact ⟨h1, rfl⟩
  · right
    refine ⟨by omega, ?_⟩
    have h1 := mem_lt F hF i hi
    have hs := (trimN_spec (bytes4 F) 4).2
    rw [← markB_len] at hs
    obtain ⟨k, hk, hb⟩ := byte_bit (hs (by omega))
    have h2 : lbit (bytes4 F) (8 * ((markB F).length - 1) + k) = true := by
      unfold lbit
      rw [show (8 * ((markB F).length - 1) + k) / 8 = (markB F).length - 1 by omega, show (8 * ((markB F).length - 1) + k) % 8 = k by omega]
      exact hb
    rw [lbit_bytes4 F hF, decide_eq_true_eq] at h2
    have h3 := maxF_mem F _ h2
    omega
theorem maxF_take (F : List Nat) (n : Nat) (h : n < F.length) : maxF (F.take (n + 1)) = max (maxF (F.take n)) (F[n] + 2) := by
  rw [List.take_add_one, List.getElem?_eq_getElem h]
  unfold maxF
  rw [List.foldl_append]; rfl
/-- The numbers that came, as the law makes the list. -/
def wantL (ack : Int) (p : Nat → Bool) (k : Nat) : List Int := ((List.range k).filter p).map fun (i : Nat) => (ack + ((i : Int) + 2)) % 65536
theorem wantL_succ (ack : Int) (p : Nat → Bool) (k : Nat) : wantL ack p (k + 1) = wantL ack p k ++ (if p k = true then [(ack + ((k : Int) + 2)) % 65536] else []) := by
  unfold wantL
  rw [List.range_succ, List.filter_append, List.map_append]
  cases h : p k <;> simp [h]
theorem namedOf_markB (ack : Int) (F : List Nat) (hF : ∀ i ∈ F, i < 32) : namedOf ack (markB F) = wantL ack (fun i => decide (i ∈ F)) 32 := by
  unfold namedOf namedI wantL
  rw [namedN_markB F hF, List.map_map]; rfl
theorem namedOf_eq (ack : Int) (s : List UInt8) : namedOf ack s = wantL ack (lbit s) (8 * s.length) := by
  unfold namedOf namedI wantL namedN
  rw [List.map_map]; rfl
theorem wantL_len (ack : Int) (p : Nat → Bool) (k : Nat) : (wantL ack p k).length ≤ k := by
  unfold wantL
  rw [List.length_map]
  exact Nat.le_trans (List.length_filter_le _ _) (by simp)
/-- The marks as the law keeps them: 34 of them. -/
def bitsF (F : List Nat) : List Bool := (List.range 34).map fun d => decide (2 ≤ d ∧ d - 2 ∈ F)
def boolsC (l : List Bool) : List Value := l.map .bool
theorem boolsC_length (l : List Bool) : (boolsC l).length = l.length := by simp [boolsC]
theorem bitsF_len (F : List Nat) : (bitsF F).length = 34 := by simp [bitsF]
theorem bitsF_nil : boolsC (bitsF []) = List.replicate 34 (.bool false) := rfl
theorem bitsF_get (F : List Nat) (d : Nat) (h : d < 32) : (boolsC (bitsF F))[d + 2]? = some (.bool (decide (d ∈ F))) := by
  unfold boolsC bitsF
  rw [List.getElem?_map, List.getElem?_map, List.getElem?_range (by omega)]
  simp
theorem bitsF_set (F : List Nat) (n : Nat) (h : n < F.length) (hF : F[n] < 32) : (boolsC (bitsF (F.take n))).set (F[n] + 2) (.bool true) = boolsC (bitsF (F.take (n + 1))) := by
  refine List.ext_getElem? fun j => ?_
  unfold boolsC bitsF
  rw [List.getElem?_map, List.getElem?_map]
  by_cases hj : j = F[n] + 2
  · subst hj
    rw [List.getElem?_set_self (by simp; omega), List.getElem?_range (by omega)]
    have hm : F[n] ∈ F.take (n + 1) := by
      rw [List.take_add_one, List.getElem?_eq_getElem h]; exact List.mem_append.2 (.inr (List.mem_singleton.2 rfl))
    simp [hm]
  · rw [List.getElem?_set_ne (Ne.symm hj), List.getElem?_map, List.getElem?_map]
    rcases Nat.lt_or_ge j 34 with hl | hl
    · rw [List.getElem?_range hl]
      simp only [Option.map_some, Option.some.injEq, Value.bool.injEq, decide_eq_decide]
      rw [List.take_add_one, List.getElem?_eq_getElem h]
      simp only [List.mem_append, Option.toList, List.mem_singleton]
      constructor
      · rintro ⟨h1, h2⟩; exact ⟨h1, .inl h2⟩
      · rintro ⟨h1, h2 | h2⟩
        · exact ⟨h1, h2⟩
        · omega
    · rw [List.getElem?_eq_none (by simpa using hl)]; rfl
end Go.Proofs.Ytfcocdeocbiolaa
