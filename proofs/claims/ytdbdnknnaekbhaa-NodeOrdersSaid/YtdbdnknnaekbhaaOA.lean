/-
  Plain law: lists that swaps make of one another, the rotation, and the merging of two sorted pieces in place.
-/
import Derived.WalkKit
set_option linter.unusedVariables false
set_option linter.unusedSimpArgs false
namespace Go.Aw
/-- l' has at each place what l has at another one. -/
def Pm {α : Type} (l l' : List α) (p : Nat → Nat) : Prop := l'.length = l.length ∧ ∀ q, q < l.length → l'[q]? = l[p q]?
theorem Pm.refl {α : Type} (l : List α) : Pm l l (fun q => q) := ⟨rfl, fun _ _ => rfl⟩
theorem Pm.len {α : Type} {l l' : List α} {p : Nat → Nat} (h : Pm l l' p) : l'.length = l.length := h.1
theorem Pm.of {α : Type} {l l' : List α} {p p' : Nat → Nat} (h : Pm l l' p) (e : ∀ q, q < l.length → p q = p' q) : Pm l l' p' := ⟨h.1, fun q hq => by rw [← e q hq]; exact h.2 q hq⟩
theorem Pm.trans {α : Type} {l l' l'' : List α} {p r : Nat → Nat} (h : Pm l l' p) (k : Pm l' l'' r) (hr : ∀ q, q < l.length → r q < l.length) : Pm l l'' (fun q => p (r q)) :=
  ⟨k.1.trans h.1, fun q hq => by rw [k.2 q (by rw [h.1]; exact hq), h.2 (r q) (hr q hq)]⟩
def swp (i j : Nat) (q : Nat) : Nat := if q = i then j else if q = j then i else q
theorem Pm.swap {α : Type} (l : List α) {i j : Nat} {x y : α} (hi : l[i]? = some x) (hj : l[j]? = some y) : Pm l ((l.set i y).set j x) (swp i j) := by
  have h1 := (List.getElem?_eq_some_iff.1 hi).1
  have h2 := (List.getElem?_eq_some_iff.1 hj).1
  refine ⟨by simp, fun q hq => ?_⟩
  unfold swp
  rw [List.getElem?_set, List.getElem?_set]
  simp only [List.length_set]
  by_cases e1 : j = q
  · subst e1
    by_cases e2 : j = i
    · subst e2; rw [if_pos rfl, if_pos h2, if_pos rfl, hi]
    · rw [if_pos rfl, if_pos h2, if_neg e2, if_pos rfl, hi]
  · by_cases e2 : i = q
    · subst e2
      rw [if_neg e1, if_pos rfl, if_pos h1, if_pos rfl, hj]
    · rw [if_neg e1, if_neg e2, if_neg (fun e => e2 e.symm), if_neg (fun e => e1 e.symm)]
/-- What the rotation of a piece that ends at m .. with what follows gives. -/
def rot (a m b : Nat) (q : Nat) : Nat := if a ≤ q ∧ q < a + (b - m) then q + (m - a) else if a + (b - m) ≤ q ∧ q < b then q - (b - m) else q
/-- Two pieces of n places are exchanged. -/
def exch (a b n : Nat) (q : Nat) : Nat := if a ≤ q ∧ q < a + n then q + (b - a) else if b ≤ q ∧ q < b + n then q - (b - a) else q
theorem exch_lt {a b n k q : Nat} (h1 : a + n ≤ b) (h2 : b + n ≤ k) (hq : q < k) : exch a b n q < k := by unfold exch; split <;> (try split) <;> omega
theorem exch_zero (a b q : Nat) : exch a b 0 q = q := by unfold exch; split <;> (try split) <;> omega
theorem exch_succ {a b n : Nat} (h : a + n + 1 ≤ b) (q : Nat) : exch a b n (swp (a + n) (b + n) q) = exch a b (n + 1) q := by
  unfold exch swp
  by_cases c1 : q = a + n
  · subst c1; simp only [if_true]; (repeat' split) <;> omega
  · by_cases c2 : q = b + n
    · subst c2; rw [if_neg c1, if_pos rfl]; (repeat' split) <;> omega
    · rw [if_neg c1, if_neg c2]; (repeat' split) <;> omega
/-- The rotation's step: the window's first j and its last j are exchanged, i > j. -/
theorem rot_gt {m i j : Nat} (h : j < i) (hi : i ≤ m) (q : Nat) : exch (m - i) m j (rot (m - (i - j)) m (m + j) q) = rot (m - i) m (m + j) q := by
  unfold exch rot
  (repeat' split) <;> omega
theorem rot_lt' {m i j : Nat} (h : i < j) (hi : i ≤ m) (q : Nat) : exch (m - i) (m + j - i) i (rot (m - i) m (m + (j - i)) q) = rot (m - i) m (m + j) q := by
  unfold exch rot
  (repeat' split) <;> omega
theorem rot_eq {m i : Nat} (hi : i ≤ m) (q : Nat) : exch (m - i) m i q = rot (m - i) m (m + i) q := by
  unfold exch rot
  (repeat' split) <;> omega
/-- One thing goes up, or down. -/
theorem up_succ {a k : Nat} (h : a ≤ k) (q : Nat) : rot a (a + 1) (k + 1) (swp k (k + 1) q) = rot a (a + 1) (k + 2) q := by
  unfold rot swp
  (repeat' split) <;> omega
theorem rot_one (a : Nat) (q : Nat) : rot a (a + 1) (a + 1) q = q := by unfold rot; (repeat' split) <;> omega
theorem down_succ {k m : Nat} (h : 1 ≤ k) (hk : k ≤ m) (q : Nat) : rot k m (m + 1) (swp k (k - 1) q) = rot (k - 1) m (m + 1) q := by
  unfold rot swp
  (repeat' split) <;> omega
theorem rot_none (m : Nat) (q : Nat) : rot m m (m + 1) q = q := by unfold rot; (repeat' split) <;> omega
section srt
variable {α : Type}
/-- Between a and b nothing that comes first is greater. -/
def Srt (le : α → α → Prop) (l : List α) (a b : Nat) : Prop := ∀ i j x y, a ≤ i → i < j → j < b → l[i]? = some x → l[j]? = some y → le x y
/-- l' is l, sorted between a and b. -/
structure Srtd (le : α → α → Prop) (l l' : List α) (a b : Nat) : Prop where
  len : l'.length = l.length
  out : ∀ q, q < a ∨ b ≤ q → l'[q]? = l[q]?
  srt : Srt le l' a b
  mem : ∀ q x, a ≤ q → q < b → l'[q]? = some x → ∃ r, a ≤ r ∧ r < b ∧ l[r]? = some x
  mem' : ∀ q x, a ≤ q → q < b → l[q]? = some x → ∃ r, a ≤ r ∧ r < b ∧ l'[r]? = some x
variable {le : α → α → Prop}
theorem Srt.sub {l : List α} {a b a' b' : Nat} (h : Srt le l a b) (h1 : a ≤ a') (h2 : b' ≤ b) : Srt le l a' b' := fun i j x y k1 k2 k3 => h i j x y (by omega) k2 (by omega)
theorem Srt.same {l l' : List α} {a b : Nat} (h : Srt le l a b) (e : ∀ q, a ≤ q → q < b → l'[q]? = l[q]?) : Srt le l' a b := fun i j x y k1 k2 k3 e1 e2 => h i j x y k1 k2 k3 (by rw [← e i k1 (by omega)]; exact e1) (by rw [← e j (by omega) k3]; exact e2)
theorem Srtd.refl {l : List α} {a b : Nat} (h : Srt le l a b) : Srtd le l l a b := ⟨rfl, fun _ _ => rfl, h, fun q x h1 h2 e => ⟨q, h1, h2, e⟩, fun q x h1 h2 e => ⟨q, h1, h2, e⟩⟩
theorem Srt.small {l : List α} {a b : Nat} (h : b ≤ a + 1) : Srt le l a b := fun i j x y k1 k2 k3 => by omega
/-- A list that was rotated within a and b, and is sorted then. -/
theorem Srtd.of_rot {l l' : List α} {a b s m e : Nat} (hp : Pm l l' (rot s m e)) (h1 : a ≤ s) (h2 : s ≤ m) (h3 : m ≤ e) (h4 : e ≤ b) (hb : b ≤ l.length) (hs : Srt le l' a b) : Srtd le l l' a b := by
  refine ⟨hp.1, fun q hq => ?_, hs, fun q x k1 k2 ex => ?_, fun q x k1 k2 ex => ?_⟩
  · rcases Nat.lt_or_ge q l.length with h | h
    · rw [hp.2 q h]
      have : rot s m e q = q := by unfold rot; (repeat' split) <;> omega
      rw [this]
    · rw [List.getElem?_eq_none (by rw [hp.1]; exact h), List.getElem?_eq_none h]
  · rw [hp.2 q (by omega)] at ex
    refine ⟨_, ?_, ?_, ex⟩ <;> (unfold rot; repeat' split) <;> omega
  · refine ⟨if s ≤ q ∧ q < m then q + (e - m) else if m ≤ q ∧ q < e then q - (m - s) else q, ?_, ?_, ?_⟩
    · (repeat' split) <;> omega
    · (repeat' split) <;> omega
    · rw [hp.2 _ (by (repeat' split) <;> omega)]
      rw [← ex]
      congr 1
      unfold rot
      (repeat' split) <;> omega
theorem get_ex {l : List α} {i : Nat} (h : i < l.length) : ∃ x, l[i]? = some x := ⟨l[i], by simp [h]⟩
/-- The first thing of a piece goes in among the sorted rest. -/
theorem ins_up (tr : ∀ x y z, le x y → le y z → le x z) {l l' : List α} {a i b : Nat} (hab : a < b) (hb : b ≤ l.length) (hs : Srt le l (a + 1) b) (h1 : a + 1 ≤ i) (h2 : i ≤ b)
    (hlo : i = a + 1 ∨ ∀ x y, l[i - 1]? = some x → l[a]? = some y → le x y) (hhi : i = b ∨ ∀ x y, l[a]? = some x → l[i]? = some y → le x y) (hp : Pm l l' (rot a (a + 1) i)) : Srtd le l l' a b := by
  refine Srtd.of_rot hp (Nat.le_refl _) (by omega) h1 h2 hb ?_
  obtain ⟨v, hv⟩ := get_ex (l := l) (i := a) (by omega)
  have low : ∀ q x, a + 1 ≤ q → q < i → l[q]? = some x → le x v := fun q x k1 k2 e => by
    rcases hlo with h | h
    · omega
    · rcases Nat.lt_or_ge q (i - 1) with k | k
      · obtain ⟨u, hu⟩ := get_ex (l := l) (i := i - 1) (by omega)
        exact tr _ _ _ (hs q (i - 1) x u k1 k (by omega) e hu) (h u v hu hv)
      · have : q = i - 1 := by omega
        subst this
        exact h x v e hv
  have high : ∀ q x, i ≤ q → q < b → l[q]? = some x → le v x := fun q x k1 k2 e => by
    rcases hhi with h | h
    · omega
    · rcases Nat.lt_or_ge i q with k | k
      · obtain ⟨u, hu⟩ := get_ex (l := l) (i := i) (by omega)
        exact tr _ _ _ (h v u hv hu) (hs i q u x h1 k k2 hu e)
      · have : q = i := by omega
        subst this
        exact h v x hv e
  intro p q x y k1 k2 k3 e1 e2
  rw [hp.2 p (by omega)] at e1
  rw [hp.2 q (by omega)] at e2
  have ep : rot a (a + 1) i p = if p < i - 1 then p + 1 else if p = i - 1 then a else p := by unfold rot; (repeat' split) <;> omega
  have eq : rot a (a + 1) i q = if q < i - 1 then q + 1 else if q = i - 1 then a else q := by unfold rot; (repeat' split) <;> omega
  rw [ep] at e1
  rw [eq] at e2
  by_cases c1 : p < i - 1
  · rw [if_pos c1] at e1
    by_cases c2 : q < i - 1
    · rw [if_pos c2] at e2
      exact hs _ _ _ _ (by omega) (by omega) (by omega) e1 e2
    · rw [if_neg c2] at e2
      by_cases c3 : q = i - 1
      · rw [if_pos c3, hv] at e2; cases e2
        exact low _ _ (by omega) (by omega) e1
      · rw [if_neg c3] at e2
        exact tr _ _ _ (low _ _ (by omega) (by omega) e1) (high _ _ (by omega) k3 e2)
  · rw [if_neg c1] at e1
    rw [if_neg (by omega), if_neg (by omega)] at e2
    by_cases c3 : p = i - 1
    · rw [if_pos c3, hv] at e1; cases e1
      exact high _ _ (by omega) k3 e2
    · rw [if_neg c3] at e1
      exact hs _ _ _ _ (by omega) k2 k3 e1 e2
/-- The last thing of a piece goes in among the sorted ones before. -/
theorem ins_down (tr : ∀ x y z, le x y → le y z → le x z) {l l' : List α} {a i m : Nat} (hb : m < l.length) (hs : Srt le l a m) (h1 : a ≤ i) (h2 : i ≤ m)
    (hlo : i = a ∨ ∀ x y, l[i - 1]? = some x → l[m]? = some y → le x y) (hhi : i = m ∨ ∀ x y, l[m]? = some x → l[i]? = some y → le x y) (hp : Pm l l' (rot i m (m + 1))) : Srtd le l l' a (m + 1) := by
  refine Srtd.of_rot hp h1 h2 (by omega) (Nat.le_refl _) (by omega) ?_
  obtain ⟨v, hv⟩ := get_ex (l := l) (i := m) hb
  have low : ∀ q x, a ≤ q → q < i → l[q]? = some x → le x v := fun q x k1 k2 e => by
    rcases hlo with h | h
    · omega
    · rcases Nat.lt_or_ge q (i - 1) with k | k
      · obtain ⟨u, hu⟩ := get_ex (l := l) (i := i - 1) (by omega)
        exact tr _ _ _ (hs q (i - 1) x u k1 k (by omega) e hu) (h u v hu hv)
      · have : q = i - 1 := by omega
        subst this
        exact h x v e hv
  have high : ∀ q x, i ≤ q → q < m → l[q]? = some x → le v x := fun q x k1 k2 e => by
    rcases hhi with h | h
    · omega
    · rcases Nat.lt_or_ge i q with k | k
      · obtain ⟨u, hu⟩ := get_ex (l := l) (i := i) (by omega)
        exact tr _ _ _ (h v u hv hu) (hs i q u x h1 k k2 hu e)
      · have : q = i := by omega
        subst this
        exact h v x hv e
  intro p q x y k1 k2 k3 e1 e2
  rw [hp.2 p (by omega)] at e1
  rw [hp.2 q (by omega)] at e2
  have ep : ∀ p, p < m + 1 → rot i m (m + 1) p = if p < i then p else if p = i then m else p - 1 := fun p hp => by unfold rot; (repeat' split) <;> omega
  rw [ep p (by omega)] at e1
  rw [ep q (by omega)] at e2
  by_cases c1 : p < i
  · rw [if_pos c1] at e1
    by_cases c2 : q < i
    · rw [if_pos c2] at e2
      exact hs _ _ _ _ k1 k2 (by omega) e1 e2
    · rw [if_neg c2] at e2
      by_cases c3 : q = i
      · rw [if_pos c3, hv] at e2; cases e2
        exact low _ _ k1 c1 e1
      · rw [if_neg c3] at e2
        exact tr _ _ _ (low _ _ k1 c1 e1) (high _ _ (by omega) (by omega) e2)
  · rw [if_neg c1] at e1
    rw [if_neg (by omega), if_neg (by omega)] at e2
    by_cases c3 : p = i
    · rw [if_pos c3, hv] at e1; cases e1
      exact high _ _ (by omega) (by omega) e2
    · rw [if_neg c3] at e1
      exact hs _ _ _ _ (by omega) (by omega) (by omega) e1 e2
/-- The merging's step: behind the rotation all to the left of the middle comes first; then both sides are merged. -/
theorem mrg (tr : ∀ x y z, le x y → le y z → le x z) {l l1 l2 l3 : List α} {a s m e b mid : Nat} (hb : b ≤ l.length) (h1 : a ≤ s) (h2 : s ≤ m) (h3 : m ≤ e) (h4 : e ≤ b) (hmid : s + e = mid + m)
    (hsA : Srt le l a m) (hsB : Srt le l m b)
    (hlo : s = a ∨ e = b ∨ ∀ x y, l[s - 1]? = some x → l[e]? = some y → le x y) (hhi : s = m ∨ e = m ∨ ∀ x y, l[e - 1]? = some x → l[s]? = some y → le x y)
    (hp : Pm l l1 (rot s m e)) (hL : Srt le l1 a s → Srt le l1 s mid → Srtd le l1 l2 a mid) (hR : Srt le l2 mid e → Srt le l2 e b → Srtd le l2 l3 mid b) : Srtd le l l3 a b := by
  have g1 : ∀ q, q < s → l1[q]? = l[q]? := fun q hq => by
    rw [hp.2 q (by omega)]; congr 1; unfold rot; (repeat' split) <;> omega
  have g2 : ∀ q, s ≤ q → q < mid → l1[q]? = l[q + (m - s)]? := fun q hq hq2 => by
    rw [hp.2 q (by omega)]; congr 1; unfold rot; (repeat' split) <;> omega
  have g3 : ∀ q, mid ≤ q → q < e → l1[q]? = l[q - (e - m)]? := fun q hq hq2 => by
    rw [hp.2 q (by omega)]; congr 1; unfold rot; (repeat' split) <;> omega
  have g4 : ∀ q, e ≤ q → q < b → l1[q]? = l[q]? := fun q hq hq2 => by
    rw [hp.2 q (by omega)]; congr 1; unfold rot; (repeat' split) <;> omega
  have dL := hL (fun i j x y k1 k2 k3 e1 e2 => hsA i j x y k1 k2 (by omega) (by rw [← g1 i (by omega)]; exact e1) (by rw [← g1 j k3]; exact e2))
    (fun i j x y k1 k2 k3 e1 e2 => hsB (i + (m - s)) (j + (m - s)) x y (by omega) (by omega) (by omega) (by rw [← g2 i k1 (by omega)]; exact e1) (by rw [← g2 j (by omega) k3]; exact e2))
  have dR := hR (fun i j x y k1 k2 k3 e1 e2 => hsA (i - (e - m)) (j - (e - m)) x y (by omega) (by omega) (by omega) (by rw [← g3 i k1 (by omega), ← dL.out i (.inr k1)]; exact e1) (by rw [← g3 j (by omega) k3, ← dL.out j (.inr (by omega))]; exact e2))
    (fun i j x y k1 k2 k3 e1 e2 => hsB i j x y (by omega) k2 k3 (by rw [← g4 i k1 (by omega), ← dL.out i (.inr (by omega))]; exact e1) (by rw [← g4 j (by omega) k3, ← dL.out j (.inr (by omega))]; exact e2))
  have hl1 : l1.length = l.length := hp.1
  -- what lies on the left is not greater than what lies on the right
  have cA : ∀ i j x y, a ≤ i → i < s → e ≤ j → j < b → l[i]? = some x → l[j]? = some y → le x y := fun i j x y k1 k2 k3 k4 e1 e2 => by
    rcases hlo with h | h | h
    · omega
    · omega
    · obtain ⟨u, hu⟩ := get_ex (l := l) (i := s - 1) (by omega)
      obtain ⟨v, hv⟩ := get_ex (l := l) (i := e) (by omega)
      have m1 := h u v hu hv
      have m2 : le x v := by
        rcases Nat.lt_or_ge i (s - 1) with k | k
        · exact tr _ _ _ (hsA i (s - 1) x u k1 k (by omega) e1 hu) m1
        · have : i = s - 1 := by omega
          subst this; rw [hu] at e1; cases e1; exact m1
      rcases Nat.lt_or_ge e j with k | k
      · exact tr _ _ _ m2 (hsB e j v y h3 k k4 hv e2)
      · have : j = e := by omega
        subst this; rw [hv] at e2; cases e2; exact m2
  have cB : ∀ i j x y, m ≤ i → i < e → s ≤ j → j < m → l[i]? = some x → l[j]? = some y → le x y := fun i j x y k1 k2 k3 k4 e1 e2 => by
    rcases hhi with h | h | h
    · omega
    · omega
    · obtain ⟨u, hu⟩ := get_ex (l := l) (i := e - 1) (by omega)
      obtain ⟨v, hv⟩ := get_ex (l := l) (i := s) (by omega)
      have m1 := h u v hu hv
      have m2 : le x v := by
        rcases Nat.lt_or_ge i (e - 1) with k | k
        · exact tr _ _ _ (hsB i (e - 1) x u k1 k (by omega) e1 hu) m1
        · have : i = e - 1 := by omega
          subst this; rw [hu] at e1; cases e1; exact m1
      rcases Nat.lt_or_ge s j with k | k
      · exact tr _ _ _ m2 (hsA s j v y h1 k k4 hv e2)
      · have : j = s := by omega
        subst this; rw [hv] at e2; cases e2; exact m2
  have cross : ∀ i j x y, a ≤ i → i < mid → mid ≤ j → j < b → l1[i]? = some x → l1[j]? = some y → le x y := fun i j x y k1 k2 k3 k4 e1 e2 => by
    rcases Nat.lt_or_ge i s with k | k
    · rw [g1 i k] at e1
      rcases Nat.lt_or_ge j e with k' | k'
      · rw [g3 j k3 k'] at e2
        exact hsA i (j - (e - m)) x y k1 (by omega) (by omega) e1 e2
      · rw [g4 j k' k4] at e2
        exact cA i j x y k1 k k' k4 e1 e2
    · rw [g2 i k k2] at e1
      rcases Nat.lt_or_ge j e with k' | k'
      · rw [g3 j k3 k'] at e2
        exact cB _ _ x y (by omega) (by omega) (by omega) (by omega) e1 e2
      · rw [g4 j k' k4] at e2
        exact hsB _ _ x y (by omega) (by omega) k4 e1 e2
  have mem1 : Srtd (fun _ _ => True) l l1 a b := Srtd.of_rot hp h1 h2 h3 h4 hb (fun _ _ _ _ _ _ _ _ _ => trivial)
  refine ⟨by rw [dR.len, dL.len, hl1], fun q hq => ?_, fun i j x y k1 k2 k3 e1 e2 => ?_, fun q x k1 k2 ex => ?_, fun q x k1 k2 ex => ?_⟩
  · rw [dR.out q (by omega), dL.out q (by omega), mem1.out q hq]
  · rcases Nat.lt_or_ge j mid with kj | kj
    · rw [dR.out i (.inl (by omega))] at e1
      rw [dR.out j (.inl kj)] at e2
      exact dL.srt i j x y k1 k2 kj e1 e2
    · rcases Nat.lt_or_ge i mid with ki | ki
      · rw [dR.out i (.inl ki)] at e1
        obtain ⟨r, r1, r2, r3⟩ := dL.mem i x k1 ki e1
        obtain ⟨t, t1, t2, t3⟩ := dR.mem j y kj k3 e2
        rw [dL.out t (.inr t1)] at t3
        exact cross r t x y r1 r2 t1 t2 r3 t3
      · exact dR.srt i j x y ki k2 k3 e1 e2
  · have : ∃ r, a ≤ r ∧ r < b ∧ l1[r]? = some x := by
      rcases Nat.lt_or_ge q mid with k | k
      · rw [dR.out q (.inl k)] at ex
        obtain ⟨r, r1, r2, r3⟩ := dL.mem q x k1 k ex
        exact ⟨r, r1, by omega, r3⟩
      · obtain ⟨r, r1, r2, r3⟩ := dR.mem q x k k2 ex
        exact ⟨r, by omega, r2, by rw [← dL.out r (.inr r1)]; exact r3⟩
    obtain ⟨r, r1, r2, r3⟩ := this
    exact mem1.mem r x r1 r2 r3
  · obtain ⟨r, r1, r2, r3⟩ := mem1.mem' q x k1 k2 ex
    rcases Nat.lt_or_ge r mid with k | k
    · obtain ⟨t, t1, t2, t3⟩ := dL.mem' r x r1 k r3
      exact ⟨t, t1, by omega, by rw [dR.out t (.inl t2)]; exact t3⟩
    · rw [← dL.out r (.inr k)] at r3
      obtain ⟨t, t1, t2, t3⟩ := dR.mem' r x k r2 r3
      exact ⟨t, by omega, t2, t3⟩
theorem rot_srt {l l1 : List α} {a s m e b mid : Nat} (hb : b ≤ l.length) (h1 : a ≤ s) (h2 : s ≤ m) (h3 : m ≤ e) (h4 : e ≤ b) (hmid : s + e = mid + m) (hsA : Srt le l a m) (hsB : Srt le l m b) (hp : Pm l l1 (rot s m e)) :
    Srt le l1 a s ∧ Srt le l1 s mid ∧ Srt le l1 mid e ∧ Srt le l1 e b := by
  have g1 : ∀ q, q < s → l1[q]? = l[q]? := fun q hq => by
    rw [hp.2 q (by omega)]; congr 1; unfold rot; (repeat' split) <;> omega
  have g2 : ∀ q, s ≤ q → q < mid → l1[q]? = l[q + (m - s)]? := fun q hq hq2 => by
    rw [hp.2 q (by omega)]; congr 1; unfold rot; (repeat' split) <;> omega
  have g3 : ∀ q, mid ≤ q → q < e → l1[q]? = l[q - (e - m)]? := fun q hq hq2 => by
    rw [hp.2 q (by omega)]; congr 1; unfold rot; (repeat' split) <;> omega
  have g4 : ∀ q, e ≤ q → q < b → l1[q]? = l[q]? := fun q hq hq2 => by
    rw [hp.2 q (by omega)]; congr 1; unfold rot; (repeat' split) <;> omega
  exact ⟨fun i j x y k1 k2 k3 e1 e2 => hsA i j x y k1 k2 (by omega) (by rw [← g1 i (by omega)]; exact e1) (by rw [← g1 j k3]; exact e2),
    fun i j x y k1 k2 k3 e1 e2 => hsB (i + (m - s)) (j + (m - s)) x y (by omega) (by omega) (by omega) (by rw [← g2 i k1 (by omega)]; exact e1) (by rw [← g2 j (by omega) k3]; exact e2),
    fun i j x y k1 k2 k3 e1 e2 => hsA (i - (e - m)) (j - (e - m)) x y (by omega) (by omega) (by omega) (by rw [← g3 i k1 (by omega)]; exact e1) (by rw [← g3 j (by omega) k3]; exact e2),
    fun i j x y k1 k2 k3 e1 e2 => hsB i j x y (by omega) k2 k3 (by rw [← g4 i k1 (by omega)]; exact e1) (by rw [← g4 j (by omega) k3]; exact e2)⟩
theorem Srtd.comp {l m k : List α} {a i b : Nat} (h : Srtd le l m a i) (g : Srtd le m k a b) (hib : i ≤ b) (hai : a ≤ i) : Srtd le l k a b := by
  refine ⟨g.len.trans h.len, fun q hq => (g.out q hq).trans (h.out q (by omega)), g.srt, fun q x h1 h2 e => ?_, fun q x h1 h2 e => ?_⟩
  · obtain ⟨r, r1, r2, r3⟩ := g.mem q x h1 h2 e
    rcases Nat.lt_or_ge r i with c | c
    · obtain ⟨u, u1, u2, u3⟩ := h.mem r x r1 c r3
      exact ⟨u, u1, by omega, u3⟩
    · exact ⟨r, r1, r2, by rw [← h.out r (.inr c)]; exact r3⟩
  · rcases Nat.lt_or_ge q i with c | c
    · obtain ⟨r, r1, r2, r3⟩ := h.mem' q x h1 c e
      exact g.mem' r x r1 (by omega) r3
    · exact g.mem' q x h1 h2 (by rw [h.out q (.inr c)]; exact e)
theorem Srtd.wide {l m : List α} {a b a' b' : Nat} (h : Srtd le l m a b) (h1 : a' ≤ a) (h2 : b ≤ b') : Srtd (fun _ _ => True) l m a' b' := by
  refine ⟨h.len, fun q hq => h.out q (by omega), fun _ _ _ _ _ _ _ _ _ => trivial, fun q x k1 k2 e => ?_, fun q x k1 k2 e => ?_⟩
  · by_cases c : a ≤ q ∧ q < b
    · obtain ⟨r, r1, r2, r3⟩ := h.mem q x c.1 c.2 e
      exact ⟨r, by omega, by omega, r3⟩
    · exact ⟨q, k1, k2, by rw [← h.out q (by omega)]; exact e⟩
  · by_cases c : a ≤ q ∧ q < b
    · obtain ⟨r, r1, r2, r3⟩ := h.mem' q x c.1 c.2 e
      exact ⟨r, by omega, by omega, r3⟩
    · exact ⟨q, k1, k2, by rw [h.out q (by omega)]; exact e⟩
theorem Srtd.of_true {l m : List α} {a b : Nat} (h : Srtd (fun _ _ => True) l m a b) (hs : Srt le m a b) : Srtd le l m a b := ⟨h.len, h.out, hs, h.mem, h.mem'⟩
theorem Srtd.after {l m k : List α} {a b : Nat} (h : Srtd (fun _ _ => True) l m a b) (g : Srtd le m k a b) : Srtd le l k a b := by
  refine ⟨g.len.trans h.len, fun q hq => (g.out q hq).trans (h.out q hq), g.srt, fun q x h1 h2 e => ?_, fun q x h1 h2 e => ?_⟩
  · obtain ⟨r, r1, r2, r3⟩ := g.mem q x h1 h2 e
    exact h.mem r x r1 r2 r3
  · obtain ⟨r, r1, r2, r3⟩ := h.mem' q x h1 h2 e
    exact g.mem' r x r1 r2 r3
theorem Pm.mem {l m : List α} {p : Nat → Nat} (h : Pm l m p) : ∀ x ∈ m, x ∈ l := fun x hx => by
  obtain ⟨q, hq, rfl⟩ := List.getElem_of_mem hx
  have := h.2 q (by rw [← h.1]; exact hq)
  rw [List.getElem?_eq_getElem hq] at this
  exact List.mem_of_getElem? this.symm
theorem Srtd.sub {l m : List α} {a b : Nat} (h : Srtd le l m a b) : ∀ x ∈ m, x ∈ l := fun x hx => by
  obtain ⟨q, hq, rfl⟩ := List.getElem_of_mem hx
  have e : m[q]? = some m[q] := List.getElem?_eq_getElem hq
  by_cases c : a ≤ q ∧ q < b
  · obtain ⟨r, _, _, r3⟩ := h.mem q _ c.1 c.2 e
    exact List.mem_of_getElem? r3
  · rw [h.out q (by omega)] at e
    exact List.mem_of_getElem? e
end srt
end Go.Aw

