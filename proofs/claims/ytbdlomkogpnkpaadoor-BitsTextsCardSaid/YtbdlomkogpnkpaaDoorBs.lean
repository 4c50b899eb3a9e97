/-
  Fields of bits, plain: runs.
-/
import Derived.Test.YtbdlomkogpnkpaaDoorBr
set_option linter.unusedVariables false
namespace Go.Aw
def setR (b : List Bool) (lo hi : Nat) : List Bool := (List.range b.length).map fun i => b.getD i false || (decide (lo ≤ i) && decide (i < hi))
theorem setR_len (b : List Bool) (lo hi : Nat) : (setR b lo hi).length = b.length := by simp [setR]
theorem setR_get (b : List Bool) (lo hi i : Nat) (h : i < b.length) : (setR b lo hi).getD i false = (b.getD i false || (decide (lo ≤ i) && decide (i < hi))) := by
  unfold setR; exact mapR_get _ (fun i => b.getD i false || (decide (lo ≤ i) && decide (i < hi))) i h
theorem setR_same (b : List Bool) (lo : Nat) : setR b lo lo = b := by
  apply List.ext_getElem (setR_len _ _ _)
  intro i h1 h2
  have := setR_get b lo lo i h2
  rw [List.getD_eq_getElem?_getD, List.getD_eq_getElem?_getD, List.getElem?_eq_getElem h1, List.getElem?_eq_getElem h2] at this
  have hx : (decide (lo ≤ i) && decide (i < lo)) = false := by simp
  rw [hx] at this
  simpa using this
theorem setR_succ (b : List Bool) (lo hi : Nat) (h : lo ≤ hi) (hb : hi < b.length) : (setR b lo hi).set hi true = setR b lo (hi + 1) := by
  apply List.ext_getElem (by simp [setR_len])
  intro i h1 h2
  rw [setR_len] at h2
  have e1 := setR_get b lo hi i h2
  have e2 := setR_get b lo (hi + 1) i h2
  rw [List.getD_eq_getElem?_getD, List.getElem?_eq_getElem (by rw [setR_len]; exact h2)] at e1 e2
  simp only [Option.getD_some] at e1 e2
  rw [e2]
  by_cases e : i = hi
  · subst e
    rw [List.getElem_set_self]; simp [h]
  · rw [List.getElem_set_ne (Ne.symm e), e1]
    congr 2
    rw [Bool.eq_iff_iff]; simp; omega
/-- Runs, one after the other: the error that comes first, or the truths. -/
def frR (n : Nat) : List (Int × Int) → Int → List Bool → Int × List Bool
  | [], _, b => (0, b)
  | (f, c) :: r, e, b => if c < 1 ∨ f < 0 ∨ (n : Int) < f ∨ (n : Int) - f < c then (7, []) else if f < e then (6, []) else frR n r (f + c) (setR b f.toNat (f + c).toNat)
def frV (n : Nat) (l : List (Int × Int)) : List UInt8 × Int := let r := frR n l 0 (List.replicate n false); (if r.1 = 0 then fieldL r.2 else [], r.1)
theorem frR_step {n : Nat} {l : List (Int × Int)} {k : Nat} (hk : k < l.length) (e : Int) (b : List Bool) {f c : Int} (hp : l[k] = (f, c)) : frR n (l.drop k) e b = if c < 1 ∨ f < 0 ∨ (n : Int) < f ∨ (n : Int) - f < c then (7, []) else if f < e then (6, []) else frR n (l.drop (k + 1)) (f + c) (setR b f.toNat (f + c).toNat) := by
  rw [List.drop_eq_getElem_cons hk, hp]; rfl
/-- Runs that lie apart, in order, below a bound. -/
structure RunInv (B : Nat) (r : List (Nat × Nat)) : Prop where
  pos : ∀ p ∈ r, 1 ≤ p.2
  below : ∀ p ∈ r, p.1 + p.2 ≤ B
  apart : r.Pairwise fun p q => p.1 + p.2 ≤ q.1
def cover (r : List (Nat × Nat)) (i : Nat) : Prop := ∃ p ∈ r, p.1 ≤ i ∧ i < p.1 + p.2
theorem RunInv.app {B : Nat} {r : List (Nat × Nat)} (h : RunInv B r) {i : Nat} (hi : B ≤ i) : RunInv (i + 1) (r ++ [(i, 1)]) where
  pos p hp := by
    rcases List.mem_append.1 hp with hp | hp
    · exact h.pos p hp
    · simp at hp; subst hp; exact Nat.le_refl _
  below p hp := by
    rcases List.mem_append.1 hp with hp | hp
    · have := h.below p hp; omega
    · simp at hp; subst hp; exact Nat.le_refl _
  apart := by
    rw [List.pairwise_append]
    exact ⟨h.apart, List.pairwise_singleton _ _, fun p hp q hq => by simp at hq; subst hq; have := h.below p hp; exact Nat.le_trans this hi⟩
theorem cover_app (r : List (Nat × Nat)) (i j : Nat) : cover (r ++ [(i, 1)]) j ↔ cover r j ∨ j = i := by
  unfold cover
  constructor
  · rintro ⟨p, hp, h1, h2⟩
    rcases List.mem_append.1 hp with hp | hp
    · exact .inl ⟨p, hp, h1, h2⟩
    · simp at hp; subst hp; exact .inr (by simp at h1 h2; omega)
  · rintro (⟨p, hp, h⟩ | rfl)
    · exact ⟨p, List.mem_append_left _ hp, h⟩
    · exact ⟨(j, 1), by simp, Nat.le_refl _, by simp⟩
theorem runsF_inv {B : Nat} {r : List (Nat × Nat)} (h : RunInv B r) {i : Nat} (hi : B ≤ i) : RunInv (i + 1) (runsF r i) ∧ ∀ j, cover (runsF r i) j ↔ cover r j ∨ j = i := by
  unfold runsF
  rcases List.eq_nil_or_concat r with rfl | ⟨q, p, rfl⟩
  · exact ⟨h.app hi, fun j => cover_app _ _ _⟩
  · rw [List.concat_eq_append] at *
    have hg : (q ++ [p])[(q ++ [p]).length - 1]? = some p := by simp
    rw [hg]
    simp only
    split
    · rename_i e
      have hset : (q ++ [p]).set ((q ++ [p]).length - 1) (p.1, p.2 + 1) = q ++ [(p.1, p.2 + 1)] := by simp
      rw [hset]
      have ha := List.pairwise_append.1 h.apart
      refine ⟨⟨fun x hx => ?_, fun x hx => ?_, ?_⟩, fun j => ?_⟩
      · rcases List.mem_append.1 hx with hx | hx
        · exact h.pos x (List.mem_append_left _ hx)
        · simp at hx; subst hx; simp
      · rcases List.mem_append.1 hx with hx | hx
        · have := h.below x (List.mem_append_left _ hx); omega
        · simp at hx; subst hx; simp; omega
      · rw [List.pairwise_append]
        exact ⟨ha.1, List.pairwise_singleton _ _, fun x hx y hy => by simp at hy; subst hy; exact ha.2.2 x hx p (by simp)⟩
      · unfold cover
        constructor
        · rintro ⟨x, hx, h1, h2⟩
          rcases List.mem_append.1 hx with hx | hx
          · exact .inl ⟨x, List.mem_append_left _ hx, h1, h2⟩
          · simp at hx; subst hx
            simp only at h1 h2
            by_cases hj : j = i
            · exact .inr hj
            · exact .inl ⟨p, by simp, h1, by omega⟩
        · rintro (⟨x, hx, h1, h2⟩ | rfl)
          · rcases List.mem_append.1 hx with hx | hx
            · exact ⟨x, List.mem_append_left _ hx, h1, h2⟩
            · simp at hx; subst hx
              exact ⟨(x.1, x.2 + 1), by simp, h1, by simp only; omega⟩
          · exact ⟨(p.1, p.2 + 1), by simp, by simp only; omega, by simp only; omega⟩
    · exact ⟨h.app hi, fun j => cover_app _ _ _⟩
theorem runs_inv : ∀ (l : List Nat) (B : Nat) (r : List (Nat × Nat)), RunInv B r → l.Pairwise (· < ·) → (∀ i ∈ l, B ≤ i) → ∀ N, B ≤ N → (∀ i ∈ l, i < N) → RunInv N (l.foldl runsF r) ∧ ∀ j, cover (l.foldl runsF r) j ↔ cover r j ∨ j ∈ l
  | [], B, r, h, _, _, N, hN, _ => ⟨⟨h.pos, fun p hp => Nat.le_trans (h.below p hp) hN, h.apart⟩, fun j => by simp⟩
  | i :: l, B, r, h, hp, hB, N, hN, hl => by
    obtain ⟨h1, h2⟩ := runsF_inv h (hB i (by simp))
    have hp' := List.pairwise_cons.1 hp
    obtain ⟨g1, g2⟩ := runs_inv l (i + 1) (runsF r i) h1 hp'.2 (fun j hj => hp'.1 j hj) N (hl i (by simp)) (fun j hj => hl j (by simp [hj]))
    refine ⟨g1, fun j => ?_⟩
    rw [List.foldl_cons, g2 j, h2 j]
    simp [or_assoc]
theorem runsL_inv {n : Nat} {l : List Nat} (hp : l.Pairwise (· < ·)) (hl : ∀ i ∈ l, i < n) : RunInv n (runsL l) ∧ ∀ j, cover (runsL l) j ↔ j ∈ l := by
  obtain ⟨h1, h2⟩ := runs_inv l 0 [] ⟨fun p hp => (by cases hp), fun p hp => (by cases hp), List.Pairwise.nil⟩ hp (fun _ _ => Nat.zero_le _) n (Nat.zero_le _) hl
  refine ⟨h1, fun j => ?_⟩
  rw [show runsL l = l.foldl runsF [] from rfl, h2 j]
  simp [cover]
def castR (r : List (Nat × Nat)) : List (Int × Int) := r.map fun p => (((p.1 : Nat) : Int), ((p.2 : Nat) : Int))
theorem frR_runs {n : Nat} : ∀ (r : List (Nat × Nat)) (e : Nat) (b : List Bool), b.length = n → RunInv n r → (∀ p ∈ r, e ≤ p.1) →
    ∃ b2, frR n (castR r) (e : Nat) b = (0, b2) ∧ b2.length = n ∧ ∀ i, i < n → (b2.getD i false = true ↔ b.getD i false = true ∨ cover r i)
  | [], e, b, hb, _, _ => ⟨b, rfl, hb, fun i _ => by simp [cover]⟩
  | (f, c) :: r, e, b, hb, h, he => by
    have hc := h.pos (f, c) (by simp)
    have hfc := h.below (f, c) (by simp)
    simp only at hc hfc
    have ha := List.pairwise_cons.1 h.apart
    have hef := he (f, c) (by simp)
    simp only at hef
    obtain ⟨b2, h1, h2, h3⟩ := frR_runs r (f + c) (setR b f (f + c)) (by rw [setR_len, hb]) ⟨fun p hp => h.pos p (by simp [hp]), fun p hp => h.below p (by simp [hp]), ha.2⟩ (fun p hp => ha.1 p hp)
    refine ⟨b2, ?_, h2, fun i hi => ?_⟩
    · simp only [castR, List.map_cons, frR]
      rw [if_neg (by omega), if_neg (by omega), Int.toNat_natCast]
      rw [show ((f : Int) + (c : Int)).toNat = f + c by omega, show (f : Int) + (c : Int) = ((f + c : Nat) : Int) by omega]
      exact h1
    · rw [h3 i hi, setR_get b f (f + c) i (by rw [hb]; exact hi)]
      unfold cover
      simp [or_assoc]
theorem frV_runs {n : Nat} {s : List UInt8} (hv : validB n s) : frV n (castR (runsL (listB n s))) = (s, 0) := by
  have hm : ∀ i, i ∈ listB n s ↔ i < n ∧ bitAt s i = true := fun i => by simp [listB]
  obtain ⟨h1, h2⟩ := runsL_inv (n := n) (l := listB n s) (List.Pairwise.filter _ List.pairwise_lt_range) (fun i hi => ((hm i).1 hi).1)
  obtain ⟨b2, e1, e2, e3⟩ := frR_runs (runsL (listB n s)) 0 (List.replicate n false) (by simp) h1 (fun _ _ => Nat.zero_le _)
  have e1' : frR n (castR (runsL (listB n s))) 0 (List.replicate n false) = (0, b2) := e1
  unfold frV
  rw [e1']
  simp only [if_true, Prod.mk.injEq, and_true]
  symm
  refine field_of hv e2 fun i hi => ?_
  have e : (List.replicate n false).getD i false = false := by simp [List.getElem?_replicate]; split <;> rfl
  have := e3 i hi
  rw [e, h2 i, hm i] at this
  rw [Bool.eq_iff_iff, this]
  simp [hi]
end Go.Aw
