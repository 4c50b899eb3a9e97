/-
  Fields of bits, plain: lists that are turned one by one; lists of numbers; runs.
-/
import Derived.Test.YtbdlomkogpnkpaaDoorBp
set_option linter.unusedVariables false
namespace Go.Aw
def upF {α : Type} (g h : Nat → α) (n k : Nat) : List α := (List.range n).map fun i => if i < k then g i else h i
theorem upF_len {α : Type} (g h : Nat → α) (n k : Nat) : (upF g h n k).length = n := by simp [upF]
theorem upF_get {α : Type} (g h : Nat → α) (n k : Nat) (hk : k < n) : (upF g h n k)[k]? = some (h k) := by
  unfold upF; rw [List.getElem?_map, List.getElem?_range hk]; simp
theorem upF_set {α : Type} (g h : Nat → α) (n k : Nat) (hk : k < n) : (upF g h n k).set k (g k) = upF g h n (k + 1) := by
  unfold upF
  apply List.ext_getElem?
  intro j
  by_cases hj : j < n
  · by_cases e : j = k
    · subst e
      rw [List.getElem?_set_self (by simp; exact hj), List.getElem?_map, List.getElem?_range hj]; simp
    · rw [List.getElem?_set_ne (Ne.symm e), List.getElem?_map, List.getElem?_map, List.getElem?_range hj]
      simp only [Option.map_some]
      congr 1
      by_cases h1 : j < k
      · rw [if_pos h1, if_pos (by omega)]
      · rw [if_neg h1, if_neg (by omega)]
  · rw [List.getElem?_eq_none (by simp; omega), List.getElem?_eq_none (by simp; omega)]
theorem upF_zero {α : Type} (g h : Nat → α) (n : Nat) : upF g h n 0 = (List.range n).map h := by simp [upF]
theorem upF_all {α : Type} (g h : Nat → α) (n : Nat) : upF g h n n = (List.range n).map g := by
  unfold upF
  apply List.map_congr_left
  intro j hj
  rw [if_pos (List.mem_range.1 hj)]
theorem setB_field {l : List Bool} {i : Nat} (h : i < l.length) (b : Bool) : setB (fieldL l) i b = fieldL (l.set i b) := by
  have hv := field_valid l
  have h1 := setB_valid hv h b
  rw [← field_truths h1, truths_setB hv h, truths_field rfl]
theorem zerosB_field (n : Nat) : zerosB n = fieldL (List.replicate n false) := by
  have h := field_truths (zerosB_valid n)
  rw [← h]
  congr 1
  apply List.ext_getElem (by simp [truths])
  intro i h1 h2
  simp [truths, zerosB, bitAt_zeros]
theorem truths_map (n : Nat) (s : List UInt8) : truths n s = (List.range n).map (bitAt s) := rfl
def fullL (n : Nat) : List Bool := List.replicate n true
theorem range_const {α : Type} (n : Nat) (b : α) : (List.range n).map (fun _ => b) = List.replicate n b := by
  apply List.ext_getElem (by simp)
  intro i h1 h2
  simp
/-- Numbers, one after the other: the error that comes first, or the truths. -/
def ofR (n : Nat) : List Int → List Bool → Int × List Bool
  | [], b => (0, b)
  | i :: r, b => if i < 0 ∨ (n : Int) ≤ i then (7, []) else if b.getD i.toNat false = true then (6, []) else ofR n r (b.set i.toNat true)
def ofV (n : Nat) (l : List Int) : List UInt8 × Int := let r := ofR n l (List.replicate n false); (if r.1 = 0 then fieldL r.2 else [], r.1)
end Go.Aw
namespace Go.Aw
def runsC (r : List (Nat × Nat)) : List Value := r.flatMap fun p => [.int .i64 (p.1 : Nat), .int .i64 (p.2 : Nat)]
theorem runsC_length (r : List (Nat × Nat)) : (runsC r).length = r.length * 2 := by
  induction r with
  | nil => rfl
  | cons p r ih => simp only [runsC, List.flatMap_cons, List.length_append, List.length_cons, List.length_nil] at ih ⊢; omega
theorem runsC_scalar (r : List (Nat × Nat)) : (runsC r).all scalar = true := by simp [runsC, scalar]
theorem runsC_snoc (r : List (Nat × Nat)) (f c : Nat) : runsC r ++ [.int .i64 (f : Nat), .int .i64 (c : Nat)] = runsC (r ++ [(f, c)]) := by simp [runsC]
theorem runsC_ne {r : List (Nat × Nat)} (h : 0 < r.length) : runsC r ≠ [] := List.ne_nil_of_length_pos (by rw [runsC_length]; omega)
theorem runsC_get : ∀ (r : List (Nat × Nat)) (j f c : Nat), r[j]? = some (f, c) → (runsC r)[j * 2]? = some (.int .i64 (f : Nat)) ∧ (runsC r)[j * 2 + 1]? = some (.int .i64 (c : Nat))
  | [], j, f, c, h => by simp at h
  | p :: r, 0, f, c, h => by simp at h; subst h; exact ⟨rfl, rfl⟩
  | p :: r, j + 1, f, c, h => by
    have := runsC_get r j f c (by simpa using h)
    rw [show (j + 1) * 2 = j * 2 + 2 by omega]
    exact this
theorem runsC_set : ∀ (r : List (Nat × Nat)) (j f c : Nat) (k : Nat), r[j]? = some (f, c) → (runsC r).set (j * 2 + 1) (.int .i64 (k : Nat)) = runsC (r.set j (f, k))
  | [], j, f, c, k, h => by simp at h
  | p :: r, 0, f, c, k, h => by simp at h; subst h; rfl
  | p :: r, j + 1, f, c, k, h => by
    have := runsC_set r j f c k (by simpa using h)
    rw [show (j + 1) * 2 + 1 = (j * 2 + 1) + 2 by omega]
    simp only [runsC, List.flatMap_cons, List.set_cons_succ, List.cons_append, List.nil_append] at this ⊢
    rw [this]
/-- A number more, which is greater than all before. -/
def runsF (r : List (Nat × Nat)) (i : Nat) : List (Nat × Nat) :=
  match r[r.length - 1]? with
  | some p => if p.1 + p.2 = i then r.set (r.length - 1) (p.1, p.2 + 1) else r ++ [(i, 1)]
  | none => r ++ [(i, 1)]
def runsL (l : List Nat) : List (Nat × Nat) := l.foldl runsF []
theorem runsL_succ {l : List Nat} {m : Nat} (h : m < l.length) : runsL (l.take (m + 1)) = runsF (runsL (l.take m)) l[m] := by
  unfold runsL
  rw [List.take_add_one, List.getElem?_eq_getElem h, Option.toList, List.foldl_append]; rfl
def runsOk (B : Nat) (r : List (Nat × Nat)) : Prop := ∀ (j f c : Nat), r[j]? = some (f, c) → f + c ≤ B
theorem runsF_ok {B : Nat} {r : List (Nat × Nat)} (h : runsOk B r) {i : Nat} (hi : i < B) : runsOk B (runsF r i) := by
  unfold runsF
  have happ : runsOk B (r ++ [(i, 1)]) := by
    intro j f c e
    rcases Nat.lt_or_ge j r.length with h1 | h1
    · rw [List.getElem?_append_left h1] at e; exact h j f c e
    · rw [List.getElem?_append_right h1] at e
      rcases hj : j - r.length with _ | q
      · rw [hj] at e; simp at e; omega
      · rw [hj] at e; simp at e
  split
  · rename_i p hp
    split
    · rename_i hpe
      intro j f c e
      by_cases hj : j = r.length - 1
      · subst hj
        rw [List.getElem?_set_self (by have := (List.getElem?_eq_some_iff.1 hp).1; omega)] at e
        simp at e
        omega
      · rw [List.getElem?_set_ne (Ne.symm hj)] at e; exact h j f c e
    · exact happ
  · exact happ
theorem runsF_len (r : List (Nat × Nat)) (i : Nat) : (runsF r i).length ≤ r.length + 1 := by
  unfold runsF
  split
  · split <;> simp
  · simp
theorem runsL_len : ∀ (l : List Nat), (runsL l).length ≤ l.length := by
  intro l
  have key : ∀ (l : List Nat) (r : List (Nat × Nat)), (l.foldl runsF r).length ≤ r.length + l.length := by
    intro l
    induction l with
    | nil => intro r; simp
    | cons i l ih => intro r; have := ih (runsF r i); have := runsF_len r i; simp only [List.foldl_cons, List.length_cons] at *; omega
  have := key l []
  simpa [runsL] using this
end Go.Aw
namespace Go.Aw
theorem ofR_all {n : Nat} : ∀ (l : List Nat) (b : List Bool), b.length = n → (∀ i ∈ l, i < n) → l.Pairwise (· < ·) → (∀ i ∈ l, b.getD i false = false) →
    ofR n (l.map fun i => ((i : Nat) : Int)) b = (0, l.foldl (fun b i => b.set i true) b)
  | [], b, _, _, _, _ => rfl
  | i :: l, b, hb, hl, hp, hf => by
    simp only [List.map_cons, ofR, List.foldl_cons]
    have hi := hl i (by simp)
    rw [if_neg (by omega), Int.toNat_natCast, hf i (by simp), if_neg (by simp)]
    have hp' := List.pairwise_cons.1 hp
    refine ofR_all l (b.set i true) (by simp [hb]) (fun j hj => hl j (by simp [hj])) hp'.2 (fun j hj => ?_)
    have hij := hp'.1 j hj
    rw [List.getD_eq_getElem?_getD, List.getElem?_set_ne (by omega), ← List.getD_eq_getElem?_getD]
    exact hf j (by simp [hj])
theorem foldl_set_get (i : Nat) : ∀ (l : List Nat) (b : List Bool), (∀ j ∈ l, j < b.length) → (l.foldl (fun b i => b.set i true) b).getD i false = (b.getD i false || decide (i ∈ l))
  | [], b, _ => by simp
  | j :: l, b, hl => by
    rw [List.foldl_cons, foldl_set_get i l (b.set j true) (fun k hk => by rw [List.length_set]; exact hl k (by simp [hk]))]
    by_cases e : i = j
    · subst e
      rw [List.getD_eq_getElem?_getD, List.getElem?_set_self (hl i (by simp))]
      simp
    · rw [List.getD_eq_getElem?_getD, List.getElem?_set_ne (Ne.symm e), ← List.getD_eq_getElem?_getD]
      simp [e]
theorem foldl_set_len : ∀ (l : List Nat) (b : List Bool), (l.foldl (fun b i => b.set i true) b).length = b.length
  | [], b => rfl
  | j :: l, b => by rw [List.foldl_cons, foldl_set_len l]; simp
theorem ofV_list {n : Nat} {s : List UInt8} (hv : validB n s) : ofV n ((listB n s).map fun i => ((i : Nat) : Int)) = (s, 0) := by
  have hm : ∀ i, i ∈ listB n s ↔ i < n ∧ bitAt s i = true := fun i => by simp [listB]
  have h := ofR_all (listB n s) (List.replicate n false) (by simp) (fun i hi => ((hm i).1 hi).1) (List.Pairwise.filter _ List.pairwise_lt_range) (fun i hi => by simp [List.getElem?_replicate]; split <;> rfl)
  unfold ofV
  rw [h]
  simp only [if_true, Prod.mk.injEq, and_true]
  symm
  refine field_of hv (by rw [foldl_set_len]; simp) fun i hi => ?_
  rw [foldl_set_get i _ _ (fun j hj => by simp; exact ((hm j).1 hj).1)]
  have e : (List.replicate n false).getD i false = false := by simp [List.getElem?_replicate]; split <;> rfl
  rw [e, Bool.false_or]
  cases hb : bitAt s i
  · symm; apply decide_eq_false; rw [hm]; simp [hb]
  · symm; apply decide_eq_true; rw [hm]; exact ⟨hi, hb⟩
end Go.Aw
