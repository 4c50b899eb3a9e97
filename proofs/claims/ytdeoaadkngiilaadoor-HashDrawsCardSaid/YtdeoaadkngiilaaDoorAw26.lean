/-
  Comparing with nil; lists that a call owns.
-/
import Derived.Test.YtdeoaadkngiilaaDoorAw25
set_option linter.unusedVariables false
set_option linter.unusedSimpArgs false
namespace Go.Aw
def tPt (P : Program) (t : TypeId) : Bool := match P.underlying t with | some (.pointer _) => true | _ => false
def tFn (P : Program) (t : TypeId) : Bool := match P.underlying t with | some (.func _ _ _) => true | _ => false
def tIf (P : Program) (t : TypeId) : Bool := match P.underlying t with | some (.interface _) => true | _ => false
section
variable {P : Program} {t : TypeId} {x y : Operand} {K : Value → Prop}
theorem binW_ptr_eql {a b : Option Addr} : binW P .eql t x y (.pointer a) (.pointer b) K = wth (eqV P 20 t (.pointer a) (.pointer b)) fun r => K (.bool r) := by simp [binW, guardW]
theorem binW_ptr_neq {a b : Option Addr} : binW P .neq t x y (.pointer a) (.pointer b) K = wth (eqV P 20 t (.pointer a) (.pointer b)) fun r => K (.bool (!r)) := by simp [binW, guardW]
theorem binW_map_eql {a b : Option Nat} : binW P .eql t x y (.map a) (.map b) K = wth (eqV P 20 t (.map a) (.map b)) fun r => K (.bool r) := by simp [binW, guardW]
theorem binW_map_neq {a b : Option Nat} : binW P .neq t x y (.map a) (.map b) K = wth (eqV P 20 t (.map a) (.map b)) fun r => K (.bool (!r)) := by simp [binW, guardW]
theorem eqV_pn {b : Option Addr} (h : tPt P t = true) : eqV P 20 t (.pointer none) (.pointer b) = some b.isNone := by
  unfold tPt at h; split at h
  · rename_i hu; unfold eqV; simp only [hu]
  · cases h
theorem eqV_ps {a : Addr} (h : tPt P t = true) : eqV P 20 t (.pointer (some a)) (.pointer none) = some false := by
  unfold tPt at h; split at h
  · rename_i hu; unfold eqV; simp only [hu]
  · cases h
theorem eqV_mn {b : Option Nat} (h : tMp P t = true) : eqV P 20 t (.map none) (.map b) = some b.isNone := by
  unfold tMp at h; split at h
  · rename_i hu; unfold eqV; simp only [hu]
  · cases h
theorem eqV_ms {a : Nat} (h : tMp P t = true) : eqV P 20 t (.map (some a)) (.map none) = some false := by
  unfold tMp at h; split at h
  · rename_i hu; unfold eqV; simp only [hu]
  · cases h
theorem eqV_ln {n m n' m' : Nat} {b : Option Addr} (h : tSl P t = true) : eqV P 20 t (.slice none n m) (.slice b n' m') = some b.isNone := by
  unfold tSl at h; split at h
  · rename_i hu; unfold eqV; simp only [hu]
  · cases h
theorem eqV_ls {n m n' m' : Nat} {a : Addr} (h : tSl P t = true) : eqV P 20 t (.slice (some a) n m) (.slice none n' m') = some false := by
  unfold tSl at h; split at h
  · rename_i hu; unfold eqV; simp only [hu]
  · cases h
end
theorem opt_ta_s {α : Type} {a : α} : (some a).toArray.toList = [a] := rfl
theorem opt_ta_n {α : Type} : (none : Option α).toArray.toList = [] := rfl
theorem hset_self {H : AHeap} {i : Nat} {o : AObj} (h : i < H.length) : (H.set i o)[i]? = some o := List.getElem?_set_self h
theorem hset_ne {H : AHeap} {i j : Nat} {o : AObj} (h : i ≠ j) : (H.set i o)[j]? = H[j]? := List.getElem?_set_ne h
theorem hset_set {H : AHeap} {i : Nat} {o o' : AObj} : (H.set i o).set i o' = H.set i o' := List.set_set ..
theorem isZero_lit (n : Nat) : isZero (some n) = (n == 0) := by cases n <;> rfl
theorem isNone_some' {α : Type} {a : α} : (some a).isNone = false := rfl
theorem isNone_none' {α : Type} : (none : Option α).isNone = true := rfl
attribute [go_sem] opt_ta_s opt_ta_n hset_self hset_ne hset_set isZero_lit tPt tFn tIf binW_ptr_eql binW_ptr_neq binW_map_eql binW_map_neq eqV_pn eqV_ps eqV_mn eqV_ms eqV_ln eqV_ls isNone_some' isNone_none'

/-! ### Lists that a call owns -/
/-- v is a list of n elements of that many cells, whose cells are l; S names what it lies in. -/
def OwnL (H : AHeap) (e size n : Nat) (l : List Value) (v : Value) (S : List Nat) : Prop :=
  (n = 0 ∧ l = [] ∧ v = .slice none 0 0 ∧ S = []) ∨
  ∃ i off cs, v = .slice (some ⟨i, off, none⟩) n n ∧ H[i]? = some (.cells cs ⟨e, size, true, 0, none⟩) ∧ cs.length = off + n * size ∧ cs.drop off = l ∧ S = [i]
/-- But for what S names all that was there is as it was. -/
def Frm (S : List Nat) (H H2 : AHeap) : Prop := H.length ≤ H2.length ∧ ∀ j, j < H.length → j ∉ S → H2[j]? = H[j]?
theorem Frm.refl (S : List Nat) (H : AHeap) : Frm S H H := ⟨Nat.le_refl _, fun _ _ _ => rfl⟩
theorem Frm.mono {S S' : List Nat} {H H2 : AHeap} (h : Frm S H H2) (hs : ∀ s ∈ S, s ∈ S') : Frm S' H H2 := ⟨h.1, fun j hj hn => h.2 j hj fun hm => hn (hs j hm)⟩
theorem Frm.trans {S S' : List Nat} {H H2 H3 : AHeap} (h : Frm S H H2) (k : Frm S' H2 H3) (hs : ∀ s ∈ S', s ∈ S ∨ H.length ≤ s) : Frm S H H3 :=
  ⟨Nat.le_trans h.1 k.1, fun j hj hn => (k.2 j (Nat.lt_of_lt_of_le hj h.1) fun hm => by rcases hs j hm with h' | h'; exact hn h'; omega).trans (h.2 j hj hn)⟩
theorem Frm.get {S : List Nat} {H H2 : AHeap} (h : Frm S H H2) {j : Nat} {o : AObj} (hj : H[j]? = some o) (hn : j ∉ S) : H2[j]? = some o := (h.2 j (lt_of_get hj) hn).trans hj
theorem Frm.app {S : List Nat} {H X : AHeap} : Frm S H (H ++ X) := ⟨by simp, fun j hj _ => hgetl hj⟩
theorem Frm.set {S : List Nat} {H H2 : AHeap} {i : Nat} {o : AObj} (h : Frm S H H2) (hi : i ∈ S ∨ H.length ≤ i) : Frm S H (H2.set i o) :=
  ⟨by rw [List.length_set]; exact h.1, fun j hj hn => by
    rw [List.getElem?_set_ne (by intro e; subst e; rcases hi with hi | hi; exact hn hi; omega)]; exact h.2 j hj hn⟩
theorem Frm.more {S : List Nat} {H H2 X : AHeap} (h : Frm S H H2) : Frm S H (H2 ++ X) :=
  ⟨by rw [List.length_append]; have := h.1; omega, fun j hj hn => by rw [hgetl (Nat.lt_of_lt_of_le hj h.1)]; exact h.2 j hj hn⟩
theorem Rd.frm {S : List Nat} {H H2 : AHeap} {v : Value} {l : List Value} (h : Rd H v l) (hf : Frm S H H2) (hn : ∀ i o n m, v = .slice (some ⟨i, o, none⟩) n m → i ∉ S) : Rd H2 v l := by
  rcases h with h | ⟨i, off, cap, cs, k, h1, h2, h3⟩
  · exact .inl h
  · exact .inr ⟨i, off, cap, cs, k, h1, hf.get h2 (hn _ _ _ _ h1), h3⟩
theorem OwnL.frm {S T : List Nat} {H H2 : AHeap} {e size n : Nat} {l : List Value} {v : Value} (h : OwnL H e size n l v S) (hf : Frm T H H2) (hn : ∀ s ∈ S, s ∉ T) : OwnL H2 e size n l v S := by
  rcases h with h | ⟨i, off, cs, h1, h2, h3, h4, h5⟩
  · exact .inl h
  · exact .inr ⟨i, off, cs, h1, hf.get h2 (hn i (by rw [h5]; simp)), h3, h4, h5⟩
theorem OwnL.lt {S : List Nat} {H : AHeap} {e size n : Nat} {l : List Value} {v : Value} (h : OwnL H e size n l v S) : ∀ s ∈ S, s < H.length := by
  rcases h with ⟨_, _, _, h⟩ | ⟨i, off, cs, h1, h2, h3, h4, h5⟩
  · subst h; intro s hs; cases hs
  · subst h5; intro s hs; simp at hs; subst hs; exact lt_of_get h2
theorem OwnL.len {S : List Nat} {H : AHeap} {e size n : Nat} {l : List Value} {v : Value} (h : OwnL H e size n l v S) : l.length = n * size := by
  rcases h with ⟨h1, h2, _, _⟩ | ⟨i, off, cs, h1, h2, h3, h4, h5⟩
  · subst h1; subst h2; simp
  · subst h4; rw [List.length_drop]; omega
theorem OwnL.rd {S : List Nat} {H : AHeap} {e n : Nat} {l : List Value} {v : Value} (h : OwnL H e 1 n l v S) : Rd H v l := by
  have hl := h.len
  rcases h with ⟨h1, h2, h3, _⟩ | ⟨i, off, cs, h1, h2, h3, h4, h5⟩
  · exact .inl ⟨h3, h2⟩
  · refine .inr ⟨i, off, n, cs, _, by rw [h1, hl, Nat.mul_one], h2, fun j hj => ?_⟩
    rw [← h4, List.getElem?_drop]
/-- One element more. -/
theorem OwnL.append {P : Program} {S : List Nat} {H : AHeap} {e size y n : Nat} {l : List Value} {v : Value} {news : List Value} {K : Value → AHeap → Prop} (h : OwnL H e size n l v S) (hs : size ≠ 0) (h1 : (n + 1) * y ≤ 140737488355328) (h2 : n + 1 ≤ 4611686018427387904)
    (hk : ∀ H', H'.length = H.length → (∀ j, j ∉ S → H'[j]? = H[j]?) → K (.slice (some ⟨H.length, 0, none⟩) (n + 1) (n + 1)) (H' ++ [.cells (l ++ news) ⟨e, size, true, 0, none⟩])) : appendTo P e size y v 1 news H K := by
  rcases h with ⟨rfl, rfl, rfl, rfl⟩ | ⟨i, off, cs, rfl, hi, hc, rfl, rfl⟩
  · exact appendTo_nil (by decide) (by simpa using h1) (by decide) (by simpa using hk H rfl fun _ _ => rfl)
  · unfold appendTo
    dsimp only
    rw [hi]
    dsimp only
    refine ⟨fun h => by omega, fun _ => ⟨⟨by omega, h1, h2⟩, fun _ => ⟨⟨rfl, rfl, Nat.zero_le _, rfl⟩, ?_⟩, fun h => absurd ⟨hs, hc.symm⟩ h⟩⟩
    have ht : (cs.drop off).take (n * size) = cs.drop off := List.take_of_length_le (by rw [List.length_drop]; omega)
    rw [ht, Nat.zero_sub]
    exact hk _ (by simp) fun j hj => List.getElem?_set_ne (by intro e; subst e; exact hj (by simp))
end Go.Aw
