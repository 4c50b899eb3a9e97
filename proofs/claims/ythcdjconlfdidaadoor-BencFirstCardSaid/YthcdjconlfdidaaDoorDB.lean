/-
  Bencoded values in the abstract memory: slices that grow, beside what lasts; freezing what has grown.
-/
import Derived.Test.YthcdjconlfdidaaDoorDA
set_option linter.unusedVariables false
set_option linter.unusedSimpArgs false
namespace Go.Aw
theorem grown_get {H Y : AHeap} {l : List (List Value)} {j i : Nat} (hi : i < H.length) (hj : l ≠ [] → i ≠ j) : (grown H l j ++ Y)[i]? = H[i]? := by
  rw [hgetl (by rw [grown_len]; exact hi)]
  unfold grown
  split
  · rfl
  · rename_i h; rw [List.getElem?_set_ne (Ne.symm (hj h))]
theorem OwnR.own {H : AHeap} {e m j : Nat} {v : Value} {l : List (List Value)} (h : OwnR H e m l v j) (hl : l ≠ []) : H[j]? = some (.cells l.flatten ⟨e, m, true, 0, none⟩) := by
  rcases h with ⟨h1, _⟩ | ⟨_, _, h3⟩
  · exact absurd h1 hl
  · exact h3
theorem OwnR.grown_kept {H Y : AHeap} {e m j : Nat} {v : Value} {l : List (List Value)} (h : OwnR H e m l v j) : Kept H (grown H l j ++ Y) := by
  refine Kept.trans ?_ (Kept.more _ _)
  unfold grown
  split
  · exact Kept.refl _
  · rename_i hl; exact Kept.set (h.own hl) rfl _
theorem OwnR.keep {H H2 : AHeap} {e m j : Nat} {v : Value} {l : List (List Value)} (h : OwnR H e m l v j) (hj : l ≠ [] → H2[j]? = H[j]?) : OwnR H2 e m l v j := by
  rcases h with h | ⟨h1, h2, h3⟩
  · exact .inl h
  · exact .inr ⟨h1, h2, (hj h1).trans h3⟩
/-- What has grown is frozen: it lasts then. -/
theorem OwnR.freeze {H : AHeap} {e m j : Nat} {v : Value} {l : List (List Value)} (h : OwnR H e m l v j) (hm : ∀ r ∈ l, r.length = m) :
    ∃ H2, (∀ n0 env ds, Weak n0 ⟨env, ds, H⟩ ⟨env, ds, H2⟩) ∧ RdK H2 m v l ∧ H2.length = H.length ∧ (∀ i, (l ≠ [] → i ≠ j) → H2[i]? = H[i]?) ∧ Kept H H2 := by
  rcases h with ⟨rfl, rfl⟩ | ⟨h1, rfl, h3⟩
  · exact ⟨H, fun _ _ _ => .refl _ _, .inl ⟨rfl, rfl⟩, rfl, fun _ _ => rfl, .refl _⟩
  · refine ⟨_, fun n0 env ds => Weak.freeze h3, .inr ⟨j, 0, l.length, _, _, rfl, Nat.le_refl _, List.getElem?_set_self (lt_of_get h3), rfl, .inl rfl, ?_, ?_⟩, by simp, fun i hi => by rw [List.getElem?_set_ne (Ne.symm (hi h1))], Kept.set h3 rfl _⟩
    · rw [flat_len hm]; omega
    · intro i r hr
      rw [Nat.zero_add]
      exact flat_at hm hr
end Go.Aw

