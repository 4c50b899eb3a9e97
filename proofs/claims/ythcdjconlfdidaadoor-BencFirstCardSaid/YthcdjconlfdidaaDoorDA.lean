/-
  Bencoded values in the abstract memory: what lasts, slices that last, trees of values; slices that grow; freezing.
-/
import Derived.Test.YthcdjconlfdidaaDoorCE
import Derived.Test.YthcdjconlfdidaaDoorAwB
set_option linter.unusedVariables false
set_option linter.unusedSimpArgs false
namespace Go.Aw
/-- The texts of a list, as rows. -/
def keyC (ks : List (List UInt8)) : List (List Value) := ks.map fun s => [.string (bs s)]
mutual
/-- The cells are a value that lasts. -/
def RdV (H : AHeap) : BV → List Value → Prop
  | .mk k n s kids keys, cs => ∃ vk vs css, cs = [.int .i64 k, .int .i64 n, .string (bs s), vk, vs] ∧ RdK H 5 vk css ∧ RdL H kids css ∧ RdK H 1 vs (keyC keys)
def RdL (H : AHeap) : List BV → List (List Value) → Prop
  | [], css => css = []
  | v :: l, css => ∃ cs r, css = cs :: r ∧ RdV H v cs ∧ RdL H l r
end
mutual
theorem RdV.kept {H H2 : AHeap} (hk : Kept H H2) : ∀ {v : BV} {cs : List Value}, RdV H v cs → RdV H2 v cs
  | .mk k n s kids keys, cs, h => by
    unfold RdV at h ⊢
    obtain ⟨vk, vs, css, e, h1, h2, h3⟩ := h
    exact ⟨vk, vs, css, e, h1.kept hk, RdL.kept hk h2, h3.kept hk⟩
theorem RdL.kept {H H2 : AHeap} (hk : Kept H H2) : ∀ {l : List BV} {css : List (List Value)}, RdL H l css → RdL H2 l css
  | [], css, h => by unfold RdL at h ⊢; exact h
  | v :: l, css, h => by
    unfold RdL at h ⊢
    obtain ⟨cs, r, e, h1, h2⟩ := h
    exact ⟨cs, r, e, RdV.kept hk h1, RdL.kept hk h2⟩
end
theorem RdL.len {H : AHeap} : ∀ {l : List BV} {css : List (List Value)}, RdL H l css → css.length = l.length
  | [], css, h => by unfold RdL at h; rw [h]; rfl
  | v :: l, css, h => by
    unfold RdL at h
    obtain ⟨cs, r, e, h1, h2⟩ := h
    rw [e, List.length_cons, List.length_cons, h2.len]
theorem RdL.at_ {H : AHeap} : ∀ {l : List BV} {css : List (List Value)} {j : Nat} {v : BV}, RdL H l css → l[j]? = some v → ∃ cs, css[j]? = some cs ∧ RdV H v cs
  | [], css, j, v, h, e => by simp at e
  | u :: l, css, 0, v, h, e => by
    unfold RdL at h
    obtain ⟨cs, r, e', h1, h2⟩ := h
    cases e
    exact ⟨cs, by rw [e']; rfl, h1⟩
  | u :: l, css, j + 1, v, h, e => by
    unfold RdL at h
    obtain ⟨cs, r, e', h1, h2⟩ := h
    rw [e']
    exact h2.at_ (by simpa using e)
theorem RdL.snoc {H : AHeap} : ∀ {l : List BV} {css : List (List Value)} {v : BV} {cs : List Value}, RdL H l css → RdV H v cs → RdL H (l ++ [v]) (css ++ [cs])
  | [], css, v, cs, h, hv => by
    unfold RdL at h
    rw [h]
    exact (show RdL H (v :: []) (cs :: []) by unfold RdL; exact ⟨cs, [], rfl, hv, by unfold RdL; rfl⟩)
  | u :: l, css, v, cs, h, hv => by
    unfold RdL at h
    obtain ⟨c, r, e, h1, h2⟩ := h
    rw [e]
    exact (show RdL H (u :: (l ++ [v])) (c :: (r ++ [cs])) by unfold RdL; exact ⟨c, r ++ [cs], rfl, h1, h2.snoc hv⟩)
theorem RdV.len {H : AHeap} {v : BV} {cs : List Value} (h : RdV H v cs) : cs.length = 5 := by
  cases v
  unfold RdV at h
  obtain ⟨vk, vs, css, e, _⟩ := h
  rw [e]; rfl
theorem RdL.all5 {H : AHeap} {l : List BV} {css : List (List Value)} (h : RdL H l css) : ∀ cs ∈ css, cs.length = 5 := fun cs hc => by
  obtain ⟨j, hj, rfl⟩ := List.getElem_of_mem hc
  have hjl : j < l.length := by rw [← h.len]; exact hj
  obtain ⟨cs', e, hv⟩ := h.at_ (List.getElem?_eq_getElem hjl)
  rw [List.getElem?_eq_getElem hj] at e
  cases e
  exact hv.len
/-- Nothing is read of the value that has no parts. -/
theorem RdV.bare {H : AHeap} (k n : Int) (s : List UInt8) : RdV H (.mk k n s [] []) [.int .i64 k, .int .i64 n, .string (bs s), .slice none 0 0, .slice none 0 0] := by
  unfold RdV
  exact ⟨_, _, [], rfl, .inl ⟨rfl, rfl⟩, by unfold RdL; rfl, .inl ⟨rfl, rfl⟩⟩
end Go.Aw

