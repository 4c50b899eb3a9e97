/-
  What a call made, behind what was there.
-/
import Derived.Test.YtdeoaadkngiilaaDoorAw26
set_option linter.unusedVariables false
set_option linter.unusedSimpArgs false
namespace Go.Aw
theorem frm_split {H H2 : AHeap} (h1 : H.length ≤ H2.length) (h2 : ∀ j, j < H.length → H2[j]? = H[j]?) : ∃ Y, H2 = H ++ Y := by
  refine ⟨H2.drop H.length, List.ext_getElem? fun j => ?_⟩
  by_cases hj : j < H.length
  · rw [hgetl hj]; exact h2 j hj
  · rw [List.getElem?_append_right (by omega), List.getElem?_drop]; congr 1; omega
theorem Frm.split {S : List Nat} {H X H2 : AHeap} (h : Frm S (H ++ X) H2) (hs : ∀ s ∈ S, H.length ≤ s) : ∃ Y, H2 = H ++ Y :=
  frm_split (by have := h.1; simp at this; omega) fun j hj => by
    rw [h.2 j (by simp; omega) (fun hm => by have := hs j hm; omega), hgetl hj]
end Go.Aw
