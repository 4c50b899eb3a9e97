/- A part of the proof of a statement of this seat. -/
import Derived.Test.YtdbdnknnaekbhaaN5
set_option linter.unusedVariables false
set_option linter.unusedSimpArgs false
namespace Go.Proofs.Ytdbdnknnaekbhaa
open Go Go.Aw Go.Proofs
theorem range_set {α : Type} (N n : Nat) (f g : Nat → α) (v : α) (hn : n < N) (hv : v = g n) (h : ∀ m, m < N → m ≠ n → f m = g m) : ((List.range N).map f).set n v = (List.range N).map g := by
  apply List.ext_getElem (by simp)
  intro i h1 h2
  rw [List.getElem_set]
  split
  · rename_i e; subst e; simp [hv]
  · rename_i e; simp [h i (by simpa using h2) (Ne.symm e)]
def mixed (a b : List UInt8) (n m : Nat) : Bool := if m < n then bitAt a m != bitAt b m else bitAt a m
end Go.Proofs.Ytdbdnknnaekbhaa

