/-
  Nodes: lists of nodes that a caller hands over.
-/
import Derived.Test.YtdbdnknnaekbhaaOU
import Derived.Test.YtdbdnknnaekbhaaAwC
set_option linter.unusedVariables false
set_option linter.unusedSimpArgs false
set_option maxRecDepth 20000
namespace Go.Proofs.Ytdbdnknnaekbhaa
open Go Go.Aw Go.Proofs
theorem ndOf {bnd : Nat} {cs : List Value} (h : Fits bnd [.s, .i .i64, .s, .i .i64] cs) : ∃ x : Nd, cs = ndC x := by
  cases h with | cons h1 h =>
  cases h with | cons h2 h =>
  cases h with | cons h3 h =>
  cases h with | cons h4 h =>
  cases h
  obtain ⟨z1, rfl, _⟩ := h1
  obtain ⟨z2, rfl, _⟩ := h2
  obtain ⟨z3, rfl, _⟩ := h3
  obtain ⟨z4, rfl, _⟩ := h4
  exact ⟨⟨z1, z2, z3, z4⟩, rfl⟩
theorem ndsOf {bnd : Nat} : ∀ l : List (List Value), (∀ r ∈ l, Fits bnd [.s, .i .i64, .s, .i .i64] r) → ∃ xs : List Nd, l = xs.map ndC := by
  intro l
  induction l with
  | nil => intro _; exact ⟨[], rfl⟩
  | cons r l ih =>
    intro h
    obtain ⟨x, e⟩ := ndOf (h r (List.mem_cons_self ..))
    obtain ⟨xs, e2⟩ := ih fun r hr => h r (List.mem_cons_of_mem _ hr)
    exact ⟨x :: xs, by rw [e, e2]; rfl⟩
end Go.Proofs.Ytdbdnknnaekbhaa

