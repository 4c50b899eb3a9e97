/-
  Tokens: the acts that a caller hands over.
-/
import Derived.Test.YtmpkgdilmkeacaaDoorSB
import Derived.Test.YtmpkgdilmkeacaaDoorAwC
set_option linter.unusedVariables false
set_option linter.unusedSimpArgs false
set_option maxRecDepth 20000
namespace Go.Proofs.YtmpkgdilmkeacaaDoor
open Go Go.Aw Go.Proofs
theorem actOf {bnd : Nat} {cs : List Value} (h : Fits bnd [.i .i64, .i .i64, .i .i64, .s, .i .i64, .i .i64, .s, .s] cs) : ∃ x : Act, cs = actC x := by
  cases h with | cons h1 h =>
  cases h with | cons h2 h =>
  cases h with | cons h3 h =>
  cases h with | cons h4 h =>
  cases h with | cons h5 h =>
  cases h with | cons h6 h =>
  cases h with | cons h7 h =>
  cases h with | cons h8 h =>
  cases h
  obtain ⟨z1, rfl, _⟩ := h1
  obtain ⟨z2, rfl, _⟩ := h2
  obtain ⟨z3, rfl, _⟩ := h3
  obtain ⟨z4, rfl, _⟩ := h4
  obtain ⟨z5, rfl, _⟩ := h5
  obtain ⟨z6, rfl, _⟩ := h6
  obtain ⟨z7, rfl, _⟩ := h7
  obtain ⟨z8, rfl, _⟩ := h8
  exact ⟨⟨z1, z2, ⟨z3, z4, z5⟩, z6, z7, z8⟩, rfl⟩
theorem actsOf {bnd : Nat} : ∀ l : List (List Value), (∀ r ∈ l, Fits bnd [.i .i64, .i .i64, .i .i64, .s, .i .i64, .i .i64, .s, .s] r) → ∃ xs : List Act, l = actsC xs := by
  intro l
  induction l with
  | nil => intro _; exact ⟨[], rfl⟩
  | cons r l ih =>
    intro h
    obtain ⟨x, e⟩ := actOf (h r (List.mem_cons_self ..))
    obtain ⟨xs, e2⟩ := ih fun r hr => h r (List.mem_cons_of_mem _ hr)
    exact ⟨x :: xs, by rw [e, e2]; rfl⟩
theorem lawPlaysR (seed : List UInt8) (p m : Int) (l : List Act) (v : Value) (H : AHeap) (hT : TabH H) (hv : RdN H 8 v (actsC l)) :
    AC Tryd.prog 6 [.string (bs seed), .int .i64 p, .int .i64 m, v] H (fun r _ => r = .ret (.bool true) ∧ True) := by
  have h := lawPlays seed p m l v H hT hv
  unfold ARex at h
  exact h
end Go.Proofs.YtmpkgdilmkeacaaDoor
