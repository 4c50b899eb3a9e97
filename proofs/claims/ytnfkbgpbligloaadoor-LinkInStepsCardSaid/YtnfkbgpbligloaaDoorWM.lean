/-
  Links: pipes and acts that a caller hands over.
-/
import Derived.Test.YtnfkbgpbligloaaDoorWL
import Derived.Test.YtnfkbgpbligloaaDoorAwC
set_option linter.unusedVariables false
set_option linter.unusedSimpArgs false
set_option maxRecDepth 20000
namespace Go.Proofs.YtnfkbgpbligloaaDoor
open Go Go.Aw Go.Proofs
theorem ARex.toAC {P : Program} {f : FuncId} {args : List Value} {H : AHeap} {v : Value} {R : AHeap → Prop} (h : ARex P f args H v R) : AC P f args H (fun r H1 => r = .ret v ∧ R H1) := h
theorem ppOf {bnd : Nat} {cs : List Value} (h : Fits bnd [.i .i64, .i .i64, .i .i64, .i .i64, .i .i64, .i .i64] cs) : ∃ p : Pp, cs = p.c := by
  cases h with | cons h1 h =>
  cases h with | cons h2 h =>
  cases h with | cons h3 h =>
  cases h with | cons h4 h =>
  cases h with | cons h5 h =>
  cases h with | cons h6 h =>
  cases h
  obtain ⟨z1, rfl, _⟩ := h1
  obtain ⟨z2, rfl, _⟩ := h2
  obtain ⟨z3, rfl, _⟩ := h3
  obtain ⟨z4, rfl, _⟩ := h4
  obtain ⟨z5, rfl, _⟩ := h5
  obtain ⟨z6, rfl, _⟩ := h6
  exact ⟨⟨z1, z2, z3, z4, z5, z6⟩, rfl⟩
def isI (z : Int) : Prop := -9223372036854775808 ≤ z ∧ z ≤ 9223372036854775807
theorem acOf {bnd : Nat} {cs : List Value} (h : Fits bnd [.i .i64, .i .i64, .i .i64, .s, .i .i64, .i .i64, .i .i64, .i .i64, .i .i64, .i .i64] cs) : ∃ a : Ac, cs = acC a ∧ isI a.later := by
  cases h with | cons h1 h =>
  cases h with | cons h2 h =>
  cases h with | cons h3 h =>
  cases h with | cons h4 h =>
  obtain ⟨p, e⟩ := ppOf h
  obtain ⟨z1, rfl, _⟩ := h1
  obtain ⟨z2, rfl, w2⟩ := h2
  obtain ⟨z3, rfl, _⟩ := h3
  obtain ⟨z4, rfl, _⟩ := h4
  exact ⟨⟨z1, z2, z3, z4, p⟩, by rw [e]; rfl, wf_i64 w2⟩
theorem acsOf {bnd : Nat} : ∀ l : List (List Value), (∀ r ∈ l, Fits bnd [.i .i64, .i .i64, .i .i64, .s, .i .i64, .i .i64, .i .i64, .i .i64, .i .i64, .i .i64] r) → ∃ xs : List Ac, l = xs.map acC := by
  intro l
  induction l with
  | nil => intro _; exact ⟨[], rfl⟩
  | cons r l ih =>
    intro h
    obtain ⟨x, e, _⟩ := acOf (h r (List.mem_cons_self ..))
    obtain ⟨xs, e2⟩ := ih fun r hr => h r (List.mem_cons_of_mem _ hr)
    exact ⟨x :: xs, by rw [e, e2]; rfl⟩
theorem acsOfW {bnd : Nat} : ∀ l : List (List Value), (∀ r ∈ l, Fits bnd [.i .i64, .i .i64, .i .i64, .s, .i .i64, .i .i64, .i .i64, .i .i64, .i .i64, .i .i64] r) → ∃ xs : List Ac, l = xs.map acC ∧ ∀ x ∈ xs, isI x.later := by
  intro l
  induction l with
  | nil => intro _; exact ⟨[], rfl, by simp⟩
  | cons r l ih =>
    intro h
    obtain ⟨x, e, w⟩ := acOf (h r (List.mem_cons_self ..))
    obtain ⟨xs, e2, w2⟩ := ih fun r hr => h r (List.mem_cons_of_mem _ hr)
    exact ⟨x :: xs, by rw [e, e2]; rfl, fun y hy => by rcases List.mem_cons.1 hy with rfl | hy; exact w; exact w2 y hy⟩
end Go.Proofs.YtnfkbgpbligloaaDoor
