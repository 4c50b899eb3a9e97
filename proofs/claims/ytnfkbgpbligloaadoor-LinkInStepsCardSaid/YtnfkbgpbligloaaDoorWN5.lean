/-
  Two tables' blocks have their sizes.
-/
import Derived.Test.YtnfkbgpbligloaaDoorWN3
set_option linter.unusedVariables false
set_option maxRecDepth 100000
namespace Go.Proofs.YtnfkbgpbligloaaDoor
open Go Go.Aw Go.Proofs
theorem shapeAt {P : Program} {W : World} (h : W.ShapedOpen P) {g n : Nat} {v : Value} {t : TypeId} (hg : g < P.globals.size) (he : ((begin P (fun _ _ => 0) default).world.heap[g]?).bind Obj.row? = some (Array.replicate n v, t)) : ∃ (arr : Array Value) (e : TypeId) (fr : Nat × Nat), W.heap[g]? = some (.cells arr e fr) ∧ arr.size = n := by
  obtain ⟨cs, hh, hs, -⟩ := h.1 g (Array.replicate n v) t hg he
  exact ⟨cs, t, _, hh, by rw [hs, Array.size_replicate]⟩
theorem blk1 {W : World} (h : W.ShapedOpen Tryd.prog) : ∃ (arr : Array Value) (e : TypeId) (fr : Nat × Nat), W.heap[1]? = some (.cells arr e fr) ∧ arr.size = 256 := shapeAt (v := .int .u8 0) (t := 129) h (of_decide_eq_true (by kernel_rfl)) (by kernel_rfl)
theorem blk2 {W : World} (h : W.ShapedOpen Tryd.prog) : ∃ (arr : Array Value) (e : TypeId) (fr : Nat × Nat), W.heap[2]? = some (.cells arr e fr) ∧ arr.size = 32 := shapeAt (v := .int .u8 0) (t := 132) h (of_decide_eq_true (by kernel_rfl)) (by kernel_rfl)
end Go.Proofs.YtnfkbgpbligloaaDoor
