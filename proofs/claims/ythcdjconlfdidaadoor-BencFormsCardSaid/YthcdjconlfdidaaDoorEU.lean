/-
  Values no part of which is longer than memory.
-/
import Derived.Test.YthcdjconlfdidaaDoorCEM
set_option linter.unusedVariables false
namespace Go.Proofs.YthcdjconlfdidaaDoor
open Go Go.Aw Go.Proofs
mutual
/-- No text and no list is longer than memory. -/
def wideV : BV → Prop
  | .mk k n s kids keys => s.length < 140737488355328 ∧ kids.length < 140737488355328 ∧ keys.length < 140737488355328 ∧ wideL kids
def wideL : List BV → Prop
  | [] => True
  | v :: l => wideV v ∧ wideL l
end
theorem wideL_iff : ∀ {l : List BV}, wideL l ↔ ∀ c ∈ l, wideV c
  | [] => by simp [wideL]
  | v :: l => by simp [wideL, wideL_iff (l := l)]
end Go.Proofs.YthcdjconlfdidaaDoor

