/-
  The walk of nodes: reading nodes.
-/
import Derived.Test.YtdbdnknnaekbhaaNF
set_option linter.unusedVariables false
set_option linter.unusedSimpArgs false
set_option maxRecDepth 20000
set_option maxHeartbeats 4000000
namespace Go.Proofs.Ytdbdnknnaekbhaa
open Go Go.Aw Go.Proofs
def ndsC (l : List Nd) : List Value := l.flatMap ndC
theorem ndsC_len (l : List Nd) : (ndsC l).length = l.length * 4 := by
  induction l with
  | nil => rfl
  | cons x l ih =>
    show (ndC x ++ ndsC l).length = _
    rw [List.length_append, ih, List.length_cons]
    show 4 + _ = _
    omega
theorem ndsC_at : ∀ (l : List Nd) (n : Nat) (h : n < l.length), ((ndsC l).drop (n * 4)).take 4 = ndC l[n]
  | e :: l, 0, _ => rfl
  | e :: l, n + 1, h => by
    rw [show ndsC (e :: l) = .string (bs e.id) :: .int .i64 e.a.fam :: .string (bs e.a.ip) :: .int .i64 e.a.port :: ndsC l from rfl, show (n + 1) * 4 = n * 4 + 1 + 1 + 1 + 1 by omega, List.drop_succ_cons, List.drop_succ_cons, List.drop_succ_cons, List.drop_succ_cons]
    exact ndsC_at l n (by simpa using h)
end Go.Proofs.Ytdbdnknnaekbhaa

