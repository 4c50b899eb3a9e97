/-
  No cell of these rows narrows 'for every input' (looked for: loops, veiled, ifaces, maps, wideKeys, modest, calm, conditions, laid).
  DERIVED. THE GIVEN ROWS OF THIS SEAT. 3 by the template 'for every input the law returns true; each argument reads behind the call as it read before'; 0 by the template 'total and deterministic' (their statements: YtdbdnknnaekbhaaTotals.lean).
  GIVEN WITH THE SEED: the statements are not yours to turn. If you find one false, say at which input.
  Laid BY PROGRAM, IN A SANDBOX (cutbox-rows.mjs): the forced cells as the released guide's own fill.sh prints them over the translation b68fec69a6fe6215… (all of the seat's roots in one cut). By AI agents, Wed Nov 11 2026. No macro, syntax, notation, axiom, sorry.
-/
import Derived.Test.YtdbdnknnaekbhaaChecked
import GoSem.Claim
import GoSem.ClaimJoined
import GoSem.ClaimMapViews
import Derived.JoinedTies
import Derived.KernelRfl
namespace Go.Proofs.Ytdbdnknnaekbhaa
/- THE CELL 'sum', in the pinned program and in every row, IS THE sha256 OF THE DUMP (.gsa) THAT YtdbdnknnaekbhaaProg.lean LOADS. Nothing in Lean hashes anything: it is a label: what it is worth is what the hold of that sum in a sandbox is worth. -/
noncomputable def Try.pinned : Pinned := { name := "ytdbdnknnaekbhaa", sum := "b68fec69a6fe6215159b7574268ee13034703185fc0a0e2eabcb356cecde6ea1", checked := Try.checked }
namespace Rows
def none {H : Type} : Left H := { results := [], args := [] }

/-- 'coveylaw12.NodeDistances': WHATEVER THE INPUT: true; the input reads as it did. -/
def nodeDistancesSpec : ChangeSpec := { name := "nodeDistances", fn := fun _ => fun
  | [d1, d2, d3] => { results := [.lit (.bool true)], args := [d1, d2, d3] }
  | _ => none }
def nodeDistancesRow : OpenClaim := { program := "ytdbdnknnaekbhaa", sum := "b68fec69a6fe6215159b7574268ee13034703185fc0a0e2eabcb356cecde6ea1", func := "covey/coveylaw12.NodeDistances", spec := "nodeDistances", unfollowed := true, recurses := true, apart := false }
def NodeDistancesSaid : Prop := nodeDistancesRow.holds Try.pinned (OpenSpec.ofChange nodeDistancesSpec)

/-- ITS FALSE NEIGHBOUR: 'it returns false'. Refute it at one input. -/
def nodeDistancesWrong : ChangeSpec := { name := "nodeDistances", fn := fun _ => fun
  | [d1, d2, d3] => { results := [.lit (.bool false)], args := [d1, d2, d3] }
  | _ => none }
def NodeDistancesWrongFalsely : Prop := nodeDistancesRow.holds Try.pinned (OpenSpec.ofChange nodeDistancesWrong)

/-- 'coveylaw12.NodePacks': WHATEVER THE INPUT: true; the input reads as it did. -/
def nodePacksSpec : ChangeSpec := { name := "nodePacks", fn := fun _ => fun
  | [d1, d2, d3] => { results := [.lit (.bool true)], args := [d1, d2, d3] }
  | _ => none }
def nodePacksRow : OpenClaim := { program := "ytdbdnknnaekbhaa", sum := "b68fec69a6fe6215159b7574268ee13034703185fc0a0e2eabcb356cecde6ea1", func := "covey/coveylaw12.NodePacks", spec := "nodePacks", unfollowed := true, recurses := true, apart := false }
def NodePacksSaid : Prop := nodePacksRow.holds Try.pinned (OpenSpec.ofChange nodePacksSpec)

/-- ITS FALSE NEIGHBOUR: 'it returns false'. Refute it at one input. -/
def nodePacksWrong : ChangeSpec := { name := "nodePacks", fn := fun _ => fun
  | [d1, d2, d3] => { results := [.lit (.bool false)], args := [d1, d2, d3] }
  | _ => none }
def NodePacksWrongFalsely : Prop := nodePacksRow.holds Try.pinned (OpenSpec.ofChange nodePacksWrong)

/-- 'coveylaw12.NodeOrders': WHATEVER THE INPUT: true; the input reads as it did. -/
def nodeOrdersSpec : ChangeSpec := { name := "nodeOrders", fn := fun _ => fun
  | [d1, d2, d3] => { results := [.lit (.bool true)], args := [d1, d2, d3] }
  | _ => none }
def nodeOrdersRow : OpenClaim := { program := "ytdbdnknnaekbhaa", sum := "b68fec69a6fe6215159b7574268ee13034703185fc0a0e2eabcb356cecde6ea1", func := "covey/coveylaw12.NodeOrders", spec := "nodeOrders", inPlace := ["internal/bytealg.abigen_runtime_cmpstring"], unfollowed := true, recurses := true, apart := false }
def NodeOrdersSaid : Prop := nodeOrdersRow.holds Try.pinned (OpenSpec.ofChange nodeOrdersSpec)

/-- ITS FALSE NEIGHBOUR: 'it returns false'. Refute it at one input. -/
def nodeOrdersWrong : ChangeSpec := { name := "nodeOrders", fn := fun _ => fun
  | [d1, d2, d3] => { results := [.lit (.bool false)], args := [d1, d2, d3] }
  | _ => none }
def NodeOrdersWrongFalsely : Prop := nodeOrdersRow.holds Try.pinned (OpenSpec.ofChange nodeOrdersWrong)

/- THE SECOND FORM. 'bulk': how many values and letters a reading holds, each counted each time it is reached (what is shared counts as often as it is met; a slice's spare places count too). A statement '..UptoSaid' is the law's where the arguments, and the package variables that the reading takes, are together of bulk at most 1048576: NARROWER than '..Said'. Prove '..Said' where nothing that the law and all that it calls make is longer than what came in: it says more and counts as full. Else prove '..UptoSaid'. A law counts once. -/
mutual
def uptoBulk {H : Type} : DataW H → Nat
  | .lit (.string bytes) => bytes.length + 1
  | .lit _ => 1
  | .nil => 1
  | .ptr d => uptoBulk d + 1
  | .slice elems spare => uptoBulkAll elems + uptoBulkAll spare + 1
  | .agg parts => uptoBulkAll parts + 1
  | .iface _ d => uptoBulk d + 1
  | .map entries => uptoBulkEntries entries + 1
  | .held _ => 1
def uptoBulkAll {H : Type} : List (DataW H) → Nat
  | [] => 0
  | d :: r => uptoBulk d + uptoBulkAll r
def uptoBulkEntries {H : Type} : List (Lit × DataW H) → Nat
  | [] => 0
  | x :: r => uptoBulkEntry x + uptoBulkEntries r
def uptoBulkEntry {H : Type} : Lit × DataW H → Nat
  | (.string bytes, d) => bytes.length + uptoBulk d + 1
  | (_, d) => uptoBulk d + 1
 end
def uptoSmall : (H : Type) → List (DataW H) → Bool := fun _ ds => decide (uptoBulkAll ds ≤ 1048576)
def OpenSpec.upto (s : _root_.Go.ChangeSpec) : _root_.Go.OpenSpec := { _root_.Go.OpenSpec.ofChange s with cond := some uptoSmall }

/-- 'coveylaw12.NodeDistances', WHERE WHAT IT READS IS OF BULK AT MOST 1048576: true; the input reads as it did. -/
def nodeDistancesUptoRow : OpenClaim := { program := "ytdbdnknnaekbhaa", sum := "b68fec69a6fe6215159b7574268ee13034703185fc0a0e2eabcb356cecde6ea1", func := "covey/coveylaw12.NodeDistances", spec := "nodeDistances", unfollowed := true, recurses := true, apart := false, narrowed := true }
def NodeDistancesUptoSaid : Prop := nodeDistancesUptoRow.holds Try.pinned (OpenSpec.upto nodeDistancesSpec)

/-- 'coveylaw12.NodePacks', WHERE WHAT IT READS IS OF BULK AT MOST 1048576: true; the input reads as it did. -/
def nodePacksUptoRow : OpenClaim := { program := "ytdbdnknnaekbhaa", sum := "b68fec69a6fe6215159b7574268ee13034703185fc0a0e2eabcb356cecde6ea1", func := "covey/coveylaw12.NodePacks", spec := "nodePacks", unfollowed := true, recurses := true, apart := false, narrowed := true }
def NodePacksUptoSaid : Prop := nodePacksUptoRow.holds Try.pinned (OpenSpec.upto nodePacksSpec)

/-- 'coveylaw12.NodeOrders', WHERE WHAT IT READS IS OF BULK AT MOST 1048576: true; the input reads as it did. -/
def nodeOrdersUptoRow : OpenClaim := { program := "ytdbdnknnaekbhaa", sum := "b68fec69a6fe6215159b7574268ee13034703185fc0a0e2eabcb356cecde6ea1", func := "covey/coveylaw12.NodeOrders", spec := "nodeOrders", inPlace := ["internal/bytealg.abigen_runtime_cmpstring"], unfollowed := true, recurses := true, apart := false, narrowed := true }
def NodeOrdersUptoSaid : Prop := nodeOrdersUptoRow.holds Try.pinned (OpenSpec.upto nodeOrdersSpec)

end Rows
end Go.Proofs.Ytdbdnknnaekbhaa
