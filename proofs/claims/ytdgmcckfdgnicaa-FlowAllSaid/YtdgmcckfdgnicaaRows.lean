/-
  No cell of these rows narrows 'for every input' (looked for: loops, veiled, ifaces, maps, wideKeys, modest, calm, conditions, laid).
  DERIVED. THE GIVEN ROWS OF THIS SEAT. 5 by the template 'for every input the law returns true; each argument reads behind the call as it read before'; 0 by the template 'total and deterministic' (their statements: YtdgmcckfdgnicaaTotals.lean).
  GIVEN WITH THE SEED: the statements are not yours to turn. If you find one false, say at which input.
  Laid BY PROGRAM, IN A SANDBOX (cutbox-rows.mjs): the forced cells as the released guide's own fill.sh prints them over the translation 558ab7677ff5b62a… (all of the seat's roots in one cut). By AI agents, Wed Nov 11 2026. No macro, syntax, notation, axiom, sorry.
-/
import Derived.Test.YtdgmcckfdgnicaaChecked
import GoSem.Claim
import GoSem.ClaimJoined
import GoSem.ClaimMapViews
import Derived.JoinedTies
import Derived.KernelRfl
namespace Go.Proofs.Ytdgmcckfdgnicaa
/- THE CELL 'sum', in the pinned program and in every row, IS THE sha256 OF THE DUMP (.gsa) THAT YtdgmcckfdgnicaaProg.lean LOADS. Nothing in Lean hashes anything: it is a label: what it is worth is what the hold of that sum in a sandbox is worth. -/
noncomputable def Try.pinned : Pinned := { name := "ytdgmcckfdgnicaa", sum := "558ab7677ff5b62acd9f65d04cd850c2d4d771417fe554178a5ab9a7f0dbb537", checked := Try.checked }
namespace Rows
def none {H : Type} : Left H := { results := [], args := [] }

/-- 'coveylaw25.FlowReset': WHATEVER THE INPUT: true; the input reads as it did. -/
def flowResetSpec : ChangeSpec := { name := "flowReset", fn := fun _ => fun
  | [d1, d2, d3, d4, d5] => { results := [.lit (.bool true)], args := [d1, d2, d3, d4, d5] }
  | _ => none }
def flowResetRow : OpenClaim := { program := "ytdgmcckfdgnicaa", sum := "558ab7677ff5b62acd9f65d04cd850c2d4d771417fe554178a5ab9a7f0dbb537", func := "covey/coveylaw25.FlowReset", spec := "flowReset", unfollowed := true, recurses := true, apart := false }
def FlowResetSaid : Prop := flowResetRow.holds Try.pinned (OpenSpec.ofChange flowResetSpec)

/-- ITS FALSE NEIGHBOUR: 'it returns false'. Refute it at one input. -/
def flowResetWrong : ChangeSpec := { name := "flowReset", fn := fun _ => fun
  | [d1, d2, d3, d4, d5] => { results := [.lit (.bool false)], args := [d1, d2, d3, d4, d5] }
  | _ => none }
def FlowResetWrongFalsely : Prop := flowResetRow.holds Try.pinned (OpenSpec.ofChange flowResetWrong)

/-- 'coveylaw25.FlowOnce': WHATEVER THE INPUT: true; the input reads as it did. -/
def flowOnceSpec : ChangeSpec := { name := "flowOnce", fn := fun _ => fun
  | [d1, d2, d3, d4, d5, d6, d7, d8] => { results := [.lit (.bool true)], args := [d1, d2, d3, d4, d5, d6, d7, d8] }
  | _ => none }
def flowOnceRow : OpenClaim := { program := "ytdgmcckfdgnicaa", sum := "558ab7677ff5b62acd9f65d04cd850c2d4d771417fe554178a5ab9a7f0dbb537", func := "covey/coveylaw25.FlowOnce", spec := "flowOnce", unfollowed := true, recurses := true, apart := false }
def FlowOnceSaid : Prop := flowOnceRow.holds Try.pinned (OpenSpec.ofChange flowOnceSpec)

/-- ITS FALSE NEIGHBOUR: 'it returns false'. Refute it at one input. -/
def flowOnceWrong : ChangeSpec := { name := "flowOnce", fn := fun _ => fun
  | [d1, d2, d3, d4, d5, d6, d7, d8] => { results := [.lit (.bool false)], args := [d1, d2, d3, d4, d5, d6, d7, d8] }
  | _ => none }
def FlowOnceWrongFalsely : Prop := flowOnceRow.holds Try.pinned (OpenSpec.ofChange flowOnceWrong)

/-- 'coveylaw25.FlowRound': WHATEVER THE INPUT: true; the input reads as it did. -/
def flowRoundSpec : ChangeSpec := { name := "flowRound", fn := fun _ => fun
  | [d1, d2, d3, d4, d5, d6, d7, d8, d9] => { results := [.lit (.bool true)], args := [d1, d2, d3, d4, d5, d6, d7, d8, d9] }
  | _ => none }
def flowRoundRow : OpenClaim := { program := "ytdgmcckfdgnicaa", sum := "558ab7677ff5b62acd9f65d04cd850c2d4d771417fe554178a5ab9a7f0dbb537", func := "covey/coveylaw25.FlowRound", spec := "flowRound", unfollowed := true, recurses := true, apart := false }
def FlowRoundSaid : Prop := flowRoundRow.holds Try.pinned (OpenSpec.ofChange flowRoundSpec)

/-- ITS FALSE NEIGHBOUR: 'it returns false'. Refute it at one input. -/
def flowRoundWrong : ChangeSpec := { name := "flowRound", fn := fun _ => fun
  | [d1, d2, d3, d4, d5, d6, d7, d8, d9] => { results := [.lit (.bool false)], args := [d1, d2, d3, d4, d5, d6, d7, d8, d9] }
  | _ => none }
def FlowRoundWrongFalsely : Prop := flowRoundRow.holds Try.pinned (OpenSpec.ofChange flowRoundWrong)

/-- 'coveylaw25.FlowLossy': WHATEVER THE INPUT: true; the input reads as it did. -/
def flowLossySpec : ChangeSpec := { name := "flowLossy", fn := fun _ => fun
  | [d1, d2, d3, d4, d5, d6, d7, d8, d9] => { results := [.lit (.bool true)], args := [d1, d2, d3, d4, d5, d6, d7, d8, d9] }
  | _ => none }
def flowLossyRow : OpenClaim := { program := "ytdgmcckfdgnicaa", sum := "558ab7677ff5b62acd9f65d04cd850c2d4d771417fe554178a5ab9a7f0dbb537", func := "covey/coveylaw25.FlowLossy", spec := "flowLossy", unfollowed := true, recurses := true, apart := false }
def FlowLossySaid : Prop := flowLossyRow.holds Try.pinned (OpenSpec.ofChange flowLossySpec)

/-- ITS FALSE NEIGHBOUR: 'it returns false'. Refute it at one input. -/
def flowLossyWrong : ChangeSpec := { name := "flowLossy", fn := fun _ => fun
  | [d1, d2, d3, d4, d5, d6, d7, d8, d9] => { results := [.lit (.bool false)], args := [d1, d2, d3, d4, d5, d6, d7, d8, d9] }
  | _ => none }
def FlowLossyWrongFalsely : Prop := flowLossyRow.holds Try.pinned (OpenSpec.ofChange flowLossyWrong)

/-- 'coveylaw25.FlowAll': WHATEVER THE INPUT: true; the input reads as it did. -/
def flowAllSpec : ChangeSpec := { name := "flowAll", fn := fun _ => fun
  | [d1, d2, d3, d4, d5, d6, d7] => { results := [.lit (.bool true)], args := [d1, d2, d3, d4, d5, d6, d7] }
  | _ => none }
def flowAllRow : OpenClaim := { program := "ytdgmcckfdgnicaa", sum := "558ab7677ff5b62acd9f65d04cd850c2d4d771417fe554178a5ab9a7f0dbb537", func := "covey/coveylaw25.FlowAll", spec := "flowAll", unfollowed := true, recurses := true, apart := false }
def FlowAllSaid : Prop := flowAllRow.holds Try.pinned (OpenSpec.ofChange flowAllSpec)

/-- ITS FALSE NEIGHBOUR: 'it returns false'. Refute it at one input. -/
def flowAllWrong : ChangeSpec := { name := "flowAll", fn := fun _ => fun
  | [d1, d2, d3, d4, d5, d6, d7] => { results := [.lit (.bool false)], args := [d1, d2, d3, d4, d5, d6, d7] }
  | _ => none }
def FlowAllWrongFalsely : Prop := flowAllRow.holds Try.pinned (OpenSpec.ofChange flowAllWrong)

/- THE SECOND FORM. 'bulk': how many values and letters a reading holds, each counted each time it is reached (what is shared counts as often as it is met; a slice's spare places count too). A statement '..UptoSaid' is the law's where the arguments, and the package variables that the reading takes, are together of bulk at most 1048576: NARROWER than '..Said'. Prove '..Said' where nothing that the law and all that it calls make is longer than what came in: it says more and counts as full. Else prove '..UptoSaid'. A law counts once. -/
mutual
def uptoBulk {H : Type} : DataW H → Nat
  | .lit (.string bytes) => bytes.length + 1
  | .lit _ => 1
  | .nil => 1
  | .ptr d => uptoBulk d + 1
  | .slice elems spare => uptoBulkAll elems + uptoBulkAll spare + 1
  | .agg parts => uptoBulkAll parts + 1
  | .iface _ d => uptoBulk d + 1
  | .map entries => uptoBulkEntries entries + 1
  | .held _ => 1
def uptoBulkAll {H : Type} : List (DataW H) → Nat
  | [] => 0
  | d :: r => uptoBulk d + uptoBulkAll r
def uptoBulkEntries {H : Type} : List (Lit × DataW H) → Nat
  | [] => 0
  | x :: r => uptoBulkEntry x + uptoBulkEntries r
def uptoBulkEntry {H : Type} : Lit × DataW H → Nat
  | (.string bytes, d) => bytes.length + uptoBulk d + 1
  | (_, d) => uptoBulk d + 1
 end
def uptoSmall : (H : Type) → List (DataW H) → Bool := fun _ ds => decide (uptoBulkAll ds ≤ 1048576)
def OpenSpec.upto (s : _root_.Go.ChangeSpec) : _root_.Go.OpenSpec := { _root_.Go.OpenSpec.ofChange s with cond := some uptoSmall }

/-- 'coveylaw25.FlowReset', WHERE WHAT IT READS IS OF BULK AT MOST 1048576: true; the input reads as it did. -/
def flowResetUptoRow : OpenClaim := { program := "ytdgmcckfdgnicaa", sum := "558ab7677ff5b62acd9f65d04cd850c2d4d771417fe554178a5ab9a7f0dbb537", func := "covey/coveylaw25.FlowReset", spec := "flowReset", unfollowed := true, recurses := true, apart := false, narrowed := true }
def FlowResetUptoSaid : Prop := flowResetUptoRow.holds Try.pinned (OpenSpec.upto flowResetSpec)

/-- 'coveylaw25.FlowOnce', WHERE WHAT IT READS IS OF BULK AT MOST 1048576: true; the input reads as it did. -/
def flowOnceUptoRow : OpenClaim := { program := "ytdgmcckfdgnicaa", sum := "558ab7677ff5b62acd9f65d04cd850c2d4d771417fe554178a5ab9a7f0dbb537", func := "covey/coveylaw25.FlowOnce", spec := "flowOnce", unfollowed := true, recurses := true, apart := false, narrowed := true }
def FlowOnceUptoSaid : Prop := flowOnceUptoRow.holds Try.pinned (OpenSpec.upto flowOnceSpec)

/-- 'coveylaw25.FlowRound', WHERE WHAT IT READS IS OF BULK AT MOST 1048576: true; the input reads as it did. -/
def flowRoundUptoRow : OpenClaim := { program := "ytdgmcckfdgnicaa", sum := "558ab7677ff5b62acd9f65d04cd850c2d4d771417fe554178a5ab9a7f0dbb537", func := "covey/coveylaw25.FlowRound", spec := "flowRound", unfollowed := true, recurses := true, apart := false, narrowed := true }
def FlowRoundUptoSaid : Prop := flowRoundUptoRow.holds Try.pinned (OpenSpec.upto flowRoundSpec)

/-- 'coveylaw25.FlowLossy', WHERE WHAT IT READS IS OF BULK AT MOST 1048576: true; the input reads as it did. -/
def flowLossyUptoRow : OpenClaim := { program := "ytdgmcckfdgnicaa", sum := "558ab7677ff5b62acd9f65d04cd850c2d4d771417fe554178a5ab9a7f0dbb537", func := "covey/coveylaw25.FlowLossy", spec := "flowLossy", unfollowed := true, recurses := true, apart := false, narrowed := true }
def FlowLossyUptoSaid : Prop := flowLossyUptoRow.holds Try.pinned (OpenSpec.upto flowLossySpec)

/-- 'coveylaw25.FlowAll', WHERE WHAT IT READS IS OF BULK AT MOST 1048576: true; the input reads as it did. -/
def flowAllUptoRow : OpenClaim := { program := "ytdgmcckfdgnicaa", sum := "558ab7677ff5b62acd9f65d04cd850c2d4d771417fe554178a5ab9a7f0dbb537", func := "covey/coveylaw25.FlowAll", spec := "flowAll", unfollowed := true, recurses := true, apart := false, narrowed := true }
def FlowAllUptoSaid : Prop := flowAllUptoRow.holds Try.pinned (OpenSpec.upto flowAllSpec)

end Rows
end Go.Proofs.Ytdgmcckfdgnicaa
