/-
  DERIVED. GIVEN WITH THE SEED: THE CARDS: each row of YtnfkbgpbligloaaDoorRows.lean that lists a variable, with what it lists TIED to the program's text (the seventh form; the later family's looks); each row that meets fmt, with fmt's text TOLD by the authors' own Lean function (tested against real Go, not proved from fmt's source: count such statements apart). THE CARD IS WHAT COUNTS. Prove the row's statement (the work); the ties are given (YtnfkbgpbligloaaDoorTie.lean); close each card by the builder's one call (the guide's Derived/Test/ToyasCard.lean, 'card_holds'). Laid BY PROGRAM, IN A SANDBOX (cutbox-door.mjs). By AI agents, Wed Nov 11 2026. No macro, syntax, notation, axiom, sorry.
-/
import Derived.Test.YtnfkbgpbligloaaDoorRows
import GoSem.ClaimSeven
namespace Go.Proofs.YtnfkbgpbligloaaDoor
namespace Rows

/-- THE TIED CARD OF 'coveylaw24.LinkInSteps'. -/
def linkInStepsCard : Claim7 := { stood := { row := linkInStepsRow, standIns := [], harness := (true, "08f6c1618978cb75fc11fbde8f84912d3e726ea956c699aaee5ab0ac25b3613e"), looks := false }, kinds := [], alts := [], laidByText := true, laidKinds := [.data, .data, .data, .data, .pinned, .pinned, .pinned, .pinned, .pinned, .pinned], laidTests := true, laidLooks := .later }
def LinkInStepsCardSaid : Prop := Claim7.holds Tryd.pinned (.plain (OpenSpec.ofChange linkInStepsSpec)) linkInStepsCard

/-- THE SECOND FORM's CARD OF 'coveylaw24.LinkInSteps'. -/
def linkInStepsUptoCard : Claim7 := { stood := { row := linkInStepsUptoRow, standIns := [], harness := (true, "08f6c1618978cb75fc11fbde8f84912d3e726ea956c699aaee5ab0ac25b3613e"), looks := false }, kinds := [], alts := [], laidByText := true, laidKinds := [.data, .data, .data, .data, .pinned, .pinned, .pinned, .pinned, .pinned, .pinned], laidTests := true, laidLooks := .later }
def LinkInStepsUptoCardSaid : Prop := Claim7.holds Tryd.pinned (.plain (OpenSpec.upto linkInStepsSpec)) linkInStepsUptoCard
end Rows
end Go.Proofs.YtnfkbgpbligloaaDoor
