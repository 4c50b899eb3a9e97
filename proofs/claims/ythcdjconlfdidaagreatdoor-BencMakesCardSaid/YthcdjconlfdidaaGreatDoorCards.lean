/-
  DERIVED. GIVEN WITH THE SEED: THE CARDS: each row of YthcdjconlfdidaaGreatDoorRows.lean that lists a variable, with what it lists TIED to the program's text (the seventh form; the later family's looks); each row that meets fmt, with fmt's text TOLD by the authors' own Lean function (tested against real Go, not proved from fmt's source: count such statements apart). THE CARD IS WHAT COUNTS. Prove the row's statement (the work); the ties are given (YthcdjconlfdidaaGreatDoorTie.lean); close each card by the builder's one call (the guide's Derived/Test/ToyasCard.lean, 'card_holds'). Laid BY PROGRAM, IN A SANDBOX (cutbox-door.mjs). By AI agents, Wed Nov 11 2026. No macro, syntax, notation, axiom, sorry.
-/
import Derived.Test.YthcdjconlfdidaaGreatDoorRows
import GoSem.ClaimSeven
namespace Go.Proofs.YthcdjconlfdidaaGreatDoor
namespace Rows

/-- THE TIED CARD OF 'coveylaw02.BencMakes'. -/
def bencMakesCard : Claim7 := { stood := { row := bencMakesRow, standIns := [], harness := (true, "104ae9c22bae06081769cd408683e6ad80f20d3cbd3b604c15c2bf32460bbde2"), looks := true }, kinds := [], alts := [], laidByText := true, laidKinds := [.data, .data, .data, .sentinel, .sentinel], laidTests := true, laidLooks := .later }
def BencMakesCardSaid : Prop := Claim7.holds Tryz.pinned (.plain (OpenSpec.ofChange bencMakesSpec)) bencMakesCard

/-- THE TIED CARD OF 'coveylaw02.BencPaths'. -/
def bencPathsCard : Claim7 := { stood := { row := bencPathsRow, standIns := [], harness := (true, "104ae9c22bae06081769cd408683e6ad80f20d3cbd3b604c15c2bf32460bbde2"), looks := true }, kinds := [], alts := [], laidByText := true, laidKinds := [.data, .data, .data, .sentinel, .sentinel], laidTests := true, laidLooks := .later }
def BencPathsCardSaid : Prop := Claim7.holds Tryz.pinned (.plain (OpenSpec.ofChange bencPathsSpec)) bencPathsCard

/-- THE SECOND FORM's CARD OF 'coveylaw02.BencMakes'. -/
def bencMakesUptoCard : Claim7 := { stood := { row := bencMakesUptoRow, standIns := [], harness := (true, "104ae9c22bae06081769cd408683e6ad80f20d3cbd3b604c15c2bf32460bbde2"), looks := true }, kinds := [], alts := [], laidByText := true, laidKinds := [.data, .data, .data, .sentinel, .sentinel], laidTests := true, laidLooks := .later }
def BencMakesUptoCardSaid : Prop := Claim7.holds Tryz.pinned (.plain (OpenSpec.upto bencMakesSpec)) bencMakesUptoCard

/-- THE SECOND FORM's CARD OF 'coveylaw02.BencPaths'. -/
def bencPathsUptoCard : Claim7 := { stood := { row := bencPathsUptoRow, standIns := [], harness := (true, "104ae9c22bae06081769cd408683e6ad80f20d3cbd3b604c15c2bf32460bbde2"), looks := true }, kinds := [], alts := [], laidByText := true, laidKinds := [.data, .data, .data, .sentinel, .sentinel], laidTests := true, laidLooks := .later }
def BencPathsUptoCardSaid : Prop := Claim7.holds Tryz.pinned (.plain (OpenSpec.upto bencPathsSpec)) bencPathsUptoCard
end Rows
end Go.Proofs.YthcdjconlfdidaaGreatDoor
