/-
  DERIVED. GIVEN WITH THE SEED: THE CARDS: each row of YtmpkgdilmkeacaaDoorRows.lean that lists a variable, with what it lists TIED to the program's text (the seventh form; the later family's looks); each row that meets fmt, with fmt's text TOLD by the authors' own Lean function (tested against real Go, not proved from fmt's source: count such statements apart). THE CARD IS WHAT COUNTS. Prove the row's statement (the work); the ties are given (YtmpkgdilmkeacaaDoorTie.lean); close each card by the builder's one call (the guide's Derived/Test/ToyasCard.lean, 'card_holds'). Laid BY PROGRAM, IN A SANDBOX (cutbox-door.mjs). By AI agents, Wed Nov 11 2026. No macro, syntax, notation, axiom, sorry.
-/
import Derived.Test.YtmpkgdilmkeacaaDoorRows
import GoSem.ClaimSeven
namespace Go.Proofs.YtmpkgdilmkeacaaDoor
namespace Rows

/-- THE TIED CARD OF 'coveylaw14.TokenHolds'. -/
def tokenHoldsCard : Claim7 := { stood := { row := tokenHoldsRow, standIns := [], harness := (true, "a453307ccd81af45896e08778251ec5c349d86430de3df4112ce0e45af27eeea"), looks := false }, kinds := [], alts := [], laidByText := true, laidKinds := [.data, .data, .data], laidTests := true, laidLooks := .later }
def TokenHoldsCardSaid : Prop := Claim7.holds Tryd.pinned (.plain (OpenSpec.ofChange tokenHoldsSpec)) tokenHoldsCard

/-- THE TIED CARD OF 'coveylaw14.TokenMost'. -/
def tokenMostCard : Claim7 := { stood := { row := tokenMostRow, standIns := [], harness := (true, "a453307ccd81af45896e08778251ec5c349d86430de3df4112ce0e45af27eeea"), looks := false }, kinds := [], alts := [], laidByText := true, laidKinds := [.data, .data, .data], laidTests := true, laidLooks := .later }
def TokenMostCardSaid : Prop := Claim7.holds Tryd.pinned (.plain (OpenSpec.ofChange tokenMostSpec)) tokenMostCard

/-- THE TIED CARD OF 'coveylaw14.TokenChanges'. -/
def tokenChangesCard : Claim7 := { stood := { row := tokenChangesRow, standIns := [], harness := (true, "a453307ccd81af45896e08778251ec5c349d86430de3df4112ce0e45af27eeea"), looks := false }, kinds := [], alts := [], laidByText := true, laidKinds := [.data, .data, .data], laidTests := true, laidLooks := .later }
def TokenChangesCardSaid : Prop := Claim7.holds Tryd.pinned (.plain (OpenSpec.ofChange tokenChangesSpec)) tokenChangesCard

/-- THE TIED CARD OF 'coveylaw14.TokenPlays'. -/
def tokenPlaysCard : Claim7 := { stood := { row := tokenPlaysRow, standIns := [], harness := (true, "a453307ccd81af45896e08778251ec5c349d86430de3df4112ce0e45af27eeea"), looks := false }, kinds := [], alts := [], laidByText := true, laidKinds := [.data, .data, .data], laidTests := true, laidLooks := .later }
def TokenPlaysCardSaid : Prop := Claim7.holds Tryd.pinned (.plain (OpenSpec.ofChange tokenPlaysSpec)) tokenPlaysCard

/-- THE TIED CARD OF 'coveylaw12.NodeBits'. -/
def nodeBitsCard : Claim7 := { stood := { row := nodeBitsRow, standIns := [], harness := (true, "a453307ccd81af45896e08778251ec5c349d86430de3df4112ce0e45af27eeea"), looks := false }, kinds := [], alts := [], laidByText := true, laidKinds := [.data, .data, .data], laidTests := true, laidLooks := .later }
def NodeBitsCardSaid : Prop := Claim7.holds Tryd.pinned (.plain (OpenSpec.ofChange nodeBitsSpec)) nodeBitsCard

/-- THE TIED CARD OF 'coveylaw12.NodeSecure'. -/
def nodeSecureCard : Claim7 := { stood := { row := nodeSecureRow, standIns := [], harness := (true, "a453307ccd81af45896e08778251ec5c349d86430de3df4112ce0e45af27eeea"), looks := false }, kinds := [], alts := [], laidByText := true, laidKinds := [.data, .data, .data], laidTests := true, laidLooks := .later }
def NodeSecureCardSaid : Prop := Claim7.holds Tryd.pinned (.plain (OpenSpec.ofChange nodeSecureSpec)) nodeSecureCard

/-- THE SECOND FORM's CARD OF 'coveylaw14.TokenHolds'. -/
def tokenHoldsUptoCard : Claim7 := { stood := { row := tokenHoldsUptoRow, standIns := [], harness := (true, "a453307ccd81af45896e08778251ec5c349d86430de3df4112ce0e45af27eeea"), looks := false }, kinds := [], alts := [], laidByText := true, laidKinds := [.data, .data, .data], laidTests := true, laidLooks := .later }
def TokenHoldsUptoCardSaid : Prop := Claim7.holds Tryd.pinned (.plain (OpenSpec.upto tokenHoldsSpec)) tokenHoldsUptoCard

/-- THE SECOND FORM's CARD OF 'coveylaw14.TokenMost'. -/
def tokenMostUptoCard : Claim7 := { stood := { row := tokenMostUptoRow, standIns := [], harness := (true, "a453307ccd81af45896e08778251ec5c349d86430de3df4112ce0e45af27eeea"), looks := false }, kinds := [], alts := [], laidByText := true, laidKinds := [.data, .data, .data], laidTests := true, laidLooks := .later }
def TokenMostUptoCardSaid : Prop := Claim7.holds Tryd.pinned (.plain (OpenSpec.upto tokenMostSpec)) tokenMostUptoCard

/-- THE SECOND FORM's CARD OF 'coveylaw14.TokenChanges'. -/
def tokenChangesUptoCard : Claim7 := { stood := { row := tokenChangesUptoRow, standIns := [], harness := (true, "a453307ccd81af45896e08778251ec5c349d86430de3df4112ce0e45af27eeea"), looks := false }, kinds := [], alts := [], laidByText := true, laidKinds := [.data, .data, .data], laidTests := true, laidLooks := .later }
def TokenChangesUptoCardSaid : Prop := Claim7.holds Tryd.pinned (.plain (OpenSpec.upto tokenChangesSpec)) tokenChangesUptoCard

/-- THE SECOND FORM's CARD OF 'coveylaw14.TokenPlays'. -/
def tokenPlaysUptoCard : Claim7 := { stood := { row := tokenPlaysUptoRow, standIns := [], harness := (true, "a453307ccd81af45896e08778251ec5c349d86430de3df4112ce0e45af27eeea"), looks := false }, kinds := [], alts := [], laidByText := true, laidKinds := [.data, .data, .data], laidTests := true, laidLooks := .later }
def TokenPlaysUptoCardSaid : Prop := Claim7.holds Tryd.pinned (.plain (OpenSpec.upto tokenPlaysSpec)) tokenPlaysUptoCard

/-- THE SECOND FORM's CARD OF 'coveylaw12.NodeBits'. -/
def nodeBitsUptoCard : Claim7 := { stood := { row := nodeBitsUptoRow, standIns := [], harness := (true, "a453307ccd81af45896e08778251ec5c349d86430de3df4112ce0e45af27eeea"), looks := false }, kinds := [], alts := [], laidByText := true, laidKinds := [.data, .data, .data], laidTests := true, laidLooks := .later }
def NodeBitsUptoCardSaid : Prop := Claim7.holds Tryd.pinned (.plain (OpenSpec.upto nodeBitsSpec)) nodeBitsUptoCard

/-- THE SECOND FORM's CARD OF 'coveylaw12.NodeSecure'. -/
def nodeSecureUptoCard : Claim7 := { stood := { row := nodeSecureUptoRow, standIns := [], harness := (true, "a453307ccd81af45896e08778251ec5c349d86430de3df4112ce0e45af27eeea"), looks := false }, kinds := [], alts := [], laidByText := true, laidKinds := [.data, .data, .data], laidTests := true, laidLooks := .later }
def NodeSecureUptoCardSaid : Prop := Claim7.holds Tryd.pinned (.plain (OpenSpec.upto nodeSecureSpec)) nodeSecureUptoCard
end Rows
end Go.Proofs.YtmpkgdilmkeacaaDoor
