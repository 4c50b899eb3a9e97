/-
  DERIVED. GIVEN WITH THE SEED: THE CARDS: each row of YthcdjconlfdidaaDoorRows.lean that lists a variable, with what it lists TIED to the program's text (the seventh form; the later family's looks); each row that meets fmt, with fmt's text TOLD by the authors' own Lean function (tested against real Go, not proved from fmt's source: count such statements apart). THE CARD IS WHAT COUNTS. Prove the row's statement (the work); the ties are given (YthcdjconlfdidaaDoorTie.lean); close each card by the builder's one call (the guide's Derived/Test/ToyasCard.lean, 'card_holds'). Laid BY PROGRAM, IN A SANDBOX (cutbox-door.mjs). By AI agents, Wed Nov 11 2026. No macro, syntax, notation, axiom, sorry.
-/
import Derived.Test.YthcdjconlfdidaaDoorRows
import GoSem.ClaimSeven
namespace Go.Proofs.YthcdjconlfdidaaDoor
namespace Rows

/-- THE TIED CARD OF 'coveylaw02.BencReads'. -/
def bencReadsCard : Claim7 := { stood := { row := bencReadsRow, standIns := [], harness := (true, "8482955d9c90feefeed6fe9cad24977295ce604ff5ad67a659f662eddb1cd412"), looks := true }, kinds := [], alts := [], laidByText := true, laidKinds := [.data, .data, .data, .sentinel, .sentinel], laidTests := true, laidLooks := .later }
def BencReadsCardSaid : Prop := Claim7.holds Tryd.pinned (.plain (OpenSpec.ofChange bencReadsSpec)) bencReadsCard

/-- THE TIED CARD OF 'coveylaw02.BencFirst'. -/
def bencFirstCard : Claim7 := { stood := { row := bencFirstRow, standIns := [], harness := (true, "8482955d9c90feefeed6fe9cad24977295ce604ff5ad67a659f662eddb1cd412"), looks := true }, kinds := [], alts := [], laidByText := true, laidKinds := [.data, .data, .data, .sentinel, .sentinel], laidTests := true, laidLooks := .later }
def BencFirstCardSaid : Prop := Claim7.holds Tryd.pinned (.plain (OpenSpec.ofChange bencFirstSpec)) bencFirstCard

/-- THE TIED CARD OF 'coveylaw02.BencForms'. -/
def bencFormsCard : Claim7 := { stood := { row := bencFormsRow, standIns := [], harness := (true, "8482955d9c90feefeed6fe9cad24977295ce604ff5ad67a659f662eddb1cd412"), looks := true }, kinds := [], alts := [], laidByText := true, laidKinds := [.data, .data, .data, .sentinel, .sentinel], laidTests := true, laidLooks := .later }
def BencFormsCardSaid : Prop := Claim7.holds Tryd.pinned (.plain (OpenSpec.ofChange bencFormsSpec)) bencFormsCard

/-- THE TIED CARD OF 'coveylaw02.BencPlaces'. -/
def bencPlacesCard : Claim7 := { stood := { row := bencPlacesRow, standIns := [], harness := (true, "8482955d9c90feefeed6fe9cad24977295ce604ff5ad67a659f662eddb1cd412"), looks := true }, kinds := [], alts := [], laidByText := true, laidKinds := [.data, .data, .data, .sentinel, .sentinel], laidTests := true, laidLooks := .later }
def BencPlacesCardSaid : Prop := Claim7.holds Tryd.pinned (.plain (OpenSpec.ofChange bencPlacesSpec)) bencPlacesCard

/-- THE TIED CARD OF 'coveylaw02.BencDropped'. -/
def bencDroppedCard : Claim7 := { stood := { row := bencDroppedRow, standIns := [], harness := (true, "8482955d9c90feefeed6fe9cad24977295ce604ff5ad67a659f662eddb1cd412"), looks := true }, kinds := [], alts := [], laidByText := true, laidKinds := [.data, .data, .data, .sentinel, .sentinel], laidTests := true, laidLooks := .later }
def BencDroppedCardSaid : Prop := Claim7.holds Tryd.pinned (.plain (OpenSpec.ofChange bencDroppedSpec)) bencDroppedCard

/-- THE SECOND FORM's CARD OF 'coveylaw02.BencReads'. -/
def bencReadsUptoCard : Claim7 := { stood := { row := bencReadsUptoRow, standIns := [], harness := (true, "8482955d9c90feefeed6fe9cad24977295ce604ff5ad67a659f662eddb1cd412"), looks := true }, kinds := [], alts := [], laidByText := true, laidKinds := [.data, .data, .data, .sentinel, .sentinel], laidTests := true, laidLooks := .later }
def BencReadsUptoCardSaid : Prop := Claim7.holds Tryd.pinned (.plain (OpenSpec.upto bencReadsSpec)) bencReadsUptoCard

/-- THE SECOND FORM's CARD OF 'coveylaw02.BencFirst'. -/
def bencFirstUptoCard : Claim7 := { stood := { row := bencFirstUptoRow, standIns := [], harness := (true, "8482955d9c90feefeed6fe9cad24977295ce604ff5ad67a659f662eddb1cd412"), looks := true }, kinds := [], alts := [], laidByText := true, laidKinds := [.data, .data, .data, .sentinel, .sentinel], laidTests := true, laidLooks := .later }
def BencFirstUptoCardSaid : Prop := Claim7.holds Tryd.pinned (.plain (OpenSpec.upto bencFirstSpec)) bencFirstUptoCard

/-- THE SECOND FORM's CARD OF 'coveylaw02.BencForms'. -/
def bencFormsUptoCard : Claim7 := { stood := { row := bencFormsUptoRow, standIns := [], harness := (true, "8482955d9c90feefeed6fe9cad24977295ce604ff5ad67a659f662eddb1cd412"), looks := true }, kinds := [], alts := [], laidByText := true, laidKinds := [.data, .data, .data, .sentinel, .sentinel], laidTests := true, laidLooks := .later }
def BencFormsUptoCardSaid : Prop := Claim7.holds Tryd.pinned (.plain (OpenSpec.upto bencFormsSpec)) bencFormsUptoCard

/-- THE SECOND FORM's CARD OF 'coveylaw02.BencPlaces'. -/
def bencPlacesUptoCard : Claim7 := { stood := { row := bencPlacesUptoRow, standIns := [], harness := (true, "8482955d9c90feefeed6fe9cad24977295ce604ff5ad67a659f662eddb1cd412"), looks := true }, kinds := [], alts := [], laidByText := true, laidKinds := [.data, .data, .data, .sentinel, .sentinel], laidTests := true, laidLooks := .later }
def BencPlacesUptoCardSaid : Prop := Claim7.holds Tryd.pinned (.plain (OpenSpec.upto bencPlacesSpec)) bencPlacesUptoCard

/-- THE SECOND FORM's CARD OF 'coveylaw02.BencDropped'. -/
def bencDroppedUptoCard : Claim7 := { stood := { row := bencDroppedUptoRow, standIns := [], harness := (true, "8482955d9c90feefeed6fe9cad24977295ce604ff5ad67a659f662eddb1cd412"), looks := true }, kinds := [], alts := [], laidByText := true, laidKinds := [.data, .data, .data, .sentinel, .sentinel], laidTests := true, laidLooks := .later }
def BencDroppedUptoCardSaid : Prop := Claim7.holds Tryd.pinned (.plain (OpenSpec.upto bencDroppedSpec)) bencDroppedUptoCard
end Rows
end Go.Proofs.YthcdjconlfdidaaDoor
