/-
  DERIVED. GIVEN WITH THE SEED: THE CARDS: each row of YtdeoaadkngiilaaDoorRows.lean that lists a variable, with what it lists TIED to the program's text (the seventh form; the later family's looks); each row that meets fmt, with fmt's text TOLD by the authors' own Lean function (tested against real Go, not proved from fmt's source: count such statements apart). THE CARD IS WHAT COUNTS. Prove the row's statement (the work); the ties are given (YtdeoaadkngiilaaDoorTie.lean); close each card by the builder's one call (the guide's Derived/Test/ToyasCard.lean, 'card_holds'). Laid BY PROGRAM, IN A SANDBOX (cutbox-door.mjs). By AI agents, Wed Nov 11 2026. No macro, syntax, notation, axiom, sorry.
-/
import Derived.Test.YtdeoaadkngiilaaDoorRows
import GoSem.ClaimSeven
namespace Go.Proofs.YtdeoaadkngiilaaDoor
namespace Rows

/-- THE TIED CARD OF 'coveylaw03.HashDraws'. -/
def hashDrawsCard : Claim7 := { stood := { row := hashDrawsRow, standIns := [], harness := (true, "3aa610fc1f9b03cc4fce188253df2a5adc9e5cae29dea6fbc8253e0a6eb9a559"), looks := false }, kinds := [], alts := [], laidByText := true, laidKinds := [.data, .data, .data], laidTests := true, laidLooks := .later }
def HashDrawsCardSaid : Prop := Claim7.holds Tryd.pinned (.plain (OpenSpec.ofChange hashDrawsSpec)) hashDrawsCard

/-- THE TIED CARD OF 'coveylaw03.HashStreams'. -/
def hashStreamsCard : Claim7 := { stood := { row := hashStreamsRow, standIns := [], harness := (true, "3aa610fc1f9b03cc4fce188253df2a5adc9e5cae29dea6fbc8253e0a6eb9a559"), looks := false }, kinds := [], alts := [], laidByText := true, laidKinds := [.data, .data, .data], laidTests := true, laidLooks := .later }
def HashStreamsCardSaid : Prop := Claim7.holds Tryd.pinned (.plain (OpenSpec.ofChange hashStreamsSpec)) hashStreamsCard

/-- THE SECOND FORM's CARD OF 'coveylaw03.HashDraws'. -/
def hashDrawsUptoCard : Claim7 := { stood := { row := hashDrawsUptoRow, standIns := [], harness := (true, "3aa610fc1f9b03cc4fce188253df2a5adc9e5cae29dea6fbc8253e0a6eb9a559"), looks := false }, kinds := [], alts := [], laidByText := true, laidKinds := [.data, .data, .data], laidTests := true, laidLooks := .later }
def HashDrawsUptoCardSaid : Prop := Claim7.holds Tryd.pinned (.plain (OpenSpec.upto hashDrawsSpec)) hashDrawsUptoCard

/-- THE SECOND FORM's CARD OF 'coveylaw03.HashStreams'. -/
def hashStreamsUptoCard : Claim7 := { stood := { row := hashStreamsUptoRow, standIns := [], harness := (true, "3aa610fc1f9b03cc4fce188253df2a5adc9e5cae29dea6fbc8253e0a6eb9a559"), looks := false }, kinds := [], alts := [], laidByText := true, laidKinds := [.data, .data, .data], laidTests := true, laidLooks := .later }
def HashStreamsUptoCardSaid : Prop := Claim7.holds Tryd.pinned (.plain (OpenSpec.upto hashStreamsSpec)) hashStreamsUptoCard
end Rows
end Go.Proofs.YtdeoaadkngiilaaDoor
