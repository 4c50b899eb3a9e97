/-
  No cell of these rows narrows 'for every input' (looked for: loops, veiled, ifaces, maps, wideKeys, modest, calm, conditions, laid).
  DERIVED. THE GIVEN ROWS OF THIS SEAT. 6 by the template 'for every input the law returns true; each argument reads behind the call as it read before'; 0 by the template 'total and deterministic' (their statements: YtdeoaadkngiilaaTotals.lean).
  GIVEN WITH THE SEED: the statements are not yours to turn. If you find one false, say at which input.
  Laid BY PROGRAM, IN A SANDBOX (cutbox-rows.mjs): the forced cells as the released guide's own fill.sh prints them over the translation 820a532d1c488b4b… (all of the seat's roots in one cut). By AI agents, Wed Nov 11 2026. No macro, syntax, notation, axiom, sorry.
-/
import Derived.Test.YtdeoaadkngiilaaChecked
import GoSem.Claim
import GoSem.ClaimJoined
import GoSem.ClaimMapViews
import Derived.JoinedTies
import Derived.KernelRfl
namespace Go.Proofs.Ytdeoaadkngiilaa
/- THE CELL 'sum', in the pinned program and in every row, IS THE sha256 OF THE DUMP (.gsa) THAT YtdeoaadkngiilaaProg.lean LOADS. Nothing in Lean hashes anything: it is a label: what it is worth is what the hold of that sum in a sandbox is worth. -/
noncomputable def Try.pinned : Pinned := { name := "ytdeoaadkngiilaa", sum := "820a532d1c488b4b1049dcb146ffe096e4c209f5eac29ab656376f75327fbb47", checked := Try.checked }
namespace Rows
def none {H : Type} : Left H := { results := [], args := [] }

/-- 'coveylaw03.HashChains': WHATEVER THE INPUT: true; the input reads as it did. -/
def hashChainsSpec : ChangeSpec := { name := "hashChains", fn := fun _ => fun
  | [d1, d2, d3] => { results := [.lit (.bool true)], args := [d1, d2, d3] }
  | _ => none }
def hashChainsRow : OpenClaim := { program := "ytdeoaadkngiilaa", sum := "820a532d1c488b4b1049dcb146ffe096e4c209f5eac29ab656376f75327fbb47", func := "covey/coveylaw03.HashChains", spec := "hashChains", inPlace := ["internal/abi.NoEscape", "internal/bytealg.MakeNoZero"], unfollowed := true, recurses := true, apart := false }
def HashChainsSaid : Prop := hashChainsRow.holds Try.pinned (OpenSpec.ofChange hashChainsSpec)

/-- ITS FALSE NEIGHBOUR: 'it returns false'. Refute it at one input. -/
def hashChainsWrong : ChangeSpec := { name := "hashChains", fn := fun _ => fun
  | [d1, d2, d3] => { results := [.lit (.bool false)], args := [d1, d2, d3] }
  | _ => none }
def HashChainsWrongFalsely : Prop := hashChainsRow.holds Try.pinned (OpenSpec.ofChange hashChainsWrong)

/-- 'coveylaw03.HashBits': WHATEVER THE INPUT: true; the input reads as it did. -/
def hashBitsSpec : ChangeSpec := { name := "hashBits", fn := fun _ => fun
  | [d1, d2, d3] => { results := [.lit (.bool true)], args := [d1, d2, d3] }
  | _ => none }
def hashBitsRow : OpenClaim := { program := "ytdeoaadkngiilaa", sum := "820a532d1c488b4b1049dcb146ffe096e4c209f5eac29ab656376f75327fbb47", func := "covey/coveylaw03.HashBits", spec := "hashBits", inPlace := ["internal/abi.NoEscape", "internal/bytealg.MakeNoZero"], unfollowed := true, recurses := true, apart := false }
def HashBitsSaid : Prop := hashBitsRow.holds Try.pinned (OpenSpec.ofChange hashBitsSpec)

/-- ITS FALSE NEIGHBOUR: 'it returns false'. Refute it at one input. -/
def hashBitsWrong : ChangeSpec := { name := "hashBits", fn := fun _ => fun
  | [d1, d2, d3] => { results := [.lit (.bool false)], args := [d1, d2, d3] }
  | _ => none }
def HashBitsWrongFalsely : Prop := hashBitsRow.holds Try.pinned (OpenSpec.ofChange hashBitsWrong)

/-- 'coveylaw03.HashSums': WHATEVER THE INPUT: true; the input reads as it did. -/
def hashSumsSpec : ChangeSpec := { name := "hashSums", fn := fun _ => fun
  | [d1, d2, d3] => { results := [.lit (.bool true)], args := [d1, d2, d3] }
  | _ => none }
def hashSumsRow : OpenClaim := { program := "ytdeoaadkngiilaa", sum := "820a532d1c488b4b1049dcb146ffe096e4c209f5eac29ab656376f75327fbb47", func := "covey/coveylaw03.HashSums", spec := "hashSums", inPlace := ["internal/abi.NoEscape", "internal/bytealg.MakeNoZero"], unfollowed := true, recurses := true, apart := false }
def HashSumsSaid : Prop := hashSumsRow.holds Try.pinned (OpenSpec.ofChange hashSumsSpec)

/-- ITS FALSE NEIGHBOUR: 'it returns false'. Refute it at one input. -/
def hashSumsWrong : ChangeSpec := { name := "hashSums", fn := fun _ => fun
  | [d1, d2, d3] => { results := [.lit (.bool false)], args := [d1, d2, d3] }
  | _ => none }
def HashSumsWrongFalsely : Prop := hashSumsRow.holds Try.pinned (OpenSpec.ofChange hashSumsWrong)

/-- 'coveylaw03.HashPieces': WHATEVER THE INPUT: true; the input reads as it did. -/
def hashPiecesSpec : ChangeSpec := { name := "hashPieces", fn := fun _ => fun
  | [d1, d2] => { results := [.lit (.bool true)], args := [d1, d2] }
  | _ => none }
def hashPiecesRow : OpenClaim := { program := "ytdeoaadkngiilaa", sum := "820a532d1c488b4b1049dcb146ffe096e4c209f5eac29ab656376f75327fbb47", func := "covey/coveylaw03.HashPieces", spec := "hashPieces", inPlace := ["internal/abi.NoEscape", "internal/bytealg.MakeNoZero"], unfollowed := true, recurses := true, apart := false }
def HashPiecesSaid : Prop := hashPiecesRow.holds Try.pinned (OpenSpec.ofChange hashPiecesSpec)

/-- ITS FALSE NEIGHBOUR: 'it returns false'. Refute it at one input. -/
def hashPiecesWrong : ChangeSpec := { name := "hashPieces", fn := fun _ => fun
  | [d1, d2] => { results := [.lit (.bool false)], args := [d1, d2] }
  | _ => none }
def HashPiecesWrongFalsely : Prop := hashPiecesRow.holds Try.pinned (OpenSpec.ofChange hashPiecesWrong)

/-- 'coveylaw03.HashMasks': WHATEVER THE INPUT: true; the input reads as it did. -/
def hashMasksSpec : ChangeSpec := { name := "hashMasks", fn := fun _ => fun
  | [d1, d2] => { results := [.lit (.bool true)], args := [d1, d2] }
  | _ => none }
def hashMasksRow : OpenClaim := { program := "ytdeoaadkngiilaa", sum := "820a532d1c488b4b1049dcb146ffe096e4c209f5eac29ab656376f75327fbb47", func := "covey/coveylaw03.HashMasks", spec := "hashMasks", inPlace := ["internal/abi.NoEscape", "internal/bytealg.MakeNoZero"], unfollowed := true, recurses := true, apart := false }
def HashMasksSaid : Prop := hashMasksRow.holds Try.pinned (OpenSpec.ofChange hashMasksSpec)

/-- ITS FALSE NEIGHBOUR: 'it returns false'. Refute it at one input. -/
def hashMasksWrong : ChangeSpec := { name := "hashMasks", fn := fun _ => fun
  | [d1, d2] => { results := [.lit (.bool false)], args := [d1, d2] }
  | _ => none }
def HashMasksWrongFalsely : Prop := hashMasksRow.holds Try.pinned (OpenSpec.ofChange hashMasksWrong)

/-- 'coveylaw03.HashHex': WHATEVER THE INPUT: true; the input reads as it did. -/
def hashHexSpec : ChangeSpec := { name := "hashHex", fn := fun _ => fun
  | [d1, d2] => { results := [.lit (.bool true)], args := [d1, d2] }
  | _ => none }
def hashHexRow : OpenClaim := { program := "ytdeoaadkngiilaa", sum := "820a532d1c488b4b1049dcb146ffe096e4c209f5eac29ab656376f75327fbb47", func := "covey/coveylaw03.HashHex", spec := "hashHex", inPlace := ["internal/abi.NoEscape", "internal/bytealg.MakeNoZero", "internal/bytealg.IndexByteString"], unfollowed := true, recurses := true, apart := false }
def HashHexSaid : Prop := hashHexRow.holds Try.pinned (OpenSpec.ofChange hashHexSpec)

/-- ITS FALSE NEIGHBOUR: 'it returns false'. Refute it at one input. -/
def hashHexWrong : ChangeSpec := { name := "hashHex", fn := fun _ => fun
  | [d1, d2] => { results := [.lit (.bool false)], args := [d1, d2] }
  | _ => none }
def HashHexWrongFalsely : Prop := hashHexRow.holds Try.pinned (OpenSpec.ofChange hashHexWrong)

/- THE SECOND FORM. 'bulk': how many values and letters a reading holds, each counted each time it is reached (what is shared counts as often as it is met; a slice's spare places count too). A statement '..UptoSaid' is the law's where the arguments, and the package variables that the reading takes, are together of bulk at most 1048576: NARROWER than '..Said'. Prove '..Said' where nothing that the law and all that it calls make is longer than what came in: it says more and counts as full. Else prove '..UptoSaid'. A law counts once. -/
mutual
def uptoBulk {H : Type} : DataW H → Nat
  | .lit (.string bytes) => bytes.length + 1
  | .lit _ => 1
  | .nil => 1
  | .ptr d => uptoBulk d + 1
  | .slice elems spare => uptoBulkAll elems + uptoBulkAll spare + 1
  | .agg parts => uptoBulkAll parts + 1
  | .iface _ d => uptoBulk d + 1
  | .map entries => uptoBulkEntries entries + 1
  | .held _ => 1
def uptoBulkAll {H : Type} : List (DataW H) → Nat
  | [] => 0
  | d :: r => uptoBulk d + uptoBulkAll r
def uptoBulkEntries {H : Type} : List (Lit × DataW H) → Nat
  | [] => 0
  | x :: r => uptoBulkEntry x + uptoBulkEntries r
def uptoBulkEntry {H : Type} : Lit × DataW H → Nat
  | (.string bytes, d) => bytes.length + uptoBulk d + 1
  | (_, d) => uptoBulk d + 1
 end
def uptoSmall : (H : Type) → List (DataW H) → Bool := fun _ ds => decide (uptoBulkAll ds ≤ 1048576)
def OpenSpec.upto (s : _root_.Go.ChangeSpec) : _root_.Go.OpenSpec := { _root_.Go.OpenSpec.ofChange s with cond := some uptoSmall }

/-- 'coveylaw03.HashChains', WHERE WHAT IT READS IS OF BULK AT MOST 1048576: true; the input reads as it did. -/
def hashChainsUptoRow : OpenClaim := { program := "ytdeoaadkngiilaa", sum := "820a532d1c488b4b1049dcb146ffe096e4c209f5eac29ab656376f75327fbb47", func := "covey/coveylaw03.HashChains", spec := "hashChains", inPlace := ["internal/abi.NoEscape", "internal/bytealg.MakeNoZero"], unfollowed := true, recurses := true, apart := false, narrowed := true }
def HashChainsUptoSaid : Prop := hashChainsUptoRow.holds Try.pinned (OpenSpec.upto hashChainsSpec)

/-- 'coveylaw03.HashBits', WHERE WHAT IT READS IS OF BULK AT MOST 1048576: true; the input reads as it did. -/
def hashBitsUptoRow : OpenClaim := { program := "ytdeoaadkngiilaa", sum := "820a532d1c488b4b1049dcb146ffe096e4c209f5eac29ab656376f75327fbb47", func := "covey/coveylaw03.HashBits", spec := "hashBits", inPlace := ["internal/abi.NoEscape", "internal/bytealg.MakeNoZero"], unfollowed := true, recurses := true, apart := false, narrowed := true }
def HashBitsUptoSaid : Prop := hashBitsUptoRow.holds Try.pinned (OpenSpec.upto hashBitsSpec)

/-- 'coveylaw03.HashSums', WHERE WHAT IT READS IS OF BULK AT MOST 1048576: true; the input reads as it did. -/
def hashSumsUptoRow : OpenClaim := { program := "ytdeoaadkngiilaa", sum := "820a532d1c488b4b1049dcb146ffe096e4c209f5eac29ab656376f75327fbb47", func := "covey/coveylaw03.HashSums", spec := "hashSums", inPlace := ["internal/abi.NoEscape", "internal/bytealg.MakeNoZero"], unfollowed := true, recurses := true, apart := false, narrowed := true }
def HashSumsUptoSaid : Prop := hashSumsUptoRow.holds Try.pinned (OpenSpec.upto hashSumsSpec)

/-- 'coveylaw03.HashPieces', WHERE WHAT IT READS IS OF BULK AT MOST 1048576: true; the input reads as it did. -/
def hashPiecesUptoRow : OpenClaim := { program := "ytdeoaadkngiilaa", sum := "820a532d1c488b4b1049dcb146ffe096e4c209f5eac29ab656376f75327fbb47", func := "covey/coveylaw03.HashPieces", spec := "hashPieces", inPlace := ["internal/abi.NoEscape", "internal/bytealg.MakeNoZero"], unfollowed := true, recurses := true, apart := false, narrowed := true }
def HashPiecesUptoSaid : Prop := hashPiecesUptoRow.holds Try.pinned (OpenSpec.upto hashPiecesSpec)

/-- 'coveylaw03.HashMasks', WHERE WHAT IT READS IS OF BULK AT MOST 1048576: true; the input reads as it did. -/
def hashMasksUptoRow : OpenClaim := { program := "ytdeoaadkngiilaa", sum := "820a532d1c488b4b1049dcb146ffe096e4c209f5eac29ab656376f75327fbb47", func := "covey/coveylaw03.HashMasks", spec := "hashMasks", inPlace := ["internal/abi.NoEscape", "internal/bytealg.MakeNoZero"], unfollowed := true, recurses := true, apart := false, narrowed := true }
def HashMasksUptoSaid : Prop := hashMasksUptoRow.holds Try.pinned (OpenSpec.upto hashMasksSpec)

/-- 'coveylaw03.HashHex', WHERE WHAT IT READS IS OF BULK AT MOST 1048576: true; the input reads as it did. -/
def hashHexUptoRow : OpenClaim := { program := "ytdeoaadkngiilaa", sum := "820a532d1c488b4b1049dcb146ffe096e4c209f5eac29ab656376f75327fbb47", func := "covey/coveylaw03.HashHex", spec := "hashHex", inPlace := ["internal/abi.NoEscape", "internal/bytealg.MakeNoZero", "internal/bytealg.IndexByteString"], unfollowed := true, recurses := true, apart := false, narrowed := true }
def HashHexUptoSaid : Prop := hashHexUptoRow.holds Try.pinned (OpenSpec.upto hashHexSpec)

end Rows
end Go.Proofs.Ytdeoaadkngiilaa
