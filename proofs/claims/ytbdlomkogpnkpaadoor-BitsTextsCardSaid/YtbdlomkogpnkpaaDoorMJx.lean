/-
  The walk of the specification's fields of bits: Next, Rank, Select.
-/
import Derived.Test.YtbdlomkogpnkpaaDoorMG
set_option linter.unusedVariables false
set_option linter.unusedSimpArgs false
set_option maxRecDepth 20000
namespace Go.Proofs.YtbdlomkogpnkpaaDoor
open Go Go.Aw Go.Proofs Go.Shelf Go.RowKit Go.ChangeShapes
theorem rListP (n : Nat) (h : n ≤ 4096) (s : List UInt8) (hv : validB n s) (h0 : 0 < (allL s).length) (H : AHeap) : ARet Tryd.prog 35 [.int .i64 (n : Nat), .string (bs s)] H (.tuple ⟨[.slice (some ⟨H.length, 0, none⟩) (allL s).length (allL s).length, .int .i64 0]⟩) (H ++ [.cells (natsC (allL s)) ⟨3, 1, true, 0, none⟩]) := by
  have := rListC n h s hv H
  rwa [gS_pos h0, natsO, gO_ne (natsC_ne h0)] at this
theorem rList0 (n : Nat) (h : n ≤ 4096) (s : List UInt8) (hv : validB n s) (h0 : allL s = []) (H : AHeap) : ARet Tryd.prog 35 [.int .i64 (n : Nat), .string (bs s)] H (.tuple ⟨[.slice none 0 0, .int .i64 0]⟩) (H ++ [.dead]) := by
  have := rListC n h s hv H
  rw [h0] at this
  exact this
end Go.Proofs.YtbdlomkogpnkpaaDoor
