/-
  Taking step by step gives the packets that taking once gives; and two links of the same numbers stand alike.
-/
import Derived.Test.YtnfkbgpbligloaaDoorWM
import Derived.Test.YtnfkbgpbligloaaDoorAwC
import Derived.Test.YtnfkbgpbligloaaDoorRows
import Derived.Test.YtnfkbgpbligloaaDoorCards
import Derived.Test.YtnfkbgpbligloaaDoorTie
import Derived.Deep.DeepHandedRow
import Derived.Stop.LaidErr
import Derived.Lib.LaidSlice
set_option linter.unusedVariables false
set_option maxRecDepth 100000
namespace Go.Proofs.YtnfkbgpbligloaaDoor
open Go Go.Aw Go.Proofs
open Go.ChangeShapes Go.WideShapes Go.ChangeAt Go.RowKit Go.ChangeMaps
theorem Tryd.own : ownKnob Tryd.prog.godebug = none := by kernel_rfl
theorem Tryd.laidOut : laidOutB Tryd.prog = true := by kernel_rfl
def laySet (cs : Array Value) : Obj → Obj
  | .cells _ t frozen => .cells cs t frozen
  | o => o
noncomputable def low : Nat := (World.holding Tryd.prog default ⟨#[], #[], []⟩).heap.size
noncomputable def laidWorld (os : Os) : World :=
  let w0 := World.holding Tryd.prog os ⟨#[.cells (Lib.intCellsOf .u16 Lib.goPrintTabs.p16) 133, .cells (Lib.intCellsOf .u16 Lib.goPrintTabs.n16) 133, .cells (Lib.intCellsOf .u32 Lib.goPrintTabs.p32) 101, .cells (Lib.intCellsOf .u16 Lib.goPrintTabs.n32) 133, .cells (Lib.intCellsOf .u16 Go.Pinned.isGraphicZ) 133], #[], []⟩
  { w0 with heap := ((((((((((w0.heap.modify 8 (laySet #[.int .u8 0, .int .u8 1, .int .u8 28, .int .u8 2, .int .u8 29, .int .u8 14, .int .u8 24, .int .u8 3, .int .u8 30, .int .u8 22, .int .u8 20, .int .u8 15, .int .u8 25, .int .u8 17, .int .u8 4, .int .u8 8, .int .u8 31, .int .u8 27, .int .u8 13, .int .u8 23, .int .u8 21, .int .u8 19, .int .u8 16, .int .u8 7, .int .u8 26, .int .u8 12, .int .u8 18, .int .u8 6, .int .u8 11, .int .u8 5, .int .u8 10, .int .u8 9])).modify 9 (laySet #[.int .u8 0, .int .u8 1, .int .u8 56, .int .u8 2, .int .u8 57, .int .u8 49, .int .u8 28, .int .u8 3, .int .u8 61, .int .u8 58, .int .u8 42, .int .u8 50, .int .u8 38, .int .u8 29, .int .u8 17, .int .u8 4, .int .u8 62, .int .u8 47, .int .u8 59, .int .u8 36, .int .u8 45, .int .u8 43, .int .u8 51, .int .u8 22, .int .u8 53, .int .u8 39, .int .u8 33, .int .u8 30, .int .u8 24, .int .u8 18, .int .u8 12, .int .u8 5, .int .u8 63, .int .u8 55, .int .u8 48, .int .u8 27, .int .u8 60, .int .u8 41, .int .u8 37, .int .u8 16, .int .u8 46, .int .u8 35, .int .u8 44, .int .u8 21, .int .u8 52, .int .u8 32, .int .u8 23, .int .u8 11, .int .u8 54, .int .u8 26, .int .u8 40, .int .u8 15, .int .u8 34, .int .u8 20, .int .u8 31, .int .u8 10, .int .u8 25, .int .u8 14, .int .u8 19, .int .u8 9, .int .u8 13, .int .u8 8, .int .u8 7, .int .u8 6])).modify 0 (laySet #[.int .u64 1, .int .u64 10, .int .u64 100, .int .u64 1000, .int .u64 10000, .int .u64 100000, .int .u64 1000000, .int .u64 10000000, .int .u64 100000000, .int .u64 1000000000, .int .u64 10000000000, .int .u64 100000000000, .int .u64 1000000000000, .int .u64 10000000000000, .int .u64 100000000000000, .int .u64 1000000000000000, .int .u64 10000000000000000, .int .u64 100000000000000000, .int .u64 1000000000000000000, .int .u64 10000000000000000000])).modify 1 (laySet (Lib.firstTab.map fun z => Value.int .u8 z).toArray)).modify 2 (laySet #[.int .u8 128, .int .u8 191, .int .u8 160, .int .u8 191, .int .u8 128, .int .u8 159, .int .u8 144, .int .u8 191, .int .u8 128, .int .u8 143, .int .u8 0, .int .u8 0, .int .u8 0, .int .u8 0, .int .u8 0, .int .u8 0, .int .u8 0, .int .u8 0, .int .u8 0, .int .u8 0, .int .u8 0, .int .u8 0, .int .u8 0, .int .u8 0, .int .u8 0, .int .u8 0, .int .u8 0, .int .u8 0, .int .u8 0, .int .u8 0, .int .u8 0, .int .u8 0])).modify 3 (laySet #[.slice (some ⟨low + 0, 0, none⟩) Lib.goPrintTabs.p16.length Lib.goPrintTabs.p16.length])).modify 4 (laySet #[.slice (some ⟨low + 1, 0, none⟩) Lib.goPrintTabs.n16.length Lib.goPrintTabs.n16.length])).modify 5 (laySet #[.slice (some ⟨low + 2, 0, none⟩) Lib.goPrintTabs.p32.length Lib.goPrintTabs.p32.length])).modify 6 (laySet #[.slice (some ⟨low + 3, 0, none⟩) Lib.goPrintTabs.n32.length Lib.goPrintTabs.n32.length])).modify 7 (laySet #[.slice (some ⟨low + 4, 0, none⟩) Go.Pinned.isGraphicZ.length Go.Pinned.isGraphicZ.length])) }
set_option maxRecDepth 1000000 in
theorem piece0 (os : Os) : LaidIn Tryd.prog ((laidWorld os).forCall (fun _ _ => 0) ⟨#[], #[.agg ⟨[.int .i64 0, .int .i64 0, .int .i64 0, .int .i64 0, .int .i64 0, .int .i64 0]⟩, .slice none 0 0, .slice none 0 0, .slice none 0 0], []⟩).memory [("strconv.isPrint16", Lib.sliceData .u16 Lib.goPrintTabs.p16)] [3, low + 0] :=
  Lib.laidIn_slice (t := 134) (e := 133) (te := 133) Lib.goPrintTabs.p16 (low + 0) (by kernel_rfl) (by kernel_rfl) (by kernel_rfl) (by kernel_rfl) (by kernel_rfl) (by kernel_rfl) (by kernel_rfl) (by kernel_rfl) (of_decide_eq_true (by kernel_rfl)) (of_decide_eq_true (by kernel_rfl))
set_option maxRecDepth 1000000 in
theorem piece1 (os : Os) : LaidIn Tryd.prog ((laidWorld os).forCall (fun _ _ => 0) ⟨#[], #[.agg ⟨[.int .i64 0, .int .i64 0, .int .i64 0, .int .i64 0, .int .i64 0, .int .i64 0]⟩, .slice none 0 0, .slice none 0 0, .slice none 0 0], []⟩).memory [("strconv.isNotPrint16", Lib.sliceData .u16 Lib.goPrintTabs.n16)] [4, low + 1] :=
  Lib.laidIn_slice (t := 134) (e := 133) (te := 133) Lib.goPrintTabs.n16 (low + 1) (by kernel_rfl) (by kernel_rfl) (by kernel_rfl) (by kernel_rfl) (by kernel_rfl) (by kernel_rfl) (by kernel_rfl) (by kernel_rfl) (of_decide_eq_true (by kernel_rfl)) (of_decide_eq_true (by kernel_rfl))
set_option maxRecDepth 1000000 in
theorem piece2 (os : Os) : LaidIn Tryd.prog ((laidWorld os).forCall (fun _ _ => 0) ⟨#[], #[.agg ⟨[.int .i64 0, .int .i64 0, .int .i64 0, .int .i64 0, .int .i64 0, .int .i64 0]⟩, .slice none 0 0, .slice none 0 0, .slice none 0 0], []⟩).memory [("strconv.isPrint32", Lib.sliceData .u32 Lib.goPrintTabs.p32)] [5, low + 2] :=
  Lib.laidIn_slice (t := 136) (e := 101) (te := 101) Lib.goPrintTabs.p32 (low + 2) (by kernel_rfl) (by kernel_rfl) (by kernel_rfl) (by kernel_rfl) (by kernel_rfl) (by kernel_rfl) (by kernel_rfl) (by kernel_rfl) (of_decide_eq_true (by kernel_rfl)) (of_decide_eq_true (by kernel_rfl))
set_option maxRecDepth 1000000 in
theorem piece3 (os : Os) : LaidIn Tryd.prog ((laidWorld os).forCall (fun _ _ => 0) ⟨#[], #[.agg ⟨[.int .i64 0, .int .i64 0, .int .i64 0, .int .i64 0, .int .i64 0, .int .i64 0]⟩, .slice none 0 0, .slice none 0 0, .slice none 0 0], []⟩).memory [("strconv.isNotPrint32", Lib.sliceData .u16 Lib.goPrintTabs.n32)] [6, low + 3] :=
  Lib.laidIn_slice (t := 134) (e := 133) (te := 133) Lib.goPrintTabs.n32 (low + 3) (by kernel_rfl) (by kernel_rfl) (by kernel_rfl) (by kernel_rfl) (by kernel_rfl) (by kernel_rfl) (by kernel_rfl) (by kernel_rfl) (of_decide_eq_true (by kernel_rfl)) (of_decide_eq_true (by kernel_rfl))
set_option maxRecDepth 1000000 in
theorem piece4 (os : Os) : LaidIn Tryd.prog ((laidWorld os).forCall (fun _ _ => 0) ⟨#[], #[.agg ⟨[.int .i64 0, .int .i64 0, .int .i64 0, .int .i64 0, .int .i64 0, .int .i64 0]⟩, .slice none 0 0, .slice none 0 0, .slice none 0 0], []⟩).memory [("strconv.isGraphic", Lib.sliceData .u16 Go.Pinned.isGraphicZ)] [7, low + 4] :=
  Lib.laidIn_slice (t := 134) (e := 133) (te := 133) Go.Pinned.isGraphicZ (low + 4) (by kernel_rfl) (by kernel_rfl) (by kernel_rfl) (by kernel_rfl) (by kernel_rfl) (by kernel_rfl) (by kernel_rfl) (by kernel_rfl) (of_decide_eq_true (by kernel_rfl)) (of_decide_eq_true (by kernel_rfl))
theorem pieceA (os : Os) : LaidIn Tryd.prog ((laidWorld os).forCall (fun _ _ => 0) ⟨#[], #[.agg ⟨[.int .i64 0, .int .i64 0, .int .i64 0, .int .i64 0, .int .i64 0, .int .i64 0]⟩, .slice none 0 0, .slice none 0 0, .slice none 0 0], []⟩).memory (Rows.linkInStepsRow.laid.take 4) [8, 9, 0, 2] := LaidIn.of_run [8, 9, 0, 2] 8 (by kernel_rfl) (by kernel_rfl) (by kernel_rfl) (by kernel_rfl)
theorem pieceB (os : Os) : LaidIn Tryd.prog ((laidWorld os).forCall (fun _ _ => 0) ⟨#[], #[.agg ⟨[.int .i64 0, .int .i64 0, .int .i64 0, .int .i64 0, .int .i64 0, .int .i64 0]⟩, .slice none 0 0, .slice none 0 0, .slice none 0 0], []⟩).memory [("unicode/utf8.first", Go.Pinned.utf8First)] [1] := LaidIn.of_run [1] 8 (by kernel_rfl) (by kernel_rfl) (by kernel_rfl) (by kernel_rfl)
theorem laid_met (os : Os) : laidMet Tryd.prog Rows.linkInStepsRow.laid ((laidWorld os).forCall (fun _ _ => 0) ⟨#[], #[.agg ⟨[.int .i64 0, .int .i64 0, .int .i64 0, .int .i64 0, .int .i64 0, .int .i64 0]⟩, .slice none 0 0, .slice none 0 0, .slice none 0 0], []⟩).memory :=
  (((((((pieceA os).append (piece4 os) (by kernel_rfl)).append (piece1 os) (by kernel_rfl)).append (piece3 os) (by kernel_rfl)).append (piece0 os) (by kernel_rfl)).append (piece2 os) (by kernel_rfl)).append (pieceB os) (by kernel_rfl)).met
end Go.Proofs.YtnfkbgpbligloaaDoor
