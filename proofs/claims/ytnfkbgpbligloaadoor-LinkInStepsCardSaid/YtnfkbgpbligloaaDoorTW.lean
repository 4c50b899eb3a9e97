/-
  The facts on the types of the translation: sizes, zero values, fields. Written by a program.
-/
import Derived.Test.YtnfkbgpbligloaaDoorAwB
import Derived.Test.YtnfkbgpbligloaaDoorProg
import Derived.KernelRfl
namespace Go.Proofs.YtnfkbgpbligloaaDoor
open Go.Aw Go.Proofs

theorem ts1 : tS Tryd.prog 1 = some 1 := by kernel_rfl
theorem tb1 : tB Tryd.prog 1 = some 8 := by kernel_rfl
theorem ta1 : tA Tryd.prog 1 = some false := by kernel_rfl
theorem tz1 : tZ Tryd.prog 1 = some [.nilFunc] := by kernel_rfl
theorem tv1 : tV Tryd.prog 1 = some (.nilFunc) := by kernel_rfl
theorem tc1 : Tryd.prog.concrete 1 = true := by kernel_rfl
theorem ts2 : tS Tryd.prog 2 = some 1 := by kernel_rfl
theorem tb2 : tB Tryd.prog 2 = some 8 := by kernel_rfl
theorem ta2 : tA Tryd.prog 2 = some false := by kernel_rfl
theorem tz2 : tZ Tryd.prog 2 = some [.int .i64 0] := by kernel_rfl
theorem tv2 : tV Tryd.prog 2 = some (.int .i64 0) := by kernel_rfl
theorem tc2 : Tryd.prog.concrete 2 = true := by kernel_rfl
theorem ts3 : tS Tryd.prog 3 = some 1 := by kernel_rfl
theorem tb3 : tB Tryd.prog 3 = some 8 := by kernel_rfl
theorem ta3 : tA Tryd.prog 3 = some false := by kernel_rfl
theorem tz3 : tZ Tryd.prog 3 = some [.int .i64 0] := by kernel_rfl
theorem tv3 : tV Tryd.prog 3 = some (.int .i64 0) := by kernel_rfl
theorem tc3 : Tryd.prog.concrete 3 = true := by kernel_rfl
theorem ts4 : tS Tryd.prog 4 = some 1 := by kernel_rfl
theorem tb4 : tB Tryd.prog 4 = some 1 := by kernel_rfl
theorem ta4 : tA Tryd.prog 4 = some false := by kernel_rfl
theorem tz4 : tZ Tryd.prog 4 = some [.bool false] := by kernel_rfl
theorem tv4 : tV Tryd.prog 4 = some (.bool false) := by kernel_rfl
theorem tc4 : Tryd.prog.concrete 4 = true := by kernel_rfl
theorem ts5 : tS Tryd.prog 5 = some 1 := by kernel_rfl
theorem tb5 : tB Tryd.prog 5 = some 1 := by kernel_rfl
theorem ta5 : tA Tryd.prog 5 = some false := by kernel_rfl
theorem tz5 : tZ Tryd.prog 5 = some [.int .u8 0] := by kernel_rfl
theorem tv5 : tV Tryd.prog 5 = some (.int .u8 0) := by kernel_rfl
theorem tc5 : Tryd.prog.concrete 5 = true := by kernel_rfl
theorem ts6 : tS Tryd.prog 6 = some 1 := by kernel_rfl
theorem tb6 : tB Tryd.prog 6 = some 1 := by kernel_rfl
theorem ta6 : tA Tryd.prog 6 = some false := by kernel_rfl
theorem tz6 : tZ Tryd.prog 6 = some [.int .u8 0] := by kernel_rfl
theorem tv6 : tV Tryd.prog 6 = some (.int .u8 0) := by kernel_rfl
theorem tc6 : Tryd.prog.concrete 6 = true := by kernel_rfl
theorem ts7 : tS Tryd.prog 7 = some 4 := by kernel_rfl
theorem tb7 : tB Tryd.prog 7 = some 24 := by kernel_rfl
theorem ta7 : tA Tryd.prog 7 = some true := by kernel_rfl
theorem tz7 : tZ Tryd.prog 7 = some [.int .i64 0, .int .i64 0, .bool false, .int .u8 0] := by kernel_rfl
theorem tv7 : tV Tryd.prog 7 = some (.agg ⟨[.int .i64 0, .int .i64 0, .bool false, .int .u8 0]⟩) := by kernel_rfl
theorem tf7_0 : tF Tryd.prog 7 0 = some (0, 2) := by kernel_rfl
theorem tf7_1 : tF Tryd.prog 7 1 = some (1, 3) := by kernel_rfl
theorem tf7_2 : tF Tryd.prog 7 2 = some (2, 4) := by kernel_rfl
theorem tf7_3 : tF Tryd.prog 7 3 = some (3, 6) := by kernel_rfl
theorem tp7 : tP Tryd.prog 7 = some (.inl [(0, 1), (1, 1), (2, 1), (3, 1)]) := by kernel_rfl
theorem tc7 : Tryd.prog.concrete 7 = true := by kernel_rfl
theorem tg7 : Tryd.prog.eqGuardType Tryd.prog.depth 7 = false := by kernel_rfl
theorem ts8 : tS Tryd.prog 8 = some 4 := by kernel_rfl
theorem tb8 : tB Tryd.prog 8 = some 24 := by kernel_rfl
theorem ta8 : tA Tryd.prog 8 = some true := by kernel_rfl
theorem tz8 : tZ Tryd.prog 8 = some [.int .i64 0, .int .i64 0, .bool false, .int .u8 0] := by kernel_rfl
theorem tv8 : tV Tryd.prog 8 = some (.agg ⟨[.int .i64 0, .int .i64 0, .bool false, .int .u8 0]⟩) := by kernel_rfl
theorem tf8_0 : tF Tryd.prog 8 0 = some (0, 2) := by kernel_rfl
theorem tf8_1 : tF Tryd.prog 8 1 = some (1, 3) := by kernel_rfl
theorem tf8_2 : tF Tryd.prog 8 2 = some (2, 4) := by kernel_rfl
theorem tf8_3 : tF Tryd.prog 8 3 = some (3, 6) := by kernel_rfl
theorem tp8 : tP Tryd.prog 8 = some (.inl [(0, 1), (1, 1), (2, 1), (3, 1)]) := by kernel_rfl
theorem tc8 : Tryd.prog.concrete 8 = true := by kernel_rfl
theorem tg8 : Tryd.prog.eqGuardType Tryd.prog.depth 8 = false := by kernel_rfl
theorem ts9 : tS Tryd.prog 9 = some 1 := by kernel_rfl
theorem tb9 : tB Tryd.prog 9 = some 16 := by kernel_rfl
theorem ta9 : tA Tryd.prog 9 = some false := by kernel_rfl
theorem tz9 : tZ Tryd.prog 9 = some [.string (bs [])] := by kernel_rfl
theorem tv9 : tV Tryd.prog 9 = some (.string (bs [])) := by kernel_rfl
theorem tc9 : Tryd.prog.concrete 9 = true := by kernel_rfl
theorem ts10 : tS Tryd.prog 10 = some 1 := by kernel_rfl
theorem tb10 : tB Tryd.prog 10 = some 16 := by kernel_rfl
theorem ta10 : tA Tryd.prog 10 = some false := by kernel_rfl
theorem tz10 : tZ Tryd.prog 10 = some [.string (bs [])] := by kernel_rfl
theorem tv10 : tV Tryd.prog 10 = some (.string (bs [])) := by kernel_rfl
theorem tc10 : Tryd.prog.concrete 10 = true := by kernel_rfl
theorem ts11 : tS Tryd.prog 11 = some 1 := by kernel_rfl
theorem tb11 : tB Tryd.prog 11 = some 16 := by kernel_rfl
theorem ta11 : tA Tryd.prog 11 = some false := by kernel_rfl
theorem tz11 : tZ Tryd.prog 11 = some [.string (bs [])] := by kernel_rfl
theorem tv11 : tV Tryd.prog 11 = some (.string (bs [])) := by kernel_rfl
theorem tc11 : Tryd.prog.concrete 11 = true := by kernel_rfl
theorem ts12 : tS Tryd.prog 12 = some 1 := by kernel_rfl
theorem tb12 : tB Tryd.prog 12 = some 8 := by kernel_rfl
theorem ta12 : tA Tryd.prog 12 = some false := by kernel_rfl
theorem tz12 : tZ Tryd.prog 12 = some [.int .u64 0] := by kernel_rfl
theorem tv12 : tV Tryd.prog 12 = some (.int .u64 0) := by kernel_rfl
theorem tc12 : Tryd.prog.concrete 12 = true := by kernel_rfl
theorem ts13 : tS Tryd.prog 13 = some 2 := by kernel_rfl
theorem tb13 : tB Tryd.prog 13 = some 24 := by kernel_rfl
theorem ta13 : tA Tryd.prog 13 = some true := by kernel_rfl
theorem tz13 : tZ Tryd.prog 13 = some [.string (bs []), .int .u64 0] := by kernel_rfl
theorem tv13 : tV Tryd.prog 13 = some (.agg ⟨[.string (bs []), .int .u64 0]⟩) := by kernel_rfl
theorem tf13_0 : tF Tryd.prog 13 0 = some (0, 9) := by kernel_rfl
theorem tf13_1 : tF Tryd.prog 13 1 = some (1, 12) := by kernel_rfl
theorem tp13 : tP Tryd.prog 13 = some (.inl [(0, 1), (1, 1)]) := by kernel_rfl
theorem tc13 : Tryd.prog.concrete 13 = true := by kernel_rfl
theorem tg13 : Tryd.prog.eqGuardType Tryd.prog.depth 13 = false := by kernel_rfl
theorem ts14 : tS Tryd.prog 14 = some 2 := by kernel_rfl
theorem tb14 : tB Tryd.prog 14 = some 24 := by kernel_rfl
theorem ta14 : tA Tryd.prog 14 = some true := by kernel_rfl
theorem tz14 : tZ Tryd.prog 14 = some [.string (bs []), .int .u64 0] := by kernel_rfl
theorem tv14 : tV Tryd.prog 14 = some (.agg ⟨[.string (bs []), .int .u64 0]⟩) := by kernel_rfl
theorem tf14_0 : tF Tryd.prog 14 0 = some (0, 9) := by kernel_rfl
theorem tf14_1 : tF Tryd.prog 14 1 = some (1, 12) := by kernel_rfl
theorem tp14 : tP Tryd.prog 14 = some (.inl [(0, 1), (1, 1)]) := by kernel_rfl
theorem tc14 : Tryd.prog.concrete 14 = true := by kernel_rfl
theorem tg14 : Tryd.prog.eqGuardType Tryd.prog.depth 14 = false := by kernel_rfl
theorem ts15 : tS Tryd.prog 15 = some 1 := by kernel_rfl
theorem tb15 : tB Tryd.prog 15 = some 8 := by kernel_rfl
theorem ta15 : tA Tryd.prog 15 = some false := by kernel_rfl
theorem tz15 : tZ Tryd.prog 15 = some [.pointer none] := by kernel_rfl
theorem tv15 : tV Tryd.prog 15 = some (.pointer none) := by kernel_rfl
theorem tc15 : Tryd.prog.concrete 15 = true := by kernel_rfl
theorem ts16 : tS Tryd.prog 16 = some 1 := by kernel_rfl
theorem tb16 : tB Tryd.prog 16 = some 8 := by kernel_rfl
theorem ta16 : tA Tryd.prog 16 = some false := by kernel_rfl
theorem tz16 : tZ Tryd.prog 16 = some [.pointer none] := by kernel_rfl
theorem tv16 : tV Tryd.prog 16 = some (.pointer none) := by kernel_rfl
theorem tc16 : Tryd.prog.concrete 16 = true := by kernel_rfl
theorem ts17 : tS Tryd.prog 17 = some 1 := by kernel_rfl
theorem tb17 : tB Tryd.prog 17 = some 8 := by kernel_rfl
theorem ta17 : tA Tryd.prog 17 = some false := by kernel_rfl
theorem tz17 : tZ Tryd.prog 17 = some [.pointer none] := by kernel_rfl
theorem tv17 : tV Tryd.prog 17 = some (.pointer none) := by kernel_rfl
theorem tc17 : Tryd.prog.concrete 17 = true := by kernel_rfl
theorem ts18 : tS Tryd.prog 18 = some 1 := by kernel_rfl
theorem tb18 : tB Tryd.prog 18 = some 8 := by kernel_rfl
theorem ta18 : tA Tryd.prog 18 = some true := by kernel_rfl
theorem tz18 : tZ Tryd.prog 18 = some [.pointer none] := by kernel_rfl
theorem tv18 : tV Tryd.prog 18 = some (.agg ⟨[.pointer none]⟩) := by kernel_rfl
theorem tf18_0 : tF Tryd.prog 18 0 = some (0, 17) := by kernel_rfl
theorem tp18 : tP Tryd.prog 18 = some (.inl [(0, 1)]) := by kernel_rfl
theorem tc18 : Tryd.prog.concrete 18 = true := by kernel_rfl
theorem tg18 : Tryd.prog.eqGuardType Tryd.prog.depth 18 = false := by kernel_rfl
theorem ts19 : tS Tryd.prog 19 = some 1 := by kernel_rfl
theorem tb19 : tB Tryd.prog 19 = some 8 := by kernel_rfl
theorem ta19 : tA Tryd.prog 19 = some true := by kernel_rfl
theorem tz19 : tZ Tryd.prog 19 = some [.pointer none] := by kernel_rfl
theorem tv19 : tV Tryd.prog 19 = some (.agg ⟨[.pointer none]⟩) := by kernel_rfl
theorem tf19_0 : tF Tryd.prog 19 0 = some (0, 17) := by kernel_rfl
theorem tp19 : tP Tryd.prog 19 = some (.inl [(0, 1)]) := by kernel_rfl
theorem tc19 : Tryd.prog.concrete 19 = true := by kernel_rfl
theorem tg19 : Tryd.prog.eqGuardType Tryd.prog.depth 19 = false := by kernel_rfl
theorem ts20 : tS Tryd.prog 20 = some 1 := by kernel_rfl
theorem tb20 : tB Tryd.prog 20 = some 16 := by kernel_rfl
theorem ta20 : tA Tryd.prog 20 = some false := by kernel_rfl
theorem tz20 : tZ Tryd.prog 20 = some [.nilIface] := by kernel_rfl
theorem tv20 : tV Tryd.prog 20 = some (.nilIface) := by kernel_rfl
theorem ts21 : tS Tryd.prog 21 = some 1 := by kernel_rfl
theorem tb21 : tB Tryd.prog 21 = some 4 := by kernel_rfl
theorem ta21 : tA Tryd.prog 21 = some false := by kernel_rfl
theorem tz21 : tZ Tryd.prog 21 = some [.int .i32 0] := by kernel_rfl
theorem tv21 : tV Tryd.prog 21 = some (.int .i32 0) := by kernel_rfl
theorem tc21 : Tryd.prog.concrete 21 = true := by kernel_rfl
theorem ts22 : tS Tryd.prog 22 = some 6 := by kernel_rfl
theorem tb22 : tB Tryd.prog 22 = some 48 := by kernel_rfl
theorem ta22 : tA Tryd.prog 22 = some true := by kernel_rfl
theorem tz22 : tZ Tryd.prog 22 = some [.int .i64 0, .int .i64 0, .int .i64 0, .int .i64 0, .int .i64 0, .int .i64 0] := by kernel_rfl
theorem tv22 : tV Tryd.prog 22 = some (.agg ⟨[.int .i64 0, .int .i64 0, .int .i64 0, .int .i64 0, .int .i64 0, .int .i64 0]⟩) := by kernel_rfl
theorem tf22_0 : tF Tryd.prog 22 0 = some (0, 3) := by kernel_rfl
theorem tf22_1 : tF Tryd.prog 22 1 = some (1, 3) := by kernel_rfl
theorem tf22_2 : tF Tryd.prog 22 2 = some (2, 3) := by kernel_rfl
theorem tf22_3 : tF Tryd.prog 22 3 = some (3, 3) := by kernel_rfl
theorem tf22_4 : tF Tryd.prog 22 4 = some (4, 3) := by kernel_rfl
theorem tf22_5 : tF Tryd.prog 22 5 = some (5, 3) := by kernel_rfl
theorem tp22 : tP Tryd.prog 22 = some (.inl [(0, 1), (1, 1), (2, 1), (3, 1), (4, 1), (5, 1)]) := by kernel_rfl
theorem tc22 : Tryd.prog.concrete 22 = true := by kernel_rfl
theorem tg22 : Tryd.prog.eqGuardType Tryd.prog.depth 22 = false := by kernel_rfl
theorem ts23 : tS Tryd.prog 23 = some 6 := by kernel_rfl
theorem tb23 : tB Tryd.prog 23 = some 48 := by kernel_rfl
theorem ta23 : tA Tryd.prog 23 = some true := by kernel_rfl
theorem tz23 : tZ Tryd.prog 23 = some [.int .i64 0, .int .i64 0, .int .i64 0, .int .i64 0, .int .i64 0, .int .i64 0] := by kernel_rfl
theorem tv23 : tV Tryd.prog 23 = some (.agg ⟨[.int .i64 0, .int .i64 0, .int .i64 0, .int .i64 0, .int .i64 0, .int .i64 0]⟩) := by kernel_rfl
theorem tf23_0 : tF Tryd.prog 23 0 = some (0, 3) := by kernel_rfl
theorem tf23_1 : tF Tryd.prog 23 1 = some (1, 3) := by kernel_rfl
theorem tf23_2 : tF Tryd.prog 23 2 = some (2, 3) := by kernel_rfl
theorem tf23_3 : tF Tryd.prog 23 3 = some (3, 3) := by kernel_rfl
theorem tf23_4 : tF Tryd.prog 23 4 = some (4, 3) := by kernel_rfl
theorem tf23_5 : tF Tryd.prog 23 5 = some (5, 3) := by kernel_rfl
theorem tp23 : tP Tryd.prog 23 = some (.inl [(0, 1), (1, 1), (2, 1), (3, 1), (4, 1), (5, 1)]) := by kernel_rfl
theorem tc23 : Tryd.prog.concrete 23 = true := by kernel_rfl
theorem tg23 : Tryd.prog.eqGuardType Tryd.prog.depth 23 = false := by kernel_rfl
theorem ts24 : tS Tryd.prog 24 = some 1 := by kernel_rfl
theorem tb24 : tB Tryd.prog 24 = some 24 := by kernel_rfl
theorem ta24 : tA Tryd.prog 24 = some false := by kernel_rfl
theorem tz24 : tZ Tryd.prog 24 = some [.slice none 0 0] := by kernel_rfl
theorem tv24 : tV Tryd.prog 24 = some (.slice none 0 0) := by kernel_rfl
theorem tc24 : Tryd.prog.concrete 24 = true := by kernel_rfl
theorem ts25 : tS Tryd.prog 25 = some 1 := by kernel_rfl
theorem tb25 : tB Tryd.prog 25 = some 24 := by kernel_rfl
theorem ta25 : tA Tryd.prog 25 = some false := by kernel_rfl
theorem tz25 : tZ Tryd.prog 25 = some [.slice none 0 0] := by kernel_rfl
theorem tv25 : tV Tryd.prog 25 = some (.slice none 0 0) := by kernel_rfl
theorem tc25 : Tryd.prog.concrete 25 = true := by kernel_rfl
theorem ts26 : tS Tryd.prog 26 = some 1 := by kernel_rfl
theorem tb26 : tB Tryd.prog 26 = some 8 := by kernel_rfl
theorem ta26 : tA Tryd.prog 26 = some false := by kernel_rfl
theorem tz26 : tZ Tryd.prog 26 = some [.nilFunc] := by kernel_rfl
theorem tv26 : tV Tryd.prog 26 = some (.nilFunc) := by kernel_rfl
theorem tc26 : Tryd.prog.concrete 26 = true := by kernel_rfl
theorem ts27 : tS Tryd.prog 27 = some 1 := by kernel_rfl
theorem tb27 : tB Tryd.prog 27 = some 8 := by kernel_rfl
theorem ta27 : tA Tryd.prog 27 = some false := by kernel_rfl
theorem tz27 : tZ Tryd.prog 27 = some [.nilFunc] := by kernel_rfl
theorem tv27 : tV Tryd.prog 27 = some (.nilFunc) := by kernel_rfl
theorem tc27 : Tryd.prog.concrete 27 = true := by kernel_rfl
theorem ts28 : tS Tryd.prog 28 = some 1 := by kernel_rfl
theorem tb28 : tB Tryd.prog 28 = some 8 := by kernel_rfl
theorem ta28 : tA Tryd.prog 28 = some false := by kernel_rfl
theorem tz28 : tZ Tryd.prog 28 = some [.pointer none] := by kernel_rfl
theorem tv28 : tV Tryd.prog 28 = some (.pointer none) := by kernel_rfl
theorem tc28 : Tryd.prog.concrete 28 = true := by kernel_rfl
theorem ts29 : tS Tryd.prog 29 = some 1 := by kernel_rfl
theorem tb29 : tB Tryd.prog 29 = some 8 := by kernel_rfl
theorem ta29 : tA Tryd.prog 29 = some false := by kernel_rfl
theorem tz29 : tZ Tryd.prog 29 = some [.int .i64 0] := by kernel_rfl
theorem tv29 : tV Tryd.prog 29 = some (.int .i64 0) := by kernel_rfl
theorem tc29 : Tryd.prog.concrete 29 = true := by kernel_rfl
theorem ts31 : tS Tryd.prog 31 = some 1 := by kernel_rfl
theorem tb31 : tB Tryd.prog 31 = some 8 := by kernel_rfl
theorem ta31 : tA Tryd.prog 31 = some false := by kernel_rfl
theorem tz31 : tZ Tryd.prog 31 = some [.nilFunc] := by kernel_rfl
theorem tv31 : tV Tryd.prog 31 = some (.nilFunc) := by kernel_rfl
theorem tc31 : Tryd.prog.concrete 31 = true := by kernel_rfl
theorem ts32 : tS Tryd.prog 32 = some 10 := by kernel_rfl
theorem tb32 : tB Tryd.prog 32 = some 88 := by kernel_rfl
theorem ta32 : tA Tryd.prog 32 = some true := by kernel_rfl
theorem tz32 : tZ Tryd.prog 32 = some [.int .i64 0, .int .i64 0, .int .i64 0, .string (bs []), .int .i64 0, .int .i64 0, .int .i64 0, .int .i64 0, .int .i64 0, .int .i64 0] := by kernel_rfl
theorem tv32 : tV Tryd.prog 32 = some (.agg ⟨[.int .i64 0, .int .i64 0, .int .i64 0, .string (bs []), .int .i64 0, .int .i64 0, .int .i64 0, .int .i64 0, .int .i64 0, .int .i64 0]⟩) := by kernel_rfl
theorem tf32_0 : tF Tryd.prog 32 0 = some (0, 3) := by kernel_rfl
theorem tf32_1 : tF Tryd.prog 32 1 = some (1, 3) := by kernel_rfl
theorem tf32_2 : tF Tryd.prog 32 2 = some (2, 3) := by kernel_rfl
theorem tf32_3 : tF Tryd.prog 32 3 = some (3, 9) := by kernel_rfl
theorem tf32_4 : tF Tryd.prog 32 4 = some (4, 23) := by kernel_rfl
theorem tp32 : tP Tryd.prog 32 = some (.inl [(0, 1), (1, 1), (2, 1), (3, 1), (4, 6)]) := by kernel_rfl
theorem tc32 : Tryd.prog.concrete 32 = true := by kernel_rfl
theorem tg32 : Tryd.prog.eqGuardType Tryd.prog.depth 32 = false := by kernel_rfl
theorem ts33 : tS Tryd.prog 33 = some 10 := by kernel_rfl
theorem tb33 : tB Tryd.prog 33 = some 88 := by kernel_rfl
theorem ta33 : tA Tryd.prog 33 = some true := by kernel_rfl
theorem tz33 : tZ Tryd.prog 33 = some [.int .i64 0, .int .i64 0, .int .i64 0, .string (bs []), .int .i64 0, .int .i64 0, .int .i64 0, .int .i64 0, .int .i64 0, .int .i64 0] := by kernel_rfl
theorem tv33 : tV Tryd.prog 33 = some (.agg ⟨[.int .i64 0, .int .i64 0, .int .i64 0, .string (bs []), .int .i64 0, .int .i64 0, .int .i64 0, .int .i64 0, .int .i64 0, .int .i64 0]⟩) := by kernel_rfl
theorem tf33_0 : tF Tryd.prog 33 0 = some (0, 3) := by kernel_rfl
theorem tf33_1 : tF Tryd.prog 33 1 = some (1, 3) := by kernel_rfl
theorem tf33_2 : tF Tryd.prog 33 2 = some (2, 3) := by kernel_rfl
theorem tf33_3 : tF Tryd.prog 33 3 = some (3, 9) := by kernel_rfl
theorem tf33_4 : tF Tryd.prog 33 4 = some (4, 23) := by kernel_rfl
theorem tp33 : tP Tryd.prog 33 = some (.inl [(0, 1), (1, 1), (2, 1), (3, 1), (4, 6)]) := by kernel_rfl
theorem tc33 : Tryd.prog.concrete 33 = true := by kernel_rfl
theorem tg33 : Tryd.prog.eqGuardType Tryd.prog.depth 33 = false := by kernel_rfl
theorem ts35 : tS Tryd.prog 35 = some 1 := by kernel_rfl
theorem tb35 : tB Tryd.prog 35 = some 8 := by kernel_rfl
theorem ta35 : tA Tryd.prog 35 = some false := by kernel_rfl
theorem tz35 : tZ Tryd.prog 35 = some [.nilFunc] := by kernel_rfl
theorem tv35 : tV Tryd.prog 35 = some (.nilFunc) := by kernel_rfl
theorem tc35 : Tryd.prog.concrete 35 = true := by kernel_rfl
theorem ts36 : tS Tryd.prog 36 = some 1 := by kernel_rfl
theorem tb36 : tB Tryd.prog 36 = some 8 := by kernel_rfl
theorem ta36 : tA Tryd.prog 36 = some false := by kernel_rfl
theorem tz36 : tZ Tryd.prog 36 = some [.nilFunc] := by kernel_rfl
theorem tv36 : tV Tryd.prog 36 = some (.nilFunc) := by kernel_rfl
theorem tc36 : Tryd.prog.concrete 36 = true := by kernel_rfl
theorem ts37 : tS Tryd.prog 37 = some 1 := by kernel_rfl
theorem tb37 : tB Tryd.prog 37 = some 24 := by kernel_rfl
theorem ta37 : tA Tryd.prog 37 = some false := by kernel_rfl
theorem tz37 : tZ Tryd.prog 37 = some [.slice none 0 0] := by kernel_rfl
theorem tv37 : tV Tryd.prog 37 = some (.slice none 0 0) := by kernel_rfl
theorem tc37 : Tryd.prog.concrete 37 = true := by kernel_rfl
theorem ts39 : tS Tryd.prog 39 = some 1 := by kernel_rfl
theorem tb39 : tB Tryd.prog 39 = some 8 := by kernel_rfl
theorem ta39 : tA Tryd.prog 39 = some false := by kernel_rfl
theorem tz39 : tZ Tryd.prog 39 = some [.nilFunc] := by kernel_rfl
theorem tv39 : tV Tryd.prog 39 = some (.nilFunc) := by kernel_rfl
theorem tc39 : Tryd.prog.concrete 39 = true := by kernel_rfl
theorem ts40 : tS Tryd.prog 40 = some 1 := by kernel_rfl
theorem tb40 : tB Tryd.prog 40 = some 8 := by kernel_rfl
theorem ta40 : tA Tryd.prog 40 = some false := by kernel_rfl
theorem tz40 : tZ Tryd.prog 40 = some [.nilFunc] := by kernel_rfl
theorem tv40 : tV Tryd.prog 40 = some (.nilFunc) := by kernel_rfl
theorem tc40 : Tryd.prog.concrete 40 = true := by kernel_rfl
theorem ts41 : tS Tryd.prog 41 = some 1 := by kernel_rfl
theorem tb41 : tB Tryd.prog 41 = some 8 := by kernel_rfl
theorem ta41 : tA Tryd.prog 41 = some false := by kernel_rfl
theorem tz41 : tZ Tryd.prog 41 = some [.nilFunc] := by kernel_rfl
theorem tv41 : tV Tryd.prog 41 = some (.nilFunc) := by kernel_rfl
theorem tc41 : Tryd.prog.concrete 41 = true := by kernel_rfl
theorem ts42 : tS Tryd.prog 42 = some 1 := by kernel_rfl
theorem tb42 : tB Tryd.prog 42 = some 8 := by kernel_rfl
theorem ta42 : tA Tryd.prog 42 = some false := by kernel_rfl
theorem tz42 : tZ Tryd.prog 42 = some [.nilFunc] := by kernel_rfl
theorem tv42 : tV Tryd.prog 42 = some (.nilFunc) := by kernel_rfl
theorem tc42 : Tryd.prog.concrete 42 = true := by kernel_rfl
theorem ts43 : tS Tryd.prog 43 = some 6 := by kernel_rfl
theorem tb43 : tB Tryd.prog 43 = some 56 := by kernel_rfl
theorem ta43 : tA Tryd.prog 43 = some true := by kernel_rfl
theorem tz43 : tZ Tryd.prog 43 = some [.int .i64 0, .int .i64 0, .int .i64 0, .int .i64 0, .int .i64 0, .string (bs [])] := by kernel_rfl
theorem tv43 : tV Tryd.prog 43 = some (.agg ⟨[.int .i64 0, .int .i64 0, .int .i64 0, .int .i64 0, .int .i64 0, .string (bs [])]⟩) := by kernel_rfl
theorem tf43_0 : tF Tryd.prog 43 0 = some (0, 3) := by kernel_rfl
theorem tf43_1 : tF Tryd.prog 43 1 = some (1, 3) := by kernel_rfl
theorem tf43_2 : tF Tryd.prog 43 2 = some (2, 3) := by kernel_rfl
theorem tf43_3 : tF Tryd.prog 43 3 = some (3, 3) := by kernel_rfl
theorem tf43_4 : tF Tryd.prog 43 4 = some (4, 3) := by kernel_rfl
theorem tf43_5 : tF Tryd.prog 43 5 = some (5, 9) := by kernel_rfl
theorem tp43 : tP Tryd.prog 43 = some (.inl [(0, 1), (1, 1), (2, 1), (3, 1), (4, 1), (5, 1)]) := by kernel_rfl
theorem tc43 : Tryd.prog.concrete 43 = true := by kernel_rfl
theorem tg43 : Tryd.prog.eqGuardType Tryd.prog.depth 43 = false := by kernel_rfl
theorem ts44 : tS Tryd.prog 44 = some 6 := by kernel_rfl
theorem tb44 : tB Tryd.prog 44 = some 56 := by kernel_rfl
theorem ta44 : tA Tryd.prog 44 = some true := by kernel_rfl
theorem tz44 : tZ Tryd.prog 44 = some [.int .i64 0, .int .i64 0, .int .i64 0, .int .i64 0, .int .i64 0, .string (bs [])] := by kernel_rfl
theorem tv44 : tV Tryd.prog 44 = some (.agg ⟨[.int .i64 0, .int .i64 0, .int .i64 0, .int .i64 0, .int .i64 0, .string (bs [])]⟩) := by kernel_rfl
theorem tf44_0 : tF Tryd.prog 44 0 = some (0, 3) := by kernel_rfl
theorem tf44_1 : tF Tryd.prog 44 1 = some (1, 3) := by kernel_rfl
theorem tf44_2 : tF Tryd.prog 44 2 = some (2, 3) := by kernel_rfl
theorem tf44_3 : tF Tryd.prog 44 3 = some (3, 3) := by kernel_rfl
theorem tf44_4 : tF Tryd.prog 44 4 = some (4, 3) := by kernel_rfl
theorem tf44_5 : tF Tryd.prog 44 5 = some (5, 9) := by kernel_rfl
theorem tp44 : tP Tryd.prog 44 = some (.inl [(0, 1), (1, 1), (2, 1), (3, 1), (4, 1), (5, 1)]) := by kernel_rfl
theorem tc44 : Tryd.prog.concrete 44 = true := by kernel_rfl
theorem tg44 : Tryd.prog.eqGuardType Tryd.prog.depth 44 = false := by kernel_rfl
theorem ts45 : tS Tryd.prog 45 = some 1 := by kernel_rfl
theorem tb45 : tB Tryd.prog 45 = some 8 := by kernel_rfl
theorem ta45 : tA Tryd.prog 45 = some false := by kernel_rfl
theorem tz45 : tZ Tryd.prog 45 = some [.nilFunc] := by kernel_rfl
theorem tv45 : tV Tryd.prog 45 = some (.nilFunc) := by kernel_rfl
theorem tc45 : Tryd.prog.concrete 45 = true := by kernel_rfl
theorem ts46 : tS Tryd.prog 46 = some 1 := by kernel_rfl
theorem tb46 : tB Tryd.prog 46 = some 8 := by kernel_rfl
theorem ta46 : tA Tryd.prog 46 = some false := by kernel_rfl
theorem tz46 : tZ Tryd.prog 46 = some [.nilFunc] := by kernel_rfl
theorem tv46 : tV Tryd.prog 46 = some (.nilFunc) := by kernel_rfl
theorem tc46 : Tryd.prog.concrete 46 = true := by kernel_rfl
theorem ts47 : tS Tryd.prog 47 = some 1 := by kernel_rfl
theorem tb47 : tB Tryd.prog 47 = some 8 := by kernel_rfl
theorem ta47 : tA Tryd.prog 47 = some false := by kernel_rfl
theorem tz47 : tZ Tryd.prog 47 = some [.nilFunc] := by kernel_rfl
theorem tv47 : tV Tryd.prog 47 = some (.nilFunc) := by kernel_rfl
theorem tc47 : Tryd.prog.concrete 47 = true := by kernel_rfl
theorem ts48 : tS Tryd.prog 48 = some 1 := by kernel_rfl
theorem tb48 : tB Tryd.prog 48 = some 8 := by kernel_rfl
theorem ta48 : tA Tryd.prog 48 = some false := by kernel_rfl
theorem tz48 : tZ Tryd.prog 48 = some [.nilFunc] := by kernel_rfl
theorem tv48 : tV Tryd.prog 48 = some (.nilFunc) := by kernel_rfl
theorem tc48 : Tryd.prog.concrete 48 = true := by kernel_rfl
theorem ts49 : tS Tryd.prog 49 = some 1 := by kernel_rfl
theorem tb49 : tB Tryd.prog 49 = some 24 := by kernel_rfl
theorem ta49 : tA Tryd.prog 49 = some false := by kernel_rfl
theorem tz49 : tZ Tryd.prog 49 = some [.slice none 0 0] := by kernel_rfl
theorem tv49 : tV Tryd.prog 49 = some (.slice none 0 0) := by kernel_rfl
theorem tc49 : Tryd.prog.concrete 49 = true := by kernel_rfl
theorem ts50 : tS Tryd.prog 50 = some 1 := by kernel_rfl
theorem tb50 : tB Tryd.prog 50 = some 24 := by kernel_rfl
theorem ta50 : tA Tryd.prog 50 = some false := by kernel_rfl
theorem tz50 : tZ Tryd.prog 50 = some [.slice none 0 0] := by kernel_rfl
theorem tv50 : tV Tryd.prog 50 = some (.slice none 0 0) := by kernel_rfl
theorem tc50 : Tryd.prog.concrete 50 = true := by kernel_rfl
theorem ts51 : tS Tryd.prog 51 = some 17 := by kernel_rfl
theorem tb51 : tB Tryd.prog 51 = some 184 := by kernel_rfl
theorem ta51 : tA Tryd.prog 51 = some true := by kernel_rfl
theorem tz51 : tZ Tryd.prog 51 = some [.int .i64 0, .int .i64 0, .int .i64 0, .int .i64 0, .int .i64 0, .int .i64 0, .slice none 0 0, .int .i64 0, .int .i64 0, .int .i64 0, .slice none 0 0, .slice none 0 0, .int .i64 0, .int .i64 0, .int .i64 0, .int .i64 0, .int .i64 0] := by kernel_rfl
theorem tv51 : tV Tryd.prog 51 = some (.agg ⟨[.int .i64 0, .int .i64 0, .int .i64 0, .int .i64 0, .int .i64 0, .int .i64 0, .slice none 0 0, .int .i64 0, .int .i64 0, .int .i64 0, .slice none 0 0, .slice none 0 0, .int .i64 0, .int .i64 0, .int .i64 0, .int .i64 0, .int .i64 0]⟩) := by kernel_rfl
theorem tf51_0 : tF Tryd.prog 51 0 = some (0, 23) := by kernel_rfl
theorem tf51_1 : tF Tryd.prog 51 1 = some (6, 24) := by kernel_rfl
theorem tf51_2 : tF Tryd.prog 51 2 = some (7, 3) := by kernel_rfl
theorem tf51_3 : tF Tryd.prog 51 3 = some (8, 3) := by kernel_rfl
theorem tf51_4 : tF Tryd.prog 51 4 = some (9, 3) := by kernel_rfl
theorem tf51_5 : tF Tryd.prog 51 5 = some (10, 49) := by kernel_rfl
theorem tf51_6 : tF Tryd.prog 51 6 = some (11, 50) := by kernel_rfl
theorem tf51_7 : tF Tryd.prog 51 7 = some (12, 3) := by kernel_rfl
theorem tf51_8 : tF Tryd.prog 51 8 = some (13, 3) := by kernel_rfl
theorem tf51_9 : tF Tryd.prog 51 9 = some (14, 3) := by kernel_rfl
theorem tf51_10 : tF Tryd.prog 51 10 = some (15, 3) := by kernel_rfl
theorem tf51_11 : tF Tryd.prog 51 11 = some (16, 3) := by kernel_rfl
theorem tp51 : tP Tryd.prog 51 = some (.inl [(0, 6), (6, 1), (7, 1), (8, 1), (9, 1), (10, 1), (11, 1), (12, 1), (13, 1), (14, 1), (15, 1), (16, 1)]) := by kernel_rfl
theorem tc51 : Tryd.prog.concrete 51 = true := by kernel_rfl
theorem tg51 : Tryd.prog.eqGuardType Tryd.prog.depth 51 = false := by kernel_rfl
theorem ts52 : tS Tryd.prog 52 = some 17 := by kernel_rfl
theorem tb52 : tB Tryd.prog 52 = some 184 := by kernel_rfl
theorem ta52 : tA Tryd.prog 52 = some true := by kernel_rfl
theorem tz52 : tZ Tryd.prog 52 = some [.int .i64 0, .int .i64 0, .int .i64 0, .int .i64 0, .int .i64 0, .int .i64 0, .slice none 0 0, .int .i64 0, .int .i64 0, .int .i64 0, .slice none 0 0, .slice none 0 0, .int .i64 0, .int .i64 0, .int .i64 0, .int .i64 0, .int .i64 0] := by kernel_rfl
theorem tv52 : tV Tryd.prog 52 = some (.agg ⟨[.int .i64 0, .int .i64 0, .int .i64 0, .int .i64 0, .int .i64 0, .int .i64 0, .slice none 0 0, .int .i64 0, .int .i64 0, .int .i64 0, .slice none 0 0, .slice none 0 0, .int .i64 0, .int .i64 0, .int .i64 0, .int .i64 0, .int .i64 0]⟩) := by kernel_rfl
theorem tf52_0 : tF Tryd.prog 52 0 = some (0, 23) := by kernel_rfl
theorem tf52_1 : tF Tryd.prog 52 1 = some (6, 24) := by kernel_rfl
theorem tf52_2 : tF Tryd.prog 52 2 = some (7, 3) := by kernel_rfl
theorem tf52_3 : tF Tryd.prog 52 3 = some (8, 3) := by kernel_rfl
theorem tf52_4 : tF Tryd.prog 52 4 = some (9, 3) := by kernel_rfl
theorem tf52_5 : tF Tryd.prog 52 5 = some (10, 49) := by kernel_rfl
theorem tf52_6 : tF Tryd.prog 52 6 = some (11, 50) := by kernel_rfl
theorem tf52_7 : tF Tryd.prog 52 7 = some (12, 3) := by kernel_rfl
theorem tf52_8 : tF Tryd.prog 52 8 = some (13, 3) := by kernel_rfl
theorem tf52_9 : tF Tryd.prog 52 9 = some (14, 3) := by kernel_rfl
theorem tf52_10 : tF Tryd.prog 52 10 = some (15, 3) := by kernel_rfl
theorem tf52_11 : tF Tryd.prog 52 11 = some (16, 3) := by kernel_rfl
theorem tp52 : tP Tryd.prog 52 = some (.inl [(0, 6), (6, 1), (7, 1), (8, 1), (9, 1), (10, 1), (11, 1), (12, 1), (13, 1), (14, 1), (15, 1), (16, 1)]) := by kernel_rfl
theorem tc52 : Tryd.prog.concrete 52 = true := by kernel_rfl
theorem tg52 : Tryd.prog.eqGuardType Tryd.prog.depth 52 = false := by kernel_rfl
theorem ts53 : tS Tryd.prog 53 = some 1 := by kernel_rfl
theorem tb53 : tB Tryd.prog 53 = some 8 := by kernel_rfl
theorem ta53 : tA Tryd.prog 53 = some false := by kernel_rfl
theorem tz53 : tZ Tryd.prog 53 = some [.nilFunc] := by kernel_rfl
theorem tv53 : tV Tryd.prog 53 = some (.nilFunc) := by kernel_rfl
theorem tc53 : Tryd.prog.concrete 53 = true := by kernel_rfl
theorem ts54 : tS Tryd.prog 54 = some 1 := by kernel_rfl
theorem tb54 : tB Tryd.prog 54 = some 8 := by kernel_rfl
theorem ta54 : tA Tryd.prog 54 = some false := by kernel_rfl
theorem tz54 : tZ Tryd.prog 54 = some [.nilFunc] := by kernel_rfl
theorem tv54 : tV Tryd.prog 54 = some (.nilFunc) := by kernel_rfl
theorem tc54 : Tryd.prog.concrete 54 = true := by kernel_rfl
theorem ts55 : tS Tryd.prog 55 = some 1 := by kernel_rfl
theorem tb55 : tB Tryd.prog 55 = some 8 := by kernel_rfl
theorem ta55 : tA Tryd.prog 55 = some false := by kernel_rfl
theorem tz55 : tZ Tryd.prog 55 = some [.nilFunc] := by kernel_rfl
theorem tv55 : tV Tryd.prog 55 = some (.nilFunc) := by kernel_rfl
theorem tc55 : Tryd.prog.concrete 55 = true := by kernel_rfl
theorem ts56 : tS Tryd.prog 56 = some 2 := by kernel_rfl
theorem tb56 : tB Tryd.prog 56 = some 16 := by kernel_rfl
theorem ta56 : tA Tryd.prog 56 = some true := by kernel_rfl
theorem tz56 : tZ Tryd.prog 56 = some [.int .i64 0, .int .i64 0] := by kernel_rfl
theorem tv56 : tV Tryd.prog 56 = some (.agg ⟨[.int .i64 0, .int .i64 0]⟩) := by kernel_rfl
theorem tf56_0 : tF Tryd.prog 56 0 = some (0, 3) := by kernel_rfl
theorem tf56_1 : tF Tryd.prog 56 1 = some (1, 3) := by kernel_rfl
theorem tp56 : tP Tryd.prog 56 = some (.inl [(0, 1), (1, 1)]) := by kernel_rfl
theorem tc56 : Tryd.prog.concrete 56 = true := by kernel_rfl
theorem tg56 : Tryd.prog.eqGuardType Tryd.prog.depth 56 = false := by kernel_rfl
theorem ts57 : tS Tryd.prog 57 = some 2 := by kernel_rfl
theorem tb57 : tB Tryd.prog 57 = some 16 := by kernel_rfl
theorem ta57 : tA Tryd.prog 57 = some true := by kernel_rfl
theorem tz57 : tZ Tryd.prog 57 = some [.int .i64 0, .int .i64 0] := by kernel_rfl
theorem tv57 : tV Tryd.prog 57 = some (.agg ⟨[.int .i64 0, .int .i64 0]⟩) := by kernel_rfl
theorem tf57_0 : tF Tryd.prog 57 0 = some (0, 3) := by kernel_rfl
theorem tf57_1 : tF Tryd.prog 57 1 = some (1, 3) := by kernel_rfl
theorem tp57 : tP Tryd.prog 57 = some (.inl [(0, 1), (1, 1)]) := by kernel_rfl
theorem tc57 : Tryd.prog.concrete 57 = true := by kernel_rfl
theorem tg57 : Tryd.prog.eqGuardType Tryd.prog.depth 57 = false := by kernel_rfl
theorem ts58 : tS Tryd.prog 58 = some 1 := by kernel_rfl
theorem tb58 : tB Tryd.prog 58 = some 8 := by kernel_rfl
theorem ta58 : tA Tryd.prog 58 = some false := by kernel_rfl
theorem tz58 : tZ Tryd.prog 58 = some [.nilFunc] := by kernel_rfl
theorem tv58 : tV Tryd.prog 58 = some (.nilFunc) := by kernel_rfl
theorem tc58 : Tryd.prog.concrete 58 = true := by kernel_rfl
theorem ts59 : tS Tryd.prog 59 = some 1 := by kernel_rfl
theorem tb59 : tB Tryd.prog 59 = some 8 := by kernel_rfl
theorem ta59 : tA Tryd.prog 59 = some false := by kernel_rfl
theorem tz59 : tZ Tryd.prog 59 = some [.nilFunc] := by kernel_rfl
theorem tv59 : tV Tryd.prog 59 = some (.nilFunc) := by kernel_rfl
theorem tc59 : Tryd.prog.concrete 59 = true := by kernel_rfl
theorem ts60 : tS Tryd.prog 60 = some 1 := by kernel_rfl
theorem tb60 : tB Tryd.prog 60 = some 8 := by kernel_rfl
theorem ta60 : tA Tryd.prog 60 = some false := by kernel_rfl
theorem tz60 : tZ Tryd.prog 60 = some [.nilFunc] := by kernel_rfl
theorem tv60 : tV Tryd.prog 60 = some (.nilFunc) := by kernel_rfl
theorem tc60 : Tryd.prog.concrete 60 = true := by kernel_rfl
theorem ts61 : tS Tryd.prog 61 = some 1 := by kernel_rfl
theorem tb61 : tB Tryd.prog 61 = some 8 := by kernel_rfl
theorem ta61 : tA Tryd.prog 61 = some false := by kernel_rfl
theorem tz61 : tZ Tryd.prog 61 = some [.nilFunc] := by kernel_rfl
theorem tv61 : tV Tryd.prog 61 = some (.nilFunc) := by kernel_rfl
theorem tc61 : Tryd.prog.concrete 61 = true := by kernel_rfl
theorem ts62 : tS Tryd.prog 62 = some 3 := by kernel_rfl
theorem tb62 : tB Tryd.prog 62 = some 24 := by kernel_rfl
theorem ta62 : tA Tryd.prog 62 = some true := by kernel_rfl
theorem tz62 : tZ Tryd.prog 62 = some [.nilFunc, .nilFunc, .nilFunc] := by kernel_rfl
theorem tv62 : tV Tryd.prog 62 = some (.agg ⟨[.nilFunc, .nilFunc, .nilFunc]⟩) := by kernel_rfl
theorem tp62 : tP Tryd.prog 62 = some (.inr 1) := by kernel_rfl
theorem tc62 : Tryd.prog.concrete 62 = true := by kernel_rfl
theorem tg62 : Tryd.prog.eqGuardType Tryd.prog.depth 62 = false := by kernel_rfl
theorem ts63 : tS Tryd.prog 63 = some 1 := by kernel_rfl
theorem tb63 : tB Tryd.prog 63 = some 8 := by kernel_rfl
theorem ta63 : tA Tryd.prog 63 = some false := by kernel_rfl
theorem tz63 : tZ Tryd.prog 63 = some [.nilFunc] := by kernel_rfl
theorem tv63 : tV Tryd.prog 63 = some (.nilFunc) := by kernel_rfl
theorem tc63 : Tryd.prog.concrete 63 = true := by kernel_rfl
theorem ts64 : tS Tryd.prog 64 = some 1 := by kernel_rfl
theorem tb64 : tB Tryd.prog 64 = some 8 := by kernel_rfl
theorem ta64 : tA Tryd.prog 64 = some false := by kernel_rfl
theorem tz64 : tZ Tryd.prog 64 = some [.nilFunc] := by kernel_rfl
theorem tv64 : tV Tryd.prog 64 = some (.nilFunc) := by kernel_rfl
theorem tc64 : Tryd.prog.concrete 64 = true := by kernel_rfl
theorem ts65 : tS Tryd.prog 65 = some 4 := by kernel_rfl
theorem tb65 : tB Tryd.prog 65 = some 32 := by kernel_rfl
theorem ta65 : tA Tryd.prog 65 = some true := by kernel_rfl
theorem tz65 : tZ Tryd.prog 65 = some [.int .i64 0, .int .i64 0, .int .i64 0, .nilFunc] := by kernel_rfl
theorem tv65 : tV Tryd.prog 65 = some (.agg ⟨[.int .i64 0, .int .i64 0, .int .i64 0, .nilFunc]⟩) := by kernel_rfl
theorem tf65_0 : tF Tryd.prog 65 0 = some (0, 3) := by kernel_rfl
theorem tf65_1 : tF Tryd.prog 65 1 = some (1, 3) := by kernel_rfl
theorem tf65_2 : tF Tryd.prog 65 2 = some (2, 3) := by kernel_rfl
theorem tf65_3 : tF Tryd.prog 65 3 = some (3, 64) := by kernel_rfl
theorem tp65 : tP Tryd.prog 65 = some (.inl [(0, 1), (1, 1), (2, 1), (3, 1)]) := by kernel_rfl
theorem tc65 : Tryd.prog.concrete 65 = true := by kernel_rfl
theorem tg65 : Tryd.prog.eqGuardType Tryd.prog.depth 65 = false := by kernel_rfl
theorem ts66 : tS Tryd.prog 66 = some 4 := by kernel_rfl
theorem tb66 : tB Tryd.prog 66 = some 32 := by kernel_rfl
theorem ta66 : tA Tryd.prog 66 = some true := by kernel_rfl
theorem tz66 : tZ Tryd.prog 66 = some [.int .i64 0, .int .i64 0, .int .i64 0, .nilFunc] := by kernel_rfl
theorem tv66 : tV Tryd.prog 66 = some (.agg ⟨[.int .i64 0, .int .i64 0, .int .i64 0, .nilFunc]⟩) := by kernel_rfl
theorem tf66_0 : tF Tryd.prog 66 0 = some (0, 3) := by kernel_rfl
theorem tf66_1 : tF Tryd.prog 66 1 = some (1, 3) := by kernel_rfl
theorem tf66_2 : tF Tryd.prog 66 2 = some (2, 3) := by kernel_rfl
theorem tf66_3 : tF Tryd.prog 66 3 = some (3, 64) := by kernel_rfl
theorem tp66 : tP Tryd.prog 66 = some (.inl [(0, 1), (1, 1), (2, 1), (3, 1)]) := by kernel_rfl
theorem tc66 : Tryd.prog.concrete 66 = true := by kernel_rfl
theorem tg66 : Tryd.prog.eqGuardType Tryd.prog.depth 66 = false := by kernel_rfl
theorem ts67 : tS Tryd.prog 67 = some 1 := by kernel_rfl
theorem tb67 : tB Tryd.prog 67 = some 8 := by kernel_rfl
theorem ta67 : tA Tryd.prog 67 = some false := by kernel_rfl
theorem tz67 : tZ Tryd.prog 67 = some [.nilFunc] := by kernel_rfl
theorem tv67 : tV Tryd.prog 67 = some (.nilFunc) := by kernel_rfl
theorem tc67 : Tryd.prog.concrete 67 = true := by kernel_rfl
theorem ts68 : tS Tryd.prog 68 = some 1 := by kernel_rfl
theorem tb68 : tB Tryd.prog 68 = some 8 := by kernel_rfl
theorem ta68 : tA Tryd.prog 68 = some false := by kernel_rfl
theorem tz68 : tZ Tryd.prog 68 = some [.nilFunc] := by kernel_rfl
theorem tv68 : tV Tryd.prog 68 = some (.nilFunc) := by kernel_rfl
theorem tc68 : Tryd.prog.concrete 68 = true := by kernel_rfl
theorem ts69 : tS Tryd.prog 69 = some 1 := by kernel_rfl
theorem tb69 : tB Tryd.prog 69 = some 8 := by kernel_rfl
theorem ta69 : tA Tryd.prog 69 = some false := by kernel_rfl
theorem tz69 : tZ Tryd.prog 69 = some [.nilFunc] := by kernel_rfl
theorem tv69 : tV Tryd.prog 69 = some (.nilFunc) := by kernel_rfl
theorem tc69 : Tryd.prog.concrete 69 = true := by kernel_rfl
theorem ts70 : tS Tryd.prog 70 = some 1 := by kernel_rfl
theorem tb70 : tB Tryd.prog 70 = some 8 := by kernel_rfl
theorem ta70 : tA Tryd.prog 70 = some false := by kernel_rfl
theorem tz70 : tZ Tryd.prog 70 = some [.nilFunc] := by kernel_rfl
theorem tv70 : tV Tryd.prog 70 = some (.nilFunc) := by kernel_rfl
theorem tc70 : Tryd.prog.concrete 70 = true := by kernel_rfl
theorem ts71 : tS Tryd.prog 71 = some 1 := by kernel_rfl
theorem tb71 : tB Tryd.prog 71 = some 8 := by kernel_rfl
theorem ta71 : tA Tryd.prog 71 = some false := by kernel_rfl
theorem tz71 : tZ Tryd.prog 71 = some [.pointer none] := by kernel_rfl
theorem tv71 : tV Tryd.prog 71 = some (.pointer none) := by kernel_rfl
theorem tc71 : Tryd.prog.concrete 71 = true := by kernel_rfl
theorem ts72 : tS Tryd.prog 72 = some 1 := by kernel_rfl
theorem tb72 : tB Tryd.prog 72 = some 24 := by kernel_rfl
theorem ta72 : tA Tryd.prog 72 = some false := by kernel_rfl
theorem tz72 : tZ Tryd.prog 72 = some [.slice none 0 0] := by kernel_rfl
theorem tv72 : tV Tryd.prog 72 = some (.slice none 0 0) := by kernel_rfl
theorem tc72 : Tryd.prog.concrete 72 = true := by kernel_rfl
theorem ts73 : tS Tryd.prog 73 = some 2 := by kernel_rfl
theorem tb73 : tB Tryd.prog 73 = some 32 := by kernel_rfl
theorem ta73 : tA Tryd.prog 73 = some true := by kernel_rfl
theorem tz73 : tZ Tryd.prog 73 = some [.pointer none, .slice none 0 0] := by kernel_rfl
theorem tv73 : tV Tryd.prog 73 = some (.agg ⟨[.pointer none, .slice none 0 0]⟩) := by kernel_rfl
theorem tf73_0 : tF Tryd.prog 73 0 = some (0, 71) := by kernel_rfl
theorem tf73_1 : tF Tryd.prog 73 1 = some (1, 72) := by kernel_rfl
theorem tp73 : tP Tryd.prog 73 = some (.inl [(0, 1), (1, 1)]) := by kernel_rfl
theorem tc73 : Tryd.prog.concrete 73 = true := by kernel_rfl
theorem tg73 : Tryd.prog.eqGuardType Tryd.prog.depth 73 = false := by kernel_rfl
theorem ts74 : tS Tryd.prog 74 = some 2 := by kernel_rfl
theorem tb74 : tB Tryd.prog 74 = some 32 := by kernel_rfl
theorem ta74 : tA Tryd.prog 74 = some true := by kernel_rfl
theorem tz74 : tZ Tryd.prog 74 = some [.pointer none, .slice none 0 0] := by kernel_rfl
theorem tv74 : tV Tryd.prog 74 = some (.agg ⟨[.pointer none, .slice none 0 0]⟩) := by kernel_rfl
theorem tf74_0 : tF Tryd.prog 74 0 = some (0, 71) := by kernel_rfl
theorem tf74_1 : tF Tryd.prog 74 1 = some (1, 72) := by kernel_rfl
theorem tp74 : tP Tryd.prog 74 = some (.inl [(0, 1), (1, 1)]) := by kernel_rfl
theorem tc74 : Tryd.prog.concrete 74 = true := by kernel_rfl
theorem tg74 : Tryd.prog.eqGuardType Tryd.prog.depth 74 = false := by kernel_rfl
theorem ts75 : tS Tryd.prog 75 = some 1 := by kernel_rfl
theorem tb75 : tB Tryd.prog 75 = some 16 := by kernel_rfl
theorem ta75 : tA Tryd.prog 75 = some false := by kernel_rfl
theorem tz75 : tZ Tryd.prog 75 = some [.nilIface] := by kernel_rfl
theorem tv75 : tV Tryd.prog 75 = some (.nilIface) := by kernel_rfl
theorem ts76 : tS Tryd.prog 76 = some 1 := by kernel_rfl
theorem tb76 : tB Tryd.prog 76 = some 16 := by kernel_rfl
theorem ta76 : tA Tryd.prog 76 = some false := by kernel_rfl
theorem tz76 : tZ Tryd.prog 76 = some [.nilIface] := by kernel_rfl
theorem tv76 : tV Tryd.prog 76 = some (.nilIface) := by kernel_rfl
theorem ts78 : tS Tryd.prog 78 = some 1 := by kernel_rfl
theorem tb78 : tB Tryd.prog 78 = some 8 := by kernel_rfl
theorem ta78 : tA Tryd.prog 78 = some false := by kernel_rfl
theorem tz78 : tZ Tryd.prog 78 = some [.nilFunc] := by kernel_rfl
theorem tv78 : tV Tryd.prog 78 = some (.nilFunc) := by kernel_rfl
theorem tc78 : Tryd.prog.concrete 78 = true := by kernel_rfl
theorem ts79 : tS Tryd.prog 79 = some 1 := by kernel_rfl
theorem tb79 : tB Tryd.prog 79 = some 8 := by kernel_rfl
theorem ta79 : tA Tryd.prog 79 = some false := by kernel_rfl
theorem tz79 : tZ Tryd.prog 79 = some [.nilFunc] := by kernel_rfl
theorem tv79 : tV Tryd.prog 79 = some (.nilFunc) := by kernel_rfl
theorem tc79 : Tryd.prog.concrete 79 = true := by kernel_rfl
theorem ts80 : tS Tryd.prog 80 = some 1 := by kernel_rfl
theorem tb80 : tB Tryd.prog 80 = some 8 := by kernel_rfl
theorem ta80 : tA Tryd.prog 80 = some false := by kernel_rfl
theorem tz80 : tZ Tryd.prog 80 = some [.nilFunc] := by kernel_rfl
theorem tv80 : tV Tryd.prog 80 = some (.nilFunc) := by kernel_rfl
theorem tc80 : Tryd.prog.concrete 80 = true := by kernel_rfl
theorem ts81 : tS Tryd.prog 81 = some 1 := by kernel_rfl
theorem tb81 : tB Tryd.prog 81 = some 8 := by kernel_rfl
theorem ta81 : tA Tryd.prog 81 = some false := by kernel_rfl
theorem tz81 : tZ Tryd.prog 81 = some [.nilFunc] := by kernel_rfl
theorem tv81 : tV Tryd.prog 81 = some (.nilFunc) := by kernel_rfl
theorem tc81 : Tryd.prog.concrete 81 = true := by kernel_rfl
theorem ts82 : tS Tryd.prog 82 = some 1 := by kernel_rfl
theorem tb82 : tB Tryd.prog 82 = some 8 := by kernel_rfl
theorem ta82 : tA Tryd.prog 82 = some false := by kernel_rfl
theorem tz82 : tZ Tryd.prog 82 = some [.nilFunc] := by kernel_rfl
theorem tv82 : tV Tryd.prog 82 = some (.nilFunc) := by kernel_rfl
theorem tc82 : Tryd.prog.concrete 82 = true := by kernel_rfl
theorem ts83 : tS Tryd.prog 83 = some 1 := by kernel_rfl
theorem tb83 : tB Tryd.prog 83 = some 8 := by kernel_rfl
theorem ta83 : tA Tryd.prog 83 = some false := by kernel_rfl
theorem tz83 : tZ Tryd.prog 83 = some [.nilFunc] := by kernel_rfl
theorem tv83 : tV Tryd.prog 83 = some (.nilFunc) := by kernel_rfl
theorem tc83 : Tryd.prog.concrete 83 = true := by kernel_rfl
theorem ts84 : tS Tryd.prog 84 = some 1 := by kernel_rfl
theorem tb84 : tB Tryd.prog 84 = some 8 := by kernel_rfl
theorem ta84 : tA Tryd.prog 84 = some false := by kernel_rfl
theorem tz84 : tZ Tryd.prog 84 = some [.nilFunc] := by kernel_rfl
theorem tv84 : tV Tryd.prog 84 = some (.nilFunc) := by kernel_rfl
theorem tc84 : Tryd.prog.concrete 84 = true := by kernel_rfl
theorem ts85 : tS Tryd.prog 85 = some 1 := by kernel_rfl
theorem tb85 : tB Tryd.prog 85 = some 8 := by kernel_rfl
theorem ta85 : tA Tryd.prog 85 = some false := by kernel_rfl
theorem tz85 : tZ Tryd.prog 85 = some [.nilFunc] := by kernel_rfl
theorem tv85 : tV Tryd.prog 85 = some (.nilFunc) := by kernel_rfl
theorem tc85 : Tryd.prog.concrete 85 = true := by kernel_rfl
theorem ts86 : tS Tryd.prog 86 = some 1 := by kernel_rfl
theorem tb86 : tB Tryd.prog 86 = some 8 := by kernel_rfl
theorem ta86 : tA Tryd.prog 86 = some false := by kernel_rfl
theorem tz86 : tZ Tryd.prog 86 = some [.nilFunc] := by kernel_rfl
theorem tv86 : tV Tryd.prog 86 = some (.nilFunc) := by kernel_rfl
theorem tc86 : Tryd.prog.concrete 86 = true := by kernel_rfl
theorem ts87 : tS Tryd.prog 87 = some 1 := by kernel_rfl
theorem tb87 : tB Tryd.prog 87 = some 8 := by kernel_rfl
theorem ta87 : tA Tryd.prog 87 = some false := by kernel_rfl
theorem tz87 : tZ Tryd.prog 87 = some [.nilFunc] := by kernel_rfl
theorem tv87 : tV Tryd.prog 87 = some (.nilFunc) := by kernel_rfl
theorem tc87 : Tryd.prog.concrete 87 = true := by kernel_rfl
theorem ts88 : tS Tryd.prog 88 = some 1 := by kernel_rfl
theorem tb88 : tB Tryd.prog 88 = some 8 := by kernel_rfl
theorem ta88 : tA Tryd.prog 88 = some false := by kernel_rfl
theorem tz88 : tZ Tryd.prog 88 = some [.nilFunc] := by kernel_rfl
theorem tv88 : tV Tryd.prog 88 = some (.nilFunc) := by kernel_rfl
theorem tc88 : Tryd.prog.concrete 88 = true := by kernel_rfl
theorem ts89 : tS Tryd.prog 89 = some 1 := by kernel_rfl
theorem tb89 : tB Tryd.prog 89 = some 8 := by kernel_rfl
theorem ta89 : tA Tryd.prog 89 = some false := by kernel_rfl
theorem tz89 : tZ Tryd.prog 89 = some [.int .u64 0] := by kernel_rfl
theorem tv89 : tV Tryd.prog 89 = some (.int .u64 0) := by kernel_rfl
theorem tc89 : Tryd.prog.concrete 89 = true := by kernel_rfl
theorem ts90 : tS Tryd.prog 90 = some 1 := by kernel_rfl
theorem tb90 : tB Tryd.prog 90 = some 8 := by kernel_rfl
theorem ta90 : tA Tryd.prog 90 = some false := by kernel_rfl
theorem tz90 : tZ Tryd.prog 90 = some [.nilFunc] := by kernel_rfl
theorem tv90 : tV Tryd.prog 90 = some (.nilFunc) := by kernel_rfl
theorem tc90 : Tryd.prog.concrete 90 = true := by kernel_rfl
theorem ts91 : tS Tryd.prog 91 = some 1 := by kernel_rfl
theorem tb91 : tB Tryd.prog 91 = some 8 := by kernel_rfl
theorem ta91 : tA Tryd.prog 91 = some false := by kernel_rfl
theorem tz91 : tZ Tryd.prog 91 = some [.pointer none] := by kernel_rfl
theorem tv91 : tV Tryd.prog 91 = some (.pointer none) := by kernel_rfl
theorem tc91 : Tryd.prog.concrete 91 = true := by kernel_rfl
theorem ts92 : tS Tryd.prog 92 = some 1 := by kernel_rfl
theorem tb92 : tB Tryd.prog 92 = some 8 := by kernel_rfl
theorem ta92 : tA Tryd.prog 92 = some false := by kernel_rfl
theorem tz92 : tZ Tryd.prog 92 = some [.nilFunc] := by kernel_rfl
theorem tv92 : tV Tryd.prog 92 = some (.nilFunc) := by kernel_rfl
theorem tc92 : Tryd.prog.concrete 92 = true := by kernel_rfl
theorem ts93 : tS Tryd.prog 93 = some 1 := by kernel_rfl
theorem tb93 : tB Tryd.prog 93 = some 8 := by kernel_rfl
theorem ta93 : tA Tryd.prog 93 = some false := by kernel_rfl
theorem tz93 : tZ Tryd.prog 93 = some [.int .i64 0] := by kernel_rfl
theorem tv93 : tV Tryd.prog 93 = some (.int .i64 0) := by kernel_rfl
theorem tc93 : Tryd.prog.concrete 93 = true := by kernel_rfl
theorem ts95 : tS Tryd.prog 95 = some 1 := by kernel_rfl
theorem tb95 : tB Tryd.prog 95 = some 8 := by kernel_rfl
theorem ta95 : tA Tryd.prog 95 = some false := by kernel_rfl
theorem tz95 : tZ Tryd.prog 95 = some [.nilFunc] := by kernel_rfl
theorem tv95 : tV Tryd.prog 95 = some (.nilFunc) := by kernel_rfl
theorem tc95 : Tryd.prog.concrete 95 = true := by kernel_rfl
theorem ts96 : tS Tryd.prog 96 = some 1 := by kernel_rfl
theorem tb96 : tB Tryd.prog 96 = some 8 := by kernel_rfl
theorem ta96 : tA Tryd.prog 96 = some false := by kernel_rfl
theorem tz96 : tZ Tryd.prog 96 = some [.nilFunc] := by kernel_rfl
theorem tv96 : tV Tryd.prog 96 = some (.nilFunc) := by kernel_rfl
theorem tc96 : Tryd.prog.concrete 96 = true := by kernel_rfl
theorem ts97 : tS Tryd.prog 97 = some 1 := by kernel_rfl
theorem tb97 : tB Tryd.prog 97 = some 8 := by kernel_rfl
theorem ta97 : tA Tryd.prog 97 = some false := by kernel_rfl
theorem tz97 : tZ Tryd.prog 97 = some [.nilFunc] := by kernel_rfl
theorem tv97 : tV Tryd.prog 97 = some (.nilFunc) := by kernel_rfl
theorem tc97 : Tryd.prog.concrete 97 = true := by kernel_rfl
theorem ts99 : tS Tryd.prog 99 = some 1 := by kernel_rfl
theorem tb99 : tB Tryd.prog 99 = some 8 := by kernel_rfl
theorem ta99 : tA Tryd.prog 99 = some false := by kernel_rfl
theorem tz99 : tZ Tryd.prog 99 = some [.nilFunc] := by kernel_rfl
theorem tv99 : tV Tryd.prog 99 = some (.nilFunc) := by kernel_rfl
theorem tc99 : Tryd.prog.concrete 99 = true := by kernel_rfl
theorem ts100 : tS Tryd.prog 100 = some 1 := by kernel_rfl
theorem tb100 : tB Tryd.prog 100 = some 8 := by kernel_rfl
theorem ta100 : tA Tryd.prog 100 = some false := by kernel_rfl
theorem tz100 : tZ Tryd.prog 100 = some [.nilFunc] := by kernel_rfl
theorem tv100 : tV Tryd.prog 100 = some (.nilFunc) := by kernel_rfl
theorem tc100 : Tryd.prog.concrete 100 = true := by kernel_rfl
theorem ts101 : tS Tryd.prog 101 = some 1 := by kernel_rfl
theorem tb101 : tB Tryd.prog 101 = some 4 := by kernel_rfl
theorem ta101 : tA Tryd.prog 101 = some false := by kernel_rfl
theorem tz101 : tZ Tryd.prog 101 = some [.int .u32 0] := by kernel_rfl
theorem tv101 : tV Tryd.prog 101 = some (.int .u32 0) := by kernel_rfl
theorem tc101 : Tryd.prog.concrete 101 = true := by kernel_rfl
theorem ts102 : tS Tryd.prog 102 = some 1 := by kernel_rfl
theorem tb102 : tB Tryd.prog 102 = some 8 := by kernel_rfl
theorem ta102 : tA Tryd.prog 102 = some false := by kernel_rfl
theorem tz102 : tZ Tryd.prog 102 = some [.nilFunc] := by kernel_rfl
theorem tv102 : tV Tryd.prog 102 = some (.nilFunc) := by kernel_rfl
theorem tc102 : Tryd.prog.concrete 102 = true := by kernel_rfl
theorem ts103 : tS Tryd.prog 103 = some 1 := by kernel_rfl
theorem tb103 : tB Tryd.prog 103 = some 8 := by kernel_rfl
theorem ta103 : tA Tryd.prog 103 = some false := by kernel_rfl
theorem tz103 : tZ Tryd.prog 103 = some [.int .u64 0] := by kernel_rfl
theorem tv103 : tV Tryd.prog 103 = some (.int .u64 0) := by kernel_rfl
theorem tc103 : Tryd.prog.concrete 103 = true := by kernel_rfl
theorem ts104 : tS Tryd.prog 104 = some 1 := by kernel_rfl
theorem tb104 : tB Tryd.prog 104 = some 8 := by kernel_rfl
theorem ta104 : tA Tryd.prog 104 = some false := by kernel_rfl
theorem tz104 : tZ Tryd.prog 104 = some [.pointer none] := by kernel_rfl
theorem tv104 : tV Tryd.prog 104 = some (.pointer none) := by kernel_rfl
theorem tc104 : Tryd.prog.concrete 104 = true := by kernel_rfl
theorem ts105 : tS Tryd.prog 105 = some 1 := by kernel_rfl
theorem tb105 : tB Tryd.prog 105 = some 8 := by kernel_rfl
theorem ta105 : tA Tryd.prog 105 = some false := by kernel_rfl
theorem tz105 : tZ Tryd.prog 105 = some [.nilFunc] := by kernel_rfl
theorem tv105 : tV Tryd.prog 105 = some (.nilFunc) := by kernel_rfl
theorem tc105 : Tryd.prog.concrete 105 = true := by kernel_rfl
theorem ts106 : tS Tryd.prog 106 = some 1 := by kernel_rfl
theorem tb106 : tB Tryd.prog 106 = some 8 := by kernel_rfl
theorem ta106 : tA Tryd.prog 106 = some false := by kernel_rfl
theorem tz106 : tZ Tryd.prog 106 = some [.nilFunc] := by kernel_rfl
theorem tv106 : tV Tryd.prog 106 = some (.nilFunc) := by kernel_rfl
theorem tc106 : Tryd.prog.concrete 106 = true := by kernel_rfl
theorem ts107 : tS Tryd.prog 107 = some 1 := by kernel_rfl
theorem tb107 : tB Tryd.prog 107 = some 8 := by kernel_rfl
theorem ta107 : tA Tryd.prog 107 = some false := by kernel_rfl
theorem tz107 : tZ Tryd.prog 107 = some [.nilFunc] := by kernel_rfl
theorem tv107 : tV Tryd.prog 107 = some (.nilFunc) := by kernel_rfl
theorem tc107 : Tryd.prog.concrete 107 = true := by kernel_rfl
theorem ts108 : tS Tryd.prog 108 = some 1 := by kernel_rfl
theorem tb108 : tB Tryd.prog 108 = some 8 := by kernel_rfl
theorem ta108 : tA Tryd.prog 108 = some false := by kernel_rfl
theorem tz108 : tZ Tryd.prog 108 = some [.int .u64 0] := by kernel_rfl
theorem tv108 : tV Tryd.prog 108 = some (.int .u64 0) := by kernel_rfl
theorem tc108 : Tryd.prog.concrete 108 = true := by kernel_rfl
theorem ts109 : tS Tryd.prog 109 = some 1 := by kernel_rfl
theorem tb109 : tB Tryd.prog 109 = some 8 := by kernel_rfl
theorem ta109 : tA Tryd.prog 109 = some false := by kernel_rfl
theorem tz109 : tZ Tryd.prog 109 = some [.nilFunc] := by kernel_rfl
theorem tv109 : tV Tryd.prog 109 = some (.nilFunc) := by kernel_rfl
theorem tc109 : Tryd.prog.concrete 109 = true := by kernel_rfl
theorem ts110 : tS Tryd.prog 110 = some 1 := by kernel_rfl
theorem tb110 : tB Tryd.prog 110 = some 8 := by kernel_rfl
theorem ta110 : tA Tryd.prog 110 = some false := by kernel_rfl
theorem tz110 : tZ Tryd.prog 110 = some [.nilFunc] := by kernel_rfl
theorem tv110 : tV Tryd.prog 110 = some (.nilFunc) := by kernel_rfl
theorem tc110 : Tryd.prog.concrete 110 = true := by kernel_rfl
theorem ts111 : tS Tryd.prog 111 = some 1 := by kernel_rfl
theorem tb111 : tB Tryd.prog 111 = some 8 := by kernel_rfl
theorem ta111 : tA Tryd.prog 111 = some false := by kernel_rfl
theorem tz111 : tZ Tryd.prog 111 = some [.nilFunc] := by kernel_rfl
theorem tv111 : tV Tryd.prog 111 = some (.nilFunc) := by kernel_rfl
theorem tc111 : Tryd.prog.concrete 111 = true := by kernel_rfl
theorem ts112 : tS Tryd.prog 112 = some 1 := by kernel_rfl
theorem tb112 : tB Tryd.prog 112 = some 8 := by kernel_rfl
theorem ta112 : tA Tryd.prog 112 = some false := by kernel_rfl
theorem tz112 : tZ Tryd.prog 112 = some [.pointer none] := by kernel_rfl
theorem tv112 : tV Tryd.prog 112 = some (.pointer none) := by kernel_rfl
theorem tc112 : Tryd.prog.concrete 112 = true := by kernel_rfl
theorem ts113 : tS Tryd.prog 113 = some 1 := by kernel_rfl
theorem tb113 : tB Tryd.prog 113 = some 8 := by kernel_rfl
theorem ta113 : tA Tryd.prog 113 = some false := by kernel_rfl
theorem tz113 : tZ Tryd.prog 113 = some [.nilFunc] := by kernel_rfl
theorem tv113 : tV Tryd.prog 113 = some (.nilFunc) := by kernel_rfl
theorem tc113 : Tryd.prog.concrete 113 = true := by kernel_rfl
theorem ts114 : tS Tryd.prog 114 = some 24 := by kernel_rfl
theorem tb114 : tB Tryd.prog 114 = some 24 := by kernel_rfl
theorem ta114 : tA Tryd.prog 114 = some true := by kernel_rfl
theorem tz114 : tZ Tryd.prog 114 = some [.int .u8 0, .int .u8 0, .int .u8 0, .int .u8 0, .int .u8 0, .int .u8 0, .int .u8 0, .int .u8 0, .int .u8 0, .int .u8 0, .int .u8 0, .int .u8 0, .int .u8 0, .int .u8 0, .int .u8 0, .int .u8 0, .int .u8 0, .int .u8 0, .int .u8 0, .int .u8 0, .int .u8 0, .int .u8 0, .int .u8 0, .int .u8 0] := by kernel_rfl
theorem tv114 : tV Tryd.prog 114 = some (.agg ⟨[.int .u8 0, .int .u8 0, .int .u8 0, .int .u8 0, .int .u8 0, .int .u8 0, .int .u8 0, .int .u8 0, .int .u8 0, .int .u8 0, .int .u8 0, .int .u8 0, .int .u8 0, .int .u8 0, .int .u8 0, .int .u8 0, .int .u8 0, .int .u8 0, .int .u8 0, .int .u8 0, .int .u8 0, .int .u8 0, .int .u8 0, .int .u8 0]⟩) := by kernel_rfl
theorem tp114 : tP Tryd.prog 114 = some (.inr 1) := by kernel_rfl
theorem tc114 : Tryd.prog.concrete 114 = true := by kernel_rfl
theorem tg114 : Tryd.prog.eqGuardType Tryd.prog.depth 114 = false := by kernel_rfl
theorem ts115 : tS Tryd.prog 115 = some 1 := by kernel_rfl
theorem tb115 : tB Tryd.prog 115 = some 8 := by kernel_rfl
theorem ta115 : tA Tryd.prog 115 = some false := by kernel_rfl
theorem tz115 : tZ Tryd.prog 115 = some [.nilFunc] := by kernel_rfl
theorem tv115 : tV Tryd.prog 115 = some (.nilFunc) := by kernel_rfl
theorem tc115 : Tryd.prog.concrete 115 = true := by kernel_rfl
theorem ts117 : tS Tryd.prog 117 = some 1 := by kernel_rfl
theorem tb117 : tB Tryd.prog 117 = some 8 := by kernel_rfl
theorem ta117 : tA Tryd.prog 117 = some false := by kernel_rfl
theorem tz117 : tZ Tryd.prog 117 = some [.nilFunc] := by kernel_rfl
theorem tv117 : tV Tryd.prog 117 = some (.nilFunc) := by kernel_rfl
theorem tc117 : Tryd.prog.concrete 117 = true := by kernel_rfl
theorem ts119 : tS Tryd.prog 119 = some 1 := by kernel_rfl
theorem tb119 : tB Tryd.prog 119 = some 8 := by kernel_rfl
theorem ta119 : tA Tryd.prog 119 = some false := by kernel_rfl
theorem tz119 : tZ Tryd.prog 119 = some [.nilFunc] := by kernel_rfl
theorem tv119 : tV Tryd.prog 119 = some (.nilFunc) := by kernel_rfl
theorem tc119 : Tryd.prog.concrete 119 = true := by kernel_rfl
theorem ts120 : tS Tryd.prog 120 = some 1 := by kernel_rfl
theorem tb120 : tB Tryd.prog 120 = some 8 := by kernel_rfl
theorem ta120 : tA Tryd.prog 120 = some false := by kernel_rfl
theorem tz120 : tZ Tryd.prog 120 = some [.nilFunc] := by kernel_rfl
theorem tv120 : tV Tryd.prog 120 = some (.nilFunc) := by kernel_rfl
theorem tc120 : Tryd.prog.concrete 120 = true := by kernel_rfl
theorem ts121 : tS Tryd.prog 121 = some 1 := by kernel_rfl
theorem tb121 : tB Tryd.prog 121 = some 8 := by kernel_rfl
theorem ta121 : tA Tryd.prog 121 = some false := by kernel_rfl
theorem tz121 : tZ Tryd.prog 121 = some [.pointer none] := by kernel_rfl
theorem tv121 : tV Tryd.prog 121 = some (.pointer none) := by kernel_rfl
theorem tc121 : Tryd.prog.concrete 121 = true := by kernel_rfl
theorem ts123 : tS Tryd.prog 123 = some 1 := by kernel_rfl
theorem tb123 : tB Tryd.prog 123 = some 8 := by kernel_rfl
theorem ta123 : tA Tryd.prog 123 = some false := by kernel_rfl
theorem tz123 : tZ Tryd.prog 123 = some [.nilFunc] := by kernel_rfl
theorem tv123 : tV Tryd.prog 123 = some (.nilFunc) := by kernel_rfl
theorem tc123 : Tryd.prog.concrete 123 = true := by kernel_rfl
theorem ts124 : tS Tryd.prog 124 = some 1 := by kernel_rfl
theorem tb124 : tB Tryd.prog 124 = some 8 := by kernel_rfl
theorem ta124 : tA Tryd.prog 124 = some false := by kernel_rfl
theorem tz124 : tZ Tryd.prog 124 = some [.nilFunc] := by kernel_rfl
theorem tv124 : tV Tryd.prog 124 = some (.nilFunc) := by kernel_rfl
theorem tc124 : Tryd.prog.concrete 124 = true := by kernel_rfl
theorem ts125 : tS Tryd.prog 125 = some 20 := by kernel_rfl
theorem tb125 : tB Tryd.prog 125 = some 160 := by kernel_rfl
theorem ta125 : tA Tryd.prog 125 = some true := by kernel_rfl
theorem tz125 : tZ Tryd.prog 125 = some [.int .u64 0, .int .u64 0, .int .u64 0, .int .u64 0, .int .u64 0, .int .u64 0, .int .u64 0, .int .u64 0, .int .u64 0, .int .u64 0, .int .u64 0, .int .u64 0, .int .u64 0, .int .u64 0, .int .u64 0, .int .u64 0, .int .u64 0, .int .u64 0, .int .u64 0, .int .u64 0] := by kernel_rfl
theorem tv125 : tV Tryd.prog 125 = some (.agg ⟨[.int .u64 0, .int .u64 0, .int .u64 0, .int .u64 0, .int .u64 0, .int .u64 0, .int .u64 0, .int .u64 0, .int .u64 0, .int .u64 0, .int .u64 0, .int .u64 0, .int .u64 0, .int .u64 0, .int .u64 0, .int .u64 0, .int .u64 0, .int .u64 0, .int .u64 0, .int .u64 0]⟩) := by kernel_rfl
theorem tp125 : tP Tryd.prog 125 = some (.inr 1) := by kernel_rfl
theorem tc125 : Tryd.prog.concrete 125 = true := by kernel_rfl
theorem tg125 : Tryd.prog.eqGuardType Tryd.prog.depth 125 = false := by kernel_rfl
theorem ts126 : tS Tryd.prog 126 = some 65 := by kernel_rfl
theorem tb126 : tB Tryd.prog 126 = some 65 := by kernel_rfl
theorem ta126 : tA Tryd.prog 126 = some true := by kernel_rfl
theorem tp126 : tP Tryd.prog 126 = some (.inr 1) := by kernel_rfl
theorem tc126 : Tryd.prog.concrete 126 = true := by kernel_rfl
theorem tg126 : Tryd.prog.eqGuardType Tryd.prog.depth 126 = false := by kernel_rfl
theorem ts127 : tS Tryd.prog 127 = some 1 := by kernel_rfl
theorem tb127 : tB Tryd.prog 127 = some 8 := by kernel_rfl
theorem ta127 : tA Tryd.prog 127 = some false := by kernel_rfl
theorem tz127 : tZ Tryd.prog 127 = some [.nilFunc] := by kernel_rfl
theorem tv127 : tV Tryd.prog 127 = some (.nilFunc) := by kernel_rfl
theorem tc127 : Tryd.prog.concrete 127 = true := by kernel_rfl
theorem ts128 : tS Tryd.prog 128 = some 1 := by kernel_rfl
theorem tb128 : tB Tryd.prog 128 = some 8 := by kernel_rfl
theorem ta128 : tA Tryd.prog 128 = some false := by kernel_rfl
theorem tz128 : tZ Tryd.prog 128 = some [.nilFunc] := by kernel_rfl
theorem tv128 : tV Tryd.prog 128 = some (.nilFunc) := by kernel_rfl
theorem tc128 : Tryd.prog.concrete 128 = true := by kernel_rfl
theorem ts129 : tS Tryd.prog 129 = some 256 := by kernel_rfl
theorem tb129 : tB Tryd.prog 129 = some 256 := by kernel_rfl
theorem ta129 : tA Tryd.prog 129 = some true := by kernel_rfl
theorem tp129 : tP Tryd.prog 129 = some (.inr 1) := by kernel_rfl
theorem tc129 : Tryd.prog.concrete 129 = true := by kernel_rfl
theorem tg129 : Tryd.prog.eqGuardType Tryd.prog.depth 129 = false := by kernel_rfl
theorem ts130 : tS Tryd.prog 130 = some 2 := by kernel_rfl
theorem tb130 : tB Tryd.prog 130 = some 2 := by kernel_rfl
theorem ta130 : tA Tryd.prog 130 = some true := by kernel_rfl
theorem tz130 : tZ Tryd.prog 130 = some [.int .u8 0, .int .u8 0] := by kernel_rfl
theorem tv130 : tV Tryd.prog 130 = some (.agg ⟨[.int .u8 0, .int .u8 0]⟩) := by kernel_rfl
theorem tf130_0 : tF Tryd.prog 130 0 = some (0, 5) := by kernel_rfl
theorem tf130_1 : tF Tryd.prog 130 1 = some (1, 5) := by kernel_rfl
theorem tp130 : tP Tryd.prog 130 = some (.inl [(0, 1), (1, 1)]) := by kernel_rfl
theorem tc130 : Tryd.prog.concrete 130 = true := by kernel_rfl
theorem tg130 : Tryd.prog.eqGuardType Tryd.prog.depth 130 = false := by kernel_rfl
theorem ts131 : tS Tryd.prog 131 = some 2 := by kernel_rfl
theorem tb131 : tB Tryd.prog 131 = some 2 := by kernel_rfl
theorem ta131 : tA Tryd.prog 131 = some true := by kernel_rfl
theorem tz131 : tZ Tryd.prog 131 = some [.int .u8 0, .int .u8 0] := by kernel_rfl
theorem tv131 : tV Tryd.prog 131 = some (.agg ⟨[.int .u8 0, .int .u8 0]⟩) := by kernel_rfl
theorem tf131_0 : tF Tryd.prog 131 0 = some (0, 5) := by kernel_rfl
theorem tf131_1 : tF Tryd.prog 131 1 = some (1, 5) := by kernel_rfl
theorem tp131 : tP Tryd.prog 131 = some (.inl [(0, 1), (1, 1)]) := by kernel_rfl
theorem tc131 : Tryd.prog.concrete 131 = true := by kernel_rfl
theorem tg131 : Tryd.prog.eqGuardType Tryd.prog.depth 131 = false := by kernel_rfl
theorem ts132 : tS Tryd.prog 132 = some 32 := by kernel_rfl
theorem tb132 : tB Tryd.prog 132 = some 32 := by kernel_rfl
theorem ta132 : tA Tryd.prog 132 = some true := by kernel_rfl
theorem tz132 : tZ Tryd.prog 132 = some [.int .u8 0, .int .u8 0, .int .u8 0, .int .u8 0, .int .u8 0, .int .u8 0, .int .u8 0, .int .u8 0, .int .u8 0, .int .u8 0, .int .u8 0, .int .u8 0, .int .u8 0, .int .u8 0, .int .u8 0, .int .u8 0, .int .u8 0, .int .u8 0, .int .u8 0, .int .u8 0, .int .u8 0, .int .u8 0, .int .u8 0, .int .u8 0, .int .u8 0, .int .u8 0, .int .u8 0, .int .u8 0, .int .u8 0, .int .u8 0, .int .u8 0, .int .u8 0] := by kernel_rfl
theorem tv132 : tV Tryd.prog 132 = some (.agg ⟨[.int .u8 0, .int .u8 0, .int .u8 0, .int .u8 0, .int .u8 0, .int .u8 0, .int .u8 0, .int .u8 0, .int .u8 0, .int .u8 0, .int .u8 0, .int .u8 0, .int .u8 0, .int .u8 0, .int .u8 0, .int .u8 0, .int .u8 0, .int .u8 0, .int .u8 0, .int .u8 0, .int .u8 0, .int .u8 0, .int .u8 0, .int .u8 0, .int .u8 0, .int .u8 0, .int .u8 0, .int .u8 0, .int .u8 0, .int .u8 0, .int .u8 0, .int .u8 0]⟩) := by kernel_rfl
theorem tp132 : tP Tryd.prog 132 = some (.inr 2) := by kernel_rfl
theorem tc132 : Tryd.prog.concrete 132 = true := by kernel_rfl
theorem tg132 : Tryd.prog.eqGuardType Tryd.prog.depth 132 = false := by kernel_rfl
theorem ts133 : tS Tryd.prog 133 = some 1 := by kernel_rfl
theorem tb133 : tB Tryd.prog 133 = some 2 := by kernel_rfl
theorem ta133 : tA Tryd.prog 133 = some false := by kernel_rfl
theorem tz133 : tZ Tryd.prog 133 = some [.int .u16 0] := by kernel_rfl
theorem tv133 : tV Tryd.prog 133 = some (.int .u16 0) := by kernel_rfl
theorem tc133 : Tryd.prog.concrete 133 = true := by kernel_rfl
theorem ts134 : tS Tryd.prog 134 = some 1 := by kernel_rfl
theorem tb134 : tB Tryd.prog 134 = some 24 := by kernel_rfl
theorem ta134 : tA Tryd.prog 134 = some false := by kernel_rfl
theorem tz134 : tZ Tryd.prog 134 = some [.slice none 0 0] := by kernel_rfl
theorem tv134 : tV Tryd.prog 134 = some (.slice none 0 0) := by kernel_rfl
theorem tc134 : Tryd.prog.concrete 134 = true := by kernel_rfl
theorem ts135 : tS Tryd.prog 135 = some 1 := by kernel_rfl
theorem tb135 : tB Tryd.prog 135 = some 8 := by kernel_rfl
theorem ta135 : tA Tryd.prog 135 = some false := by kernel_rfl
theorem tz135 : tZ Tryd.prog 135 = some [.nilFunc] := by kernel_rfl
theorem tv135 : tV Tryd.prog 135 = some (.nilFunc) := by kernel_rfl
theorem tc135 : Tryd.prog.concrete 135 = true := by kernel_rfl
theorem ts136 : tS Tryd.prog 136 = some 1 := by kernel_rfl
theorem tb136 : tB Tryd.prog 136 = some 24 := by kernel_rfl
theorem ta136 : tA Tryd.prog 136 = some false := by kernel_rfl
theorem tz136 : tZ Tryd.prog 136 = some [.slice none 0 0] := by kernel_rfl
theorem tv136 : tV Tryd.prog 136 = some (.slice none 0 0) := by kernel_rfl
theorem tc136 : Tryd.prog.concrete 136 = true := by kernel_rfl
theorem ts137 : tS Tryd.prog 137 = some 1 := by kernel_rfl
theorem tb137 : tB Tryd.prog 137 = some 8 := by kernel_rfl
theorem ta137 : tA Tryd.prog 137 = some false := by kernel_rfl
theorem tz137 : tZ Tryd.prog 137 = some [.nilFunc] := by kernel_rfl
theorem tv137 : tV Tryd.prog 137 = some (.nilFunc) := by kernel_rfl
theorem tc137 : Tryd.prog.concrete 137 = true := by kernel_rfl
theorem ts138 : tS Tryd.prog 138 = some 32 := by kernel_rfl
theorem tb138 : tB Tryd.prog 138 = some 32 := by kernel_rfl
theorem ta138 : tA Tryd.prog 138 = some true := by kernel_rfl
theorem tz138 : tZ Tryd.prog 138 = some [.int .u8 0, .int .u8 0, .int .u8 0, .int .u8 0, .int .u8 0, .int .u8 0, .int .u8 0, .int .u8 0, .int .u8 0, .int .u8 0, .int .u8 0, .int .u8 0, .int .u8 0, .int .u8 0, .int .u8 0, .int .u8 0, .int .u8 0, .int .u8 0, .int .u8 0, .int .u8 0, .int .u8 0, .int .u8 0, .int .u8 0, .int .u8 0, .int .u8 0, .int .u8 0, .int .u8 0, .int .u8 0, .int .u8 0, .int .u8 0, .int .u8 0, .int .u8 0] := by kernel_rfl
theorem tv138 : tV Tryd.prog 138 = some (.agg ⟨[.int .u8 0, .int .u8 0, .int .u8 0, .int .u8 0, .int .u8 0, .int .u8 0, .int .u8 0, .int .u8 0, .int .u8 0, .int .u8 0, .int .u8 0, .int .u8 0, .int .u8 0, .int .u8 0, .int .u8 0, .int .u8 0, .int .u8 0, .int .u8 0, .int .u8 0, .int .u8 0, .int .u8 0, .int .u8 0, .int .u8 0, .int .u8 0, .int .u8 0, .int .u8 0, .int .u8 0, .int .u8 0, .int .u8 0, .int .u8 0, .int .u8 0, .int .u8 0]⟩) := by kernel_rfl
theorem tp138 : tP Tryd.prog 138 = some (.inr 1) := by kernel_rfl
theorem tc138 : Tryd.prog.concrete 138 = true := by kernel_rfl
theorem tg138 : Tryd.prog.eqGuardType Tryd.prog.depth 138 = false := by kernel_rfl
theorem ts139 : tS Tryd.prog 139 = some 64 := by kernel_rfl
theorem tb139 : tB Tryd.prog 139 = some 64 := by kernel_rfl
theorem ta139 : tA Tryd.prog 139 = some true := by kernel_rfl
theorem tz139 : tZ Tryd.prog 139 = some [.int .u8 0, .int .u8 0, .int .u8 0, .int .u8 0, .int .u8 0, .int .u8 0, .int .u8 0, .int .u8 0, .int .u8 0, .int .u8 0, .int .u8 0, .int .u8 0, .int .u8 0, .int .u8 0, .int .u8 0, .int .u8 0, .int .u8 0, .int .u8 0, .int .u8 0, .int .u8 0, .int .u8 0, .int .u8 0, .int .u8 0, .int .u8 0, .int .u8 0, .int .u8 0, .int .u8 0, .int .u8 0, .int .u8 0, .int .u8 0, .int .u8 0, .int .u8 0, .int .u8 0, .int .u8 0, .int .u8 0, .int .u8 0, .int .u8 0, .int .u8 0, .int .u8 0, .int .u8 0, .int .u8 0, .int .u8 0, .int .u8 0, .int .u8 0, .int .u8 0, .int .u8 0, .int .u8 0, .int .u8 0, .int .u8 0, .int .u8 0, .int .u8 0, .int .u8 0, .int .u8 0, .int .u8 0, .int .u8 0, .int .u8 0, .int .u8 0, .int .u8 0, .int .u8 0, .int .u8 0, .int .u8 0, .int .u8 0, .int .u8 0, .int .u8 0] := by kernel_rfl
theorem tv139 : tV Tryd.prog 139 = some (.agg ⟨[.int .u8 0, .int .u8 0, .int .u8 0, .int .u8 0, .int .u8 0, .int .u8 0, .int .u8 0, .int .u8 0, .int .u8 0, .int .u8 0, .int .u8 0, .int .u8 0, .int .u8 0, .int .u8 0, .int .u8 0, .int .u8 0, .int .u8 0, .int .u8 0, .int .u8 0, .int .u8 0, .int .u8 0, .int .u8 0, .int .u8 0, .int .u8 0, .int .u8 0, .int .u8 0, .int .u8 0, .int .u8 0, .int .u8 0, .int .u8 0, .int .u8 0, .int .u8 0, .int .u8 0, .int .u8 0, .int .u8 0, .int .u8 0, .int .u8 0, .int .u8 0, .int .u8 0, .int .u8 0, .int .u8 0, .int .u8 0, .int .u8 0, .int .u8 0, .int .u8 0, .int .u8 0, .int .u8 0, .int .u8 0, .int .u8 0, .int .u8 0, .int .u8 0, .int .u8 0, .int .u8 0, .int .u8 0, .int .u8 0, .int .u8 0, .int .u8 0, .int .u8 0, .int .u8 0, .int .u8 0, .int .u8 0, .int .u8 0, .int .u8 0, .int .u8 0]⟩) := by kernel_rfl
theorem tp139 : tP Tryd.prog 139 = some (.inr 1) := by kernel_rfl
theorem tc139 : Tryd.prog.concrete 139 = true := by kernel_rfl
theorem tg139 : Tryd.prog.eqGuardType Tryd.prog.depth 139 = false := by kernel_rfl
theorem ts140 : tS Tryd.prog 140 = some 4 := by kernel_rfl
theorem tb140 : tB Tryd.prog 140 = some 40 := by kernel_rfl
theorem ta140 : tA Tryd.prog 140 = some true := by kernel_rfl
theorem tz140 : tZ Tryd.prog 140 = some [.pointer none, .pointer none, .pointer none, .string (bs [])] := by kernel_rfl
theorem tv140 : tV Tryd.prog 140 = some (.agg ⟨[.pointer none, .pointer none, .pointer none, .string (bs [])]⟩) := by kernel_rfl
theorem tf140_0 : tF Tryd.prog 140 0 = some (0, 17) := by kernel_rfl
theorem tf140_1 : tF Tryd.prog 140 1 = some (1, 17) := by kernel_rfl
theorem tf140_2 : tF Tryd.prog 140 2 = some (2, 17) := by kernel_rfl
theorem tf140_3 : tF Tryd.prog 140 3 = some (3, 9) := by kernel_rfl
theorem tp140 : tP Tryd.prog 140 = some (.inl [(0, 1), (1, 1), (2, 1), (3, 1)]) := by kernel_rfl
theorem tc140 : Tryd.prog.concrete 140 = true := by kernel_rfl
theorem tg140 : Tryd.prog.eqGuardType Tryd.prog.depth 140 = false := by kernel_rfl
theorem ts141 : tS Tryd.prog 141 = some 4 := by kernel_rfl
theorem tb141 : tB Tryd.prog 141 = some 40 := by kernel_rfl
theorem ta141 : tA Tryd.prog 141 = some true := by kernel_rfl
theorem tz141 : tZ Tryd.prog 141 = some [.pointer none, .pointer none, .pointer none, .string (bs [])] := by kernel_rfl
theorem tv141 : tV Tryd.prog 141 = some (.agg ⟨[.pointer none, .pointer none, .pointer none, .string (bs [])]⟩) := by kernel_rfl
theorem tf141_0 : tF Tryd.prog 141 0 = some (0, 17) := by kernel_rfl
theorem tf141_1 : tF Tryd.prog 141 1 = some (1, 17) := by kernel_rfl
theorem tf141_2 : tF Tryd.prog 141 2 = some (2, 17) := by kernel_rfl
theorem tf141_3 : tF Tryd.prog 141 3 = some (3, 9) := by kernel_rfl
theorem tp141 : tP Tryd.prog 141 = some (.inl [(0, 1), (1, 1), (2, 1), (3, 1)]) := by kernel_rfl
theorem tc141 : Tryd.prog.concrete 141 = true := by kernel_rfl
theorem tg141 : Tryd.prog.eqGuardType Tryd.prog.depth 141 = false := by kernel_rfl
theorem ts142 : tS Tryd.prog 142 = some 0 := by kernel_rfl
theorem tb142 : tB Tryd.prog 142 = some 0 := by kernel_rfl
theorem ta142 : tA Tryd.prog 142 = some true := by kernel_rfl
theorem tz142 : tZ Tryd.prog 142 = some [] := by kernel_rfl
theorem tv142 : tV Tryd.prog 142 = some (.agg ⟨[]⟩) := by kernel_rfl
theorem tp142 : tP Tryd.prog 142 = some (.inr 1) := by kernel_rfl
theorem tc142 : Tryd.prog.concrete 142 = true := by kernel_rfl
theorem tg142 : Tryd.prog.eqGuardType Tryd.prog.depth 142 = false := by kernel_rfl
theorem ts143 : tS Tryd.prog 143 = some 0 := by kernel_rfl
theorem tb143 : tB Tryd.prog 143 = some 0 := by kernel_rfl
theorem ta143 : tA Tryd.prog 143 = some true := by kernel_rfl
theorem tz143 : tZ Tryd.prog 143 = some [] := by kernel_rfl
theorem tv143 : tV Tryd.prog 143 = some (.agg ⟨[]⟩) := by kernel_rfl
theorem tf143_0 : tF Tryd.prog 143 0 = some (0, 142) := by kernel_rfl
theorem tp143 : tP Tryd.prog 143 = some (.inl [(0, 0)]) := by kernel_rfl
theorem tc143 : Tryd.prog.concrete 143 = true := by kernel_rfl
theorem tg143 : Tryd.prog.eqGuardType Tryd.prog.depth 143 = false := by kernel_rfl
theorem ts144 : tS Tryd.prog 144 = some 0 := by kernel_rfl
theorem tb144 : tB Tryd.prog 144 = some 0 := by kernel_rfl
theorem ta144 : tA Tryd.prog 144 = some true := by kernel_rfl
theorem tz144 : tZ Tryd.prog 144 = some [] := by kernel_rfl
theorem tv144 : tV Tryd.prog 144 = some (.agg ⟨[]⟩) := by kernel_rfl
theorem tf144_0 : tF Tryd.prog 144 0 = some (0, 142) := by kernel_rfl
theorem tp144 : tP Tryd.prog 144 = some (.inl [(0, 0)]) := by kernel_rfl
theorem tc144 : Tryd.prog.concrete 144 = true := by kernel_rfl
theorem tg144 : Tryd.prog.eqGuardType Tryd.prog.depth 144 = false := by kernel_rfl
theorem ts145 : tS Tryd.prog 145 = some 1 := by kernel_rfl
theorem tb145 : tB Tryd.prog 145 = some 1 := by kernel_rfl
theorem ta145 : tA Tryd.prog 145 = some false := by kernel_rfl
theorem tz145 : tZ Tryd.prog 145 = some [.int .u8 0] := by kernel_rfl
theorem tv145 : tV Tryd.prog 145 = some (.int .u8 0) := by kernel_rfl
theorem tc145 : Tryd.prog.concrete 145 = true := by kernel_rfl
theorem ts146 : tS Tryd.prog 146 = some 1 := by kernel_rfl
theorem tb146 : tB Tryd.prog 146 = some 1 := by kernel_rfl
theorem ta146 : tA Tryd.prog 146 = some false := by kernel_rfl
theorem tz146 : tZ Tryd.prog 146 = some [.int .u8 0] := by kernel_rfl
theorem tv146 : tV Tryd.prog 146 = some (.int .u8 0) := by kernel_rfl
theorem tc146 : Tryd.prog.concrete 146 = true := by kernel_rfl
theorem ts147 : tS Tryd.prog 147 = some 1 := by kernel_rfl
theorem tb147 : tB Tryd.prog 147 = some 8 := by kernel_rfl
theorem ta147 : tA Tryd.prog 147 = some false := by kernel_rfl
theorem tz147 : tZ Tryd.prog 147 = some [.nilFunc] := by kernel_rfl
theorem tv147 : tV Tryd.prog 147 = some (.nilFunc) := by kernel_rfl
theorem tc147 : Tryd.prog.concrete 147 = true := by kernel_rfl
theorem ts148 : tS Tryd.prog 148 = some 1 := by kernel_rfl
theorem tb148 : tB Tryd.prog 148 = some 4 := by kernel_rfl
theorem ta148 : tA Tryd.prog 148 = some false := by kernel_rfl
theorem tz148 : tZ Tryd.prog 148 = some [.int .i32 0] := by kernel_rfl
theorem tv148 : tV Tryd.prog 148 = some (.int .i32 0) := by kernel_rfl
theorem tc148 : Tryd.prog.concrete 148 = true := by kernel_rfl
theorem ts149 : tS Tryd.prog 149 = some 1 := by kernel_rfl
theorem tb149 : tB Tryd.prog 149 = some 4 := by kernel_rfl
theorem ta149 : tA Tryd.prog 149 = some false := by kernel_rfl
theorem tz149 : tZ Tryd.prog 149 = some [.int .i32 0] := by kernel_rfl
theorem tv149 : tV Tryd.prog 149 = some (.int .i32 0) := by kernel_rfl
theorem tc149 : Tryd.prog.concrete 149 = true := by kernel_rfl
theorem ts150 : tS Tryd.prog 150 = some 11 := by kernel_rfl
theorem tb150 : tB Tryd.prog 150 = some 48 := by kernel_rfl
theorem ta150 : tA Tryd.prog 150 = some true := by kernel_rfl
theorem tz150 : tZ Tryd.prog 150 = some [.int .u64 0, .int .u64 0, .int .u32 0, .int .u8 0, .int .u8 0, .int .u8 0, .int .u8 0, .nilFunc, .pointer none, .int .i32 0, .int .i32 0] := by kernel_rfl
theorem tv150 : tV Tryd.prog 150 = some (.agg ⟨[.int .u64 0, .int .u64 0, .int .u32 0, .int .u8 0, .int .u8 0, .int .u8 0, .int .u8 0, .nilFunc, .pointer none, .int .i32 0, .int .i32 0]⟩) := by kernel_rfl
theorem tf150_0 : tF Tryd.prog 150 0 = some (0, 12) := by kernel_rfl
theorem tf150_1 : tF Tryd.prog 150 1 = some (1, 12) := by kernel_rfl
theorem tf150_2 : tF Tryd.prog 150 2 = some (2, 101) := by kernel_rfl
theorem tf150_3 : tF Tryd.prog 150 3 = some (3, 145) := by kernel_rfl
theorem tf150_4 : tF Tryd.prog 150 4 = some (4, 5) := by kernel_rfl
theorem tf150_5 : tF Tryd.prog 150 5 = some (5, 5) := by kernel_rfl
theorem tf150_6 : tF Tryd.prog 150 6 = some (6, 146) := by kernel_rfl
theorem tf150_7 : tF Tryd.prog 150 7 = some (7, 147) := by kernel_rfl
theorem tf150_8 : tF Tryd.prog 150 8 = some (8, 91) := by kernel_rfl
theorem tf150_9 : tF Tryd.prog 150 9 = some (9, 148) := by kernel_rfl
theorem tf150_10 : tF Tryd.prog 150 10 = some (10, 149) := by kernel_rfl
theorem tp150 : tP Tryd.prog 150 = some (.inl [(0, 1), (1, 1), (2, 1), (3, 1), (4, 1), (5, 1), (6, 1), (7, 1), (8, 1), (9, 1), (10, 1)]) := by kernel_rfl
theorem tc150 : Tryd.prog.concrete 150 = true := by kernel_rfl
theorem tg150 : Tryd.prog.eqGuardType Tryd.prog.depth 150 = false := by kernel_rfl
theorem ts151 : tS Tryd.prog 151 = some 11 := by kernel_rfl
theorem tb151 : tB Tryd.prog 151 = some 48 := by kernel_rfl
theorem ta151 : tA Tryd.prog 151 = some true := by kernel_rfl
theorem tz151 : tZ Tryd.prog 151 = some [.int .u64 0, .int .u64 0, .int .u32 0, .int .u8 0, .int .u8 0, .int .u8 0, .int .u8 0, .nilFunc, .pointer none, .int .i32 0, .int .i32 0] := by kernel_rfl
theorem tv151 : tV Tryd.prog 151 = some (.agg ⟨[.int .u64 0, .int .u64 0, .int .u32 0, .int .u8 0, .int .u8 0, .int .u8 0, .int .u8 0, .nilFunc, .pointer none, .int .i32 0, .int .i32 0]⟩) := by kernel_rfl
theorem tf151_0 : tF Tryd.prog 151 0 = some (0, 12) := by kernel_rfl
theorem tf151_1 : tF Tryd.prog 151 1 = some (1, 12) := by kernel_rfl
theorem tf151_2 : tF Tryd.prog 151 2 = some (2, 101) := by kernel_rfl
theorem tf151_3 : tF Tryd.prog 151 3 = some (3, 145) := by kernel_rfl
theorem tf151_4 : tF Tryd.prog 151 4 = some (4, 5) := by kernel_rfl
theorem tf151_5 : tF Tryd.prog 151 5 = some (5, 5) := by kernel_rfl
theorem tf151_6 : tF Tryd.prog 151 6 = some (6, 146) := by kernel_rfl
theorem tf151_7 : tF Tryd.prog 151 7 = some (7, 147) := by kernel_rfl
theorem tf151_8 : tF Tryd.prog 151 8 = some (8, 91) := by kernel_rfl
theorem tf151_9 : tF Tryd.prog 151 9 = some (9, 148) := by kernel_rfl
theorem tf151_10 : tF Tryd.prog 151 10 = some (10, 149) := by kernel_rfl
theorem tp151 : tP Tryd.prog 151 = some (.inl [(0, 1), (1, 1), (2, 1), (3, 1), (4, 1), (5, 1), (6, 1), (7, 1), (8, 1), (9, 1), (10, 1)]) := by kernel_rfl
theorem tc151 : Tryd.prog.concrete 151 = true := by kernel_rfl
theorem tg151 : Tryd.prog.eqGuardType Tryd.prog.depth 151 = false := by kernel_rfl
attribute [go_sem] ts1 tb1 ta1 tz1 tv1 tc1 ts2 tb2 ta2 tz2 tv2 tc2 ts3 tb3 ta3 tz3 tv3 tc3 ts4 tb4 ta4 tz4 tv4 tc4 ts5 tb5 ta5 tz5 tv5 tc5 ts6 tb6 ta6 tz6 tv6 tc6 ts7 tb7 ta7 tz7 tv7 tf7_0 tf7_1 tf7_2 tf7_3 tp7 tc7 tg7 ts8 tb8 ta8 tz8 tv8 tf8_0 tf8_1 tf8_2 tf8_3 tp8 tc8 tg8 ts9 tb9 ta9 tz9 tv9 tc9 ts10 tb10 ta10 tz10 tv10 tc10 ts11 tb11 ta11 tz11 tv11 tc11 ts12 tb12 ta12 tz12 tv12 tc12 ts13 tb13 ta13 tz13 tv13 tf13_0 tf13_1 tp13 tc13 tg13 ts14 tb14 ta14 tz14 tv14 tf14_0 tf14_1 tp14 tc14 tg14 ts15 tb15 ta15 tz15 tv15 tc15 ts16 tb16 ta16 tz16 tv16 tc16 ts17 tb17 ta17 tz17 tv17 tc17 ts18 tb18 ta18 tz18 tv18 tf18_0 tp18 tc18 tg18 ts19 tb19 ta19 tz19 tv19 tf19_0 tp19 tc19 tg19 ts20 tb20 ta20 tz20 tv20 ts21 tb21 ta21 tz21 tv21 tc21 ts22 tb22 ta22 tz22 tv22 tf22_0 tf22_1 tf22_2 tf22_3 tf22_4 tf22_5 tp22 tc22 tg22 ts23 tb23 ta23 tz23 tv23 tf23_0 tf23_1 tf23_2 tf23_3 tf23_4 tf23_5 tp23 tc23 tg23 ts24 tb24 ta24 tz24 tv24 tc24 ts25 tb25 ta25 tz25 tv25 tc25 ts26 tb26 ta26 tz26 tv26 tc26 ts27 tb27 ta27 tz27 tv27 tc27 ts28 tb28 ta28 tz28 tv28 tc28 ts29 tb29 ta29 tz29 tv29 tc29 ts31 tb31 ta31 tz31 tv31 tc31 ts32 tb32 ta32 tz32 tv32 tf32_0 tf32_1 tf32_2 tf32_3 tf32_4 tp32 tc32 tg32 ts33 tb33 ta33 tz33 tv33 tf33_0 tf33_1 tf33_2 tf33_3 tf33_4 tp33 tc33 tg33 ts35 tb35 ta35 tz35 tv35 tc35 ts36 tb36 ta36 tz36 tv36 tc36 ts37 tb37 ta37 tz37 tv37 tc37 ts39 tb39 ta39 tz39 tv39 tc39 ts40 tb40 ta40 tz40 tv40 tc40 ts41 tb41 ta41 tz41 tv41 tc41 ts42 tb42 ta42 tz42 tv42 tc42 ts43 tb43 ta43 tz43 tv43 tf43_0 tf43_1 tf43_2 tf43_3 tf43_4 tf43_5 tp43 tc43 tg43 ts44 tb44 ta44 tz44 tv44 tf44_0 tf44_1 tf44_2 tf44_3 tf44_4 tf44_5 tp44 tc44 tg44 ts45 tb45 ta45 tz45 tv45 tc45 ts46 tb46 ta46 tz46 tv46 tc46 ts47 tb47 ta47 tz47 tv47 tc47 ts48 tb48 ta48 tz48 tv48 tc48 ts49 tb49 ta49 tz49 tv49 tc49 ts50 tb50 ta50 tz50 tv50 tc50 ts51 tb51 ta51 tz51 tv51 tf51_0 tf51_1 tf51_2 tf51_3 tf51_4 tf51_5 tf51_6 tf51_7 tf51_8 tf51_9 tf51_10 tf51_11 tp51 tc51 tg51 ts52 tb52 ta52 tz52 tv52 tf52_0 tf52_1 tf52_2 tf52_3 tf52_4 tf52_5 tf52_6 tf52_7 tf52_8 tf52_9 tf52_10 tf52_11 tp52 tc52 tg52 ts53 tb53 ta53 tz53 tv53 tc53 ts54 tb54 ta54 tz54 tv54 tc54 ts55 tb55 ta55 tz55 tv55 tc55 ts56 tb56 ta56 tz56 tv56 tf56_0 tf56_1 tp56 tc56 tg56 ts57 tb57 ta57 tz57 tv57 tf57_0 tf57_1 tp57 tc57 tg57 ts58 tb58 ta58 tz58 tv58 tc58 ts59 tb59 ta59 tz59 tv59 tc59 ts60 tb60 ta60 tz60 tv60 tc60 ts61 tb61 ta61 tz61 tv61 tc61 ts62 tb62 ta62 tz62 tv62 tp62 tc62 tg62 ts63 tb63 ta63 tz63 tv63 tc63 ts64 tb64 ta64 tz64 tv64 tc64 ts65 tb65 ta65 tz65 tv65 tf65_0 tf65_1 tf65_2 tf65_3 tp65 tc65 tg65 ts66 tb66 ta66 tz66 tv66 tf66_0 tf66_1 tf66_2 tf66_3 tp66 tc66 tg66 ts67 tb67 ta67 tz67 tv67 tc67 ts68 tb68 ta68 tz68 tv68 tc68 ts69 tb69 ta69 tz69 tv69 tc69 ts70 tb70 ta70 tz70 tv70 tc70 ts71 tb71 ta71 tz71 tv71 tc71 ts72 tb72 ta72 tz72 tv72 tc72 ts73 tb73 ta73 tz73 tv73 tf73_0 tf73_1 tp73 tc73 tg73 ts74 tb74 ta74 tz74 tv74 tf74_0 tf74_1 tp74 tc74 tg74 ts75 tb75 ta75 tz75 tv75 ts76 tb76 ta76 tz76 tv76 ts78 tb78 ta78 tz78 tv78 tc78 ts79 tb79 ta79 tz79 tv79 tc79 ts80 tb80 ta80 tz80 tv80 tc80 ts81 tb81 ta81 tz81 tv81 tc81 ts82 tb82 ta82 tz82 tv82 tc82 ts83 tb83 ta83 tz83 tv83 tc83 ts84 tb84 ta84 tz84 tv84 tc84 ts85 tb85 ta85 tz85 tv85 tc85 ts86 tb86 ta86 tz86 tv86 tc86 ts87 tb87 ta87 tz87 tv87 tc87 ts88 tb88 ta88 tz88 tv88 tc88 ts89 tb89 ta89 tz89 tv89 tc89 ts90 tb90 ta90 tz90 tv90 tc90 ts91 tb91 ta91 tz91 tv91 tc91 ts92 tb92 ta92 tz92 tv92 tc92 ts93 tb93 ta93 tz93 tv93 tc93 ts95 tb95 ta95 tz95 tv95 tc95 ts96 tb96 ta96 tz96 tv96 tc96 ts97 tb97 ta97 tz97 tv97 tc97 ts99 tb99 ta99 tz99 tv99 tc99 ts100 tb100 ta100 tz100 tv100 tc100 ts101 tb101 ta101 tz101 tv101 tc101 ts102 tb102 ta102 tz102 tv102 tc102 ts103 tb103 ta103 tz103 tv103 tc103 ts104 tb104 ta104 tz104 tv104 tc104 ts105 tb105 ta105 tz105 tv105 tc105 ts106 tb106 ta106 tz106 tv106 tc106 ts107 tb107 ta107 tz107 tv107 tc107 ts108 tb108 ta108 tz108 tv108 tc108 ts109 tb109 ta109 tz109 tv109 tc109 ts110 tb110 ta110 tz110 tv110 tc110 ts111 tb111 ta111 tz111 tv111 tc111 ts112 tb112 ta112 tz112 tv112 tc112 ts113 tb113 ta113 tz113 tv113 tc113 ts114 tb114 ta114 tz114 tv114 tp114 tc114 tg114 ts115 tb115 ta115 tz115 tv115 tc115 ts117 tb117 ta117 tz117 tv117 tc117 ts119 tb119 ta119 tz119 tv119 tc119 ts120 tb120 ta120 tz120 tv120 tc120 ts121 tb121 ta121 tz121 tv121 tc121 ts123 tb123 ta123 tz123 tv123 tc123 ts124 tb124 ta124 tz124 tv124 tc124 ts125 tb125 ta125 tz125 tv125 tp125 tc125 tg125 ts126 tb126 ta126 tp126 tc126 tg126 ts127 tb127 ta127 tz127 tv127 tc127 ts128 tb128 ta128 tz128 tv128 tc128 ts129 tb129 ta129 tp129 tc129 tg129 ts130 tb130 ta130 tz130 tv130 tf130_0 tf130_1 tp130 tc130 tg130 ts131 tb131 ta131 tz131 tv131 tf131_0 tf131_1 tp131 tc131 tg131 ts132 tb132 ta132 tz132 tv132 tp132 tc132 tg132 ts133 tb133 ta133 tz133 tv133 tc133 ts134 tb134 ta134 tz134 tv134 tc134 ts135 tb135 ta135 tz135 tv135 tc135 ts136 tb136 ta136 tz136 tv136 tc136 ts137 tb137 ta137 tz137 tv137 tc137 ts138 tb138 ta138 tz138 tv138 tp138 tc138 tg138 ts139 tb139 ta139 tz139 tv139 tp139 tc139 tg139 ts140 tb140 ta140 tz140 tv140 tf140_0 tf140_1 tf140_2 tf140_3 tp140 tc140 tg140 ts141 tb141 ta141 tz141 tv141 tf141_0 tf141_1 tf141_2 tf141_3 tp141 tc141 tg141 ts142 tb142 ta142 tz142 tv142 tp142 tc142 tg142 ts143 tb143 ta143 tz143 tv143 tf143_0 tp143 tc143 tg143 ts144 tb144 ta144 tz144 tv144 tf144_0 tp144 tc144 tg144 ts145 tb145 ta145 tz145 tv145 tc145 ts146 tb146 ta146 tz146 tv146 tc146 ts147 tb147 ta147 tz147 tv147 tc147 ts148 tb148 ta148 tz148 tv148 tc148 ts149 tb149 ta149 tz149 tv149 tc149 ts150 tb150 ta150 tz150 tv150 tf150_0 tf150_1 tf150_2 tf150_3 tf150_4 tf150_5 tf150_6 tf150_7 tf150_8 tf150_9 tf150_10 tp150 tc150 tg150 ts151 tb151 ta151 tz151 tv151 tf151_0 tf151_1 tf151_2 tf151_3 tf151_4 tf151_5 tf151_6 tf151_7 tf151_8 tf151_9 tf151_10 tp151 tc151 tg151
attribute [go_sem] Tryd.underlying0 Tryd.underlying1 Tryd.underlying2 Tryd.underlying3 Tryd.underlying4 Tryd.underlying5 Tryd.underlying6 Tryd.underlying7 Tryd.underlying8 Tryd.underlying9 Tryd.underlying10 Tryd.underlying11 Tryd.underlying12 Tryd.underlying13 Tryd.underlying14 Tryd.underlying15 Tryd.underlying16 Tryd.underlying17 Tryd.underlying18 Tryd.underlying19 Tryd.underlying20 Tryd.underlying21 Tryd.underlying22 Tryd.underlying23 Tryd.underlying24 Tryd.underlying25 Tryd.underlying26 Tryd.underlying27 Tryd.underlying28 Tryd.underlying29 Tryd.underlying30 Tryd.underlying31 Tryd.underlying32 Tryd.underlying33 Tryd.underlying34 Tryd.underlying35 Tryd.underlying36 Tryd.underlying37 Tryd.underlying38 Tryd.underlying39 Tryd.underlying40 Tryd.underlying41 Tryd.underlying42 Tryd.underlying43 Tryd.underlying44 Tryd.underlying45 Tryd.underlying46 Tryd.underlying47 Tryd.underlying48 Tryd.underlying49 Tryd.underlying50 Tryd.underlying51 Tryd.underlying52 Tryd.underlying53 Tryd.underlying54 Tryd.underlying55 Tryd.underlying56 Tryd.underlying57 Tryd.underlying58 Tryd.underlying59 Tryd.underlying60 Tryd.underlying61 Tryd.underlying62 Tryd.underlying63 Tryd.underlying64 Tryd.underlying65 Tryd.underlying66 Tryd.underlying67 Tryd.underlying68 Tryd.underlying69 Tryd.underlying70 Tryd.underlying71 Tryd.underlying72 Tryd.underlying73 Tryd.underlying74 Tryd.underlying75 Tryd.underlying76 Tryd.underlying77 Tryd.underlying78 Tryd.underlying79 Tryd.underlying80 Tryd.underlying81 Tryd.underlying82 Tryd.underlying83 Tryd.underlying84 Tryd.underlying85 Tryd.underlying86 Tryd.underlying87 Tryd.underlying88 Tryd.underlying89 Tryd.underlying90 Tryd.underlying91 Tryd.underlying92 Tryd.underlying93 Tryd.underlying94 Tryd.underlying95 Tryd.underlying96 Tryd.underlying97 Tryd.underlying98 Tryd.underlying99 Tryd.underlying100 Tryd.underlying101 Tryd.underlying102 Tryd.underlying103 Tryd.underlying104 Tryd.underlying105 Tryd.underlying106 Tryd.underlying107 Tryd.underlying108 Tryd.underlying109 Tryd.underlying110 Tryd.underlying111 Tryd.underlying112 Tryd.underlying113 Tryd.underlying114 Tryd.underlying115 Tryd.underlying116 Tryd.underlying117 Tryd.underlying118 Tryd.underlying119 Tryd.underlying120 Tryd.underlying121 Tryd.underlying122 Tryd.underlying123 Tryd.underlying124 Tryd.underlying125 Tryd.underlying126 Tryd.underlying127 Tryd.underlying128 Tryd.underlying129 Tryd.underlying130 Tryd.underlying131 Tryd.underlying132 Tryd.underlying133 Tryd.underlying134 Tryd.underlying135 Tryd.underlying136 Tryd.underlying137 Tryd.underlying138 Tryd.underlying139 Tryd.underlying140 Tryd.underlying141 Tryd.underlying142 Tryd.underlying143 Tryd.underlying144 Tryd.underlying145 Tryd.underlying146 Tryd.underlying147 Tryd.underlying148 Tryd.underlying149 Tryd.underlying150 Tryd.underlying151
end Go.Proofs.YtnfkbgpbligloaaDoor
