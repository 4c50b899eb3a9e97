/-
  The facts on the types of the translation: sizes, zero values, fields. Written by a program.
-/
import Derived.Test.YtlclcdhbeeaikaaDoorAwB
import Derived.Test.YtlclcdhbeeaikaaDoorProg
import Derived.KernelRfl
namespace Go.Proofs.YtlclcdhbeeaikaaDoor
open Go.Aw Go.Proofs

theorem ts1 : tS Tryd.prog 1 = some 1 := by kernel_rfl
theorem tb1 : tB Tryd.prog 1 = some 8 := by kernel_rfl
theorem ta1 : tA Tryd.prog 1 = some false := by kernel_rfl
theorem tz1 : tZ Tryd.prog 1 = some [.nilFunc] := by kernel_rfl
theorem tv1 : tV Tryd.prog 1 = some (.nilFunc) := by kernel_rfl
theorem tc1 : Tryd.prog.concrete 1 = true := by kernel_rfl
theorem ts2 : tS Tryd.prog 2 = some 1 := by kernel_rfl
theorem tb2 : tB Tryd.prog 2 = some 8 := by kernel_rfl
theorem ta2 : tA Tryd.prog 2 = some false := by kernel_rfl
theorem tz2 : tZ Tryd.prog 2 = some [.int .i64 0] := by kernel_rfl
theorem tv2 : tV Tryd.prog 2 = some (.int .i64 0) := by kernel_rfl
theorem tc2 : Tryd.prog.concrete 2 = true := by kernel_rfl
theorem ts3 : tS Tryd.prog 3 = some 1 := by kernel_rfl
theorem tb3 : tB Tryd.prog 3 = some 8 := by kernel_rfl
theorem ta3 : tA Tryd.prog 3 = some false := by kernel_rfl
theorem tz3 : tZ Tryd.prog 3 = some [.int .i64 0] := by kernel_rfl
theorem tv3 : tV Tryd.prog 3 = some (.int .i64 0) := by kernel_rfl
theorem tc3 : Tryd.prog.concrete 3 = true := by kernel_rfl
theorem ts4 : tS Tryd.prog 4 = some 1 := by kernel_rfl
theorem tb4 : tB Tryd.prog 4 = some 1 := by kernel_rfl
theorem ta4 : tA Tryd.prog 4 = some false := by kernel_rfl
theorem tz4 : tZ Tryd.prog 4 = some [.bool false] := by kernel_rfl
theorem tv4 : tV Tryd.prog 4 = some (.bool false) := by kernel_rfl
theorem tc4 : Tryd.prog.concrete 4 = true := by kernel_rfl
theorem ts5 : tS Tryd.prog 5 = some 1 := by kernel_rfl
theorem tb5 : tB Tryd.prog 5 = some 1 := by kernel_rfl
theorem ta5 : tA Tryd.prog 5 = some false := by kernel_rfl
theorem tz5 : tZ Tryd.prog 5 = some [.int .u8 0] := by kernel_rfl
theorem tv5 : tV Tryd.prog 5 = some (.int .u8 0) := by kernel_rfl
theorem tc5 : Tryd.prog.concrete 5 = true := by kernel_rfl
theorem ts6 : tS Tryd.prog 6 = some 1 := by kernel_rfl
theorem tb6 : tB Tryd.prog 6 = some 1 := by kernel_rfl
theorem ta6 : tA Tryd.prog 6 = some false := by kernel_rfl
theorem tz6 : tZ Tryd.prog 6 = some [.int .u8 0] := by kernel_rfl
theorem tv6 : tV Tryd.prog 6 = some (.int .u8 0) := by kernel_rfl
theorem tc6 : Tryd.prog.concrete 6 = true := by kernel_rfl
theorem ts7 : tS Tryd.prog 7 = some 4 := by kernel_rfl
theorem tb7 : tB Tryd.prog 7 = some 24 := by kernel_rfl
theorem ta7 : tA Tryd.prog 7 = some true := by kernel_rfl
theorem tz7 : tZ Tryd.prog 7 = some [.int .i64 0, .int .i64 0, .bool false, .int .u8 0] := by kernel_rfl
theorem tv7 : tV Tryd.prog 7 = some (.agg ⟨[.int .i64 0, .int .i64 0, .bool false, .int .u8 0]⟩) := by kernel_rfl
theorem tf7_0 : tF Tryd.prog 7 0 = some (0, 2) := by kernel_rfl
theorem tf7_1 : tF Tryd.prog 7 1 = some (1, 3) := by kernel_rfl
theorem tf7_2 : tF Tryd.prog 7 2 = some (2, 4) := by kernel_rfl
theorem tf7_3 : tF Tryd.prog 7 3 = some (3, 6) := by kernel_rfl
theorem tp7 : tP Tryd.prog 7 = some (.inl [(0, 1), (1, 1), (2, 1), (3, 1)]) := by kernel_rfl
theorem tc7 : Tryd.prog.concrete 7 = true := by kernel_rfl
theorem tg7 : Tryd.prog.eqGuardType Tryd.prog.depth 7 = false := by kernel_rfl
theorem ts8 : tS Tryd.prog 8 = some 4 := by kernel_rfl
theorem tb8 : tB Tryd.prog 8 = some 24 := by kernel_rfl
theorem ta8 : tA Tryd.prog 8 = some true := by kernel_rfl
theorem tz8 : tZ Tryd.prog 8 = some [.int .i64 0, .int .i64 0, .bool false, .int .u8 0] := by kernel_rfl
theorem tv8 : tV Tryd.prog 8 = some (.agg ⟨[.int .i64 0, .int .i64 0, .bool false, .int .u8 0]⟩) := by kernel_rfl
theorem tf8_0 : tF Tryd.prog 8 0 = some (0, 2) := by kernel_rfl
theorem tf8_1 : tF Tryd.prog 8 1 = some (1, 3) := by kernel_rfl
theorem tf8_2 : tF Tryd.prog 8 2 = some (2, 4) := by kernel_rfl
theorem tf8_3 : tF Tryd.prog 8 3 = some (3, 6) := by kernel_rfl
theorem tp8 : tP Tryd.prog 8 = some (.inl [(0, 1), (1, 1), (2, 1), (3, 1)]) := by kernel_rfl
theorem tc8 : Tryd.prog.concrete 8 = true := by kernel_rfl
theorem tg8 : Tryd.prog.eqGuardType Tryd.prog.depth 8 = false := by kernel_rfl
theorem ts9 : tS Tryd.prog 9 = some 1 := by kernel_rfl
theorem tb9 : tB Tryd.prog 9 = some 16 := by kernel_rfl
theorem ta9 : tA Tryd.prog 9 = some false := by kernel_rfl
theorem tz9 : tZ Tryd.prog 9 = some [.string (bs [])] := by kernel_rfl
theorem tv9 : tV Tryd.prog 9 = some (.string (bs [])) := by kernel_rfl
theorem tc9 : Tryd.prog.concrete 9 = true := by kernel_rfl
theorem ts10 : tS Tryd.prog 10 = some 1 := by kernel_rfl
theorem tb10 : tB Tryd.prog 10 = some 16 := by kernel_rfl
theorem ta10 : tA Tryd.prog 10 = some false := by kernel_rfl
theorem tz10 : tZ Tryd.prog 10 = some [.string (bs [])] := by kernel_rfl
theorem tv10 : tV Tryd.prog 10 = some (.string (bs [])) := by kernel_rfl
theorem tc10 : Tryd.prog.concrete 10 = true := by kernel_rfl
theorem ts11 : tS Tryd.prog 11 = some 1 := by kernel_rfl
theorem tb11 : tB Tryd.prog 11 = some 16 := by kernel_rfl
theorem ta11 : tA Tryd.prog 11 = some false := by kernel_rfl
theorem tz11 : tZ Tryd.prog 11 = some [.string (bs [])] := by kernel_rfl
theorem tv11 : tV Tryd.prog 11 = some (.string (bs [])) := by kernel_rfl
theorem tc11 : Tryd.prog.concrete 11 = true := by kernel_rfl
theorem ts12 : tS Tryd.prog 12 = some 1 := by kernel_rfl
theorem tb12 : tB Tryd.prog 12 = some 8 := by kernel_rfl
theorem ta12 : tA Tryd.prog 12 = some false := by kernel_rfl
theorem tz12 : tZ Tryd.prog 12 = some [.int .u64 0] := by kernel_rfl
theorem tv12 : tV Tryd.prog 12 = some (.int .u64 0) := by kernel_rfl
theorem tc12 : Tryd.prog.concrete 12 = true := by kernel_rfl
theorem ts13 : tS Tryd.prog 13 = some 2 := by kernel_rfl
theorem tb13 : tB Tryd.prog 13 = some 24 := by kernel_rfl
theorem ta13 : tA Tryd.prog 13 = some true := by kernel_rfl
theorem tz13 : tZ Tryd.prog 13 = some [.string (bs []), .int .u64 0] := by kernel_rfl
theorem tv13 : tV Tryd.prog 13 = some (.agg ⟨[.string (bs []), .int .u64 0]⟩) := by kernel_rfl
theorem tf13_0 : tF Tryd.prog 13 0 = some (0, 9) := by kernel_rfl
theorem tf13_1 : tF Tryd.prog 13 1 = some (1, 12) := by kernel_rfl
theorem tp13 : tP Tryd.prog 13 = some (.inl [(0, 1), (1, 1)]) := by kernel_rfl
theorem tc13 : Tryd.prog.concrete 13 = true := by kernel_rfl
theorem tg13 : Tryd.prog.eqGuardType Tryd.prog.depth 13 = false := by kernel_rfl
theorem ts14 : tS Tryd.prog 14 = some 2 := by kernel_rfl
theorem tb14 : tB Tryd.prog 14 = some 24 := by kernel_rfl
theorem ta14 : tA Tryd.prog 14 = some true := by kernel_rfl
theorem tz14 : tZ Tryd.prog 14 = some [.string (bs []), .int .u64 0] := by kernel_rfl
theorem tv14 : tV Tryd.prog 14 = some (.agg ⟨[.string (bs []), .int .u64 0]⟩) := by kernel_rfl
theorem tf14_0 : tF Tryd.prog 14 0 = some (0, 9) := by kernel_rfl
theorem tf14_1 : tF Tryd.prog 14 1 = some (1, 12) := by kernel_rfl
theorem tp14 : tP Tryd.prog 14 = some (.inl [(0, 1), (1, 1)]) := by kernel_rfl
theorem tc14 : Tryd.prog.concrete 14 = true := by kernel_rfl
theorem tg14 : Tryd.prog.eqGuardType Tryd.prog.depth 14 = false := by kernel_rfl
theorem ts15 : tS Tryd.prog 15 = some 1 := by kernel_rfl
theorem tb15 : tB Tryd.prog 15 = some 8 := by kernel_rfl
theorem ta15 : tA Tryd.prog 15 = some false := by kernel_rfl
theorem tz15 : tZ Tryd.prog 15 = some [.pointer none] := by kernel_rfl
theorem tv15 : tV Tryd.prog 15 = some (.pointer none) := by kernel_rfl
theorem tc15 : Tryd.prog.concrete 15 = true := by kernel_rfl
theorem ts16 : tS Tryd.prog 16 = some 1 := by kernel_rfl
theorem tb16 : tB Tryd.prog 16 = some 8 := by kernel_rfl
theorem ta16 : tA Tryd.prog 16 = some false := by kernel_rfl
theorem tz16 : tZ Tryd.prog 16 = some [.pointer none] := by kernel_rfl
theorem tv16 : tV Tryd.prog 16 = some (.pointer none) := by kernel_rfl
theorem tc16 : Tryd.prog.concrete 16 = true := by kernel_rfl
theorem ts17 : tS Tryd.prog 17 = some 1 := by kernel_rfl
theorem tb17 : tB Tryd.prog 17 = some 8 := by kernel_rfl
theorem ta17 : tA Tryd.prog 17 = some false := by kernel_rfl
theorem tz17 : tZ Tryd.prog 17 = some [.pointer none] := by kernel_rfl
theorem tv17 : tV Tryd.prog 17 = some (.pointer none) := by kernel_rfl
theorem tc17 : Tryd.prog.concrete 17 = true := by kernel_rfl
theorem ts18 : tS Tryd.prog 18 = some 1 := by kernel_rfl
theorem tb18 : tB Tryd.prog 18 = some 8 := by kernel_rfl
theorem ta18 : tA Tryd.prog 18 = some true := by kernel_rfl
theorem tz18 : tZ Tryd.prog 18 = some [.pointer none] := by kernel_rfl
theorem tv18 : tV Tryd.prog 18 = some (.agg ⟨[.pointer none]⟩) := by kernel_rfl
theorem tf18_0 : tF Tryd.prog 18 0 = some (0, 17) := by kernel_rfl
theorem tp18 : tP Tryd.prog 18 = some (.inl [(0, 1)]) := by kernel_rfl
theorem tc18 : Tryd.prog.concrete 18 = true := by kernel_rfl
theorem tg18 : Tryd.prog.eqGuardType Tryd.prog.depth 18 = false := by kernel_rfl
theorem ts19 : tS Tryd.prog 19 = some 1 := by kernel_rfl
theorem tb19 : tB Tryd.prog 19 = some 8 := by kernel_rfl
theorem ta19 : tA Tryd.prog 19 = some true := by kernel_rfl
theorem tz19 : tZ Tryd.prog 19 = some [.pointer none] := by kernel_rfl
theorem tv19 : tV Tryd.prog 19 = some (.agg ⟨[.pointer none]⟩) := by kernel_rfl
theorem tf19_0 : tF Tryd.prog 19 0 = some (0, 17) := by kernel_rfl
theorem tp19 : tP Tryd.prog 19 = some (.inl [(0, 1)]) := by kernel_rfl
theorem tc19 : Tryd.prog.concrete 19 = true := by kernel_rfl
theorem tg19 : Tryd.prog.eqGuardType Tryd.prog.depth 19 = false := by kernel_rfl
theorem ts20 : tS Tryd.prog 20 = some 1 := by kernel_rfl
theorem tb20 : tB Tryd.prog 20 = some 16 := by kernel_rfl
theorem ta20 : tA Tryd.prog 20 = some false := by kernel_rfl
theorem tz20 : tZ Tryd.prog 20 = some [.nilIface] := by kernel_rfl
theorem tv20 : tV Tryd.prog 20 = some (.nilIface) := by kernel_rfl
theorem ts21 : tS Tryd.prog 21 = some 1 := by kernel_rfl
theorem tb21 : tB Tryd.prog 21 = some 4 := by kernel_rfl
theorem ta21 : tA Tryd.prog 21 = some false := by kernel_rfl
theorem tz21 : tZ Tryd.prog 21 = some [.int .i32 0] := by kernel_rfl
theorem tv21 : tV Tryd.prog 21 = some (.int .i32 0) := by kernel_rfl
theorem tc21 : Tryd.prog.concrete 21 = true := by kernel_rfl
theorem ts22 : tS Tryd.prog 22 = some 1 := by kernel_rfl
theorem tb22 : tB Tryd.prog 22 = some 8 := by kernel_rfl
theorem ta22 : tA Tryd.prog 22 = some false := by kernel_rfl
theorem tz22 : tZ Tryd.prog 22 = some [.nilFunc] := by kernel_rfl
theorem tv22 : tV Tryd.prog 22 = some (.nilFunc) := by kernel_rfl
theorem tc22 : Tryd.prog.concrete 22 = true := by kernel_rfl
theorem ts23 : tS Tryd.prog 23 = some 1 := by kernel_rfl
theorem tb23 : tB Tryd.prog 23 = some 8 := by kernel_rfl
theorem ta23 : tA Tryd.prog 23 = some false := by kernel_rfl
theorem tz23 : tZ Tryd.prog 23 = some [.int .i64 0] := by kernel_rfl
theorem tv23 : tV Tryd.prog 23 = some (.int .i64 0) := by kernel_rfl
theorem tc23 : Tryd.prog.concrete 23 = true := by kernel_rfl
theorem ts25 : tS Tryd.prog 25 = some 1 := by kernel_rfl
theorem tb25 : tB Tryd.prog 25 = some 8 := by kernel_rfl
theorem ta25 : tA Tryd.prog 25 = some false := by kernel_rfl
theorem tz25 : tZ Tryd.prog 25 = some [.nilFunc] := by kernel_rfl
theorem tv25 : tV Tryd.prog 25 = some (.nilFunc) := by kernel_rfl
theorem tc25 : Tryd.prog.concrete 25 = true := by kernel_rfl
theorem ts26 : tS Tryd.prog 26 = some 1 := by kernel_rfl
theorem tb26 : tB Tryd.prog 26 = some 8 := by kernel_rfl
theorem ta26 : tA Tryd.prog 26 = some false := by kernel_rfl
theorem tz26 : tZ Tryd.prog 26 = some [.nilFunc] := by kernel_rfl
theorem tv26 : tV Tryd.prog 26 = some (.nilFunc) := by kernel_rfl
theorem tc26 : Tryd.prog.concrete 26 = true := by kernel_rfl
theorem ts27 : tS Tryd.prog 27 = some 1 := by kernel_rfl
theorem tb27 : tB Tryd.prog 27 = some 8 := by kernel_rfl
theorem ta27 : tA Tryd.prog 27 = some false := by kernel_rfl
theorem tz27 : tZ Tryd.prog 27 = some [.nilFunc] := by kernel_rfl
theorem tv27 : tV Tryd.prog 27 = some (.nilFunc) := by kernel_rfl
theorem tc27 : Tryd.prog.concrete 27 = true := by kernel_rfl
theorem ts28 : tS Tryd.prog 28 = some 1 := by kernel_rfl
theorem tb28 : tB Tryd.prog 28 = some 8 := by kernel_rfl
theorem ta28 : tA Tryd.prog 28 = some false := by kernel_rfl
theorem tz28 : tZ Tryd.prog 28 = some [.nilFunc] := by kernel_rfl
theorem tv28 : tV Tryd.prog 28 = some (.nilFunc) := by kernel_rfl
theorem tc28 : Tryd.prog.concrete 28 = true := by kernel_rfl
theorem ts29 : tS Tryd.prog 29 = some 1 := by kernel_rfl
theorem tb29 : tB Tryd.prog 29 = some 8 := by kernel_rfl
theorem ta29 : tA Tryd.prog 29 = some false := by kernel_rfl
theorem tz29 : tZ Tryd.prog 29 = some [.nilFunc] := by kernel_rfl
theorem tv29 : tV Tryd.prog 29 = some (.nilFunc) := by kernel_rfl
theorem tc29 : Tryd.prog.concrete 29 = true := by kernel_rfl
theorem ts30 : tS Tryd.prog 30 = some 1 := by kernel_rfl
theorem tb30 : tB Tryd.prog 30 = some 8 := by kernel_rfl
theorem ta30 : tA Tryd.prog 30 = some false := by kernel_rfl
theorem tz30 : tZ Tryd.prog 30 = some [.nilFunc] := by kernel_rfl
theorem tv30 : tV Tryd.prog 30 = some (.nilFunc) := by kernel_rfl
theorem tc30 : Tryd.prog.concrete 30 = true := by kernel_rfl
theorem ts31 : tS Tryd.prog 31 = some 1 := by kernel_rfl
theorem tb31 : tB Tryd.prog 31 = some 8 := by kernel_rfl
theorem ta31 : tA Tryd.prog 31 = some false := by kernel_rfl
theorem tz31 : tZ Tryd.prog 31 = some [.pointer none] := by kernel_rfl
theorem tv31 : tV Tryd.prog 31 = some (.pointer none) := by kernel_rfl
theorem tc31 : Tryd.prog.concrete 31 = true := by kernel_rfl
theorem ts32 : tS Tryd.prog 32 = some 1 := by kernel_rfl
theorem tb32 : tB Tryd.prog 32 = some 24 := by kernel_rfl
theorem ta32 : tA Tryd.prog 32 = some false := by kernel_rfl
theorem tz32 : tZ Tryd.prog 32 = some [.slice none 0 0] := by kernel_rfl
theorem tv32 : tV Tryd.prog 32 = some (.slice none 0 0) := by kernel_rfl
theorem tc32 : Tryd.prog.concrete 32 = true := by kernel_rfl
theorem ts33 : tS Tryd.prog 33 = some 2 := by kernel_rfl
theorem tb33 : tB Tryd.prog 33 = some 32 := by kernel_rfl
theorem ta33 : tA Tryd.prog 33 = some true := by kernel_rfl
theorem tz33 : tZ Tryd.prog 33 = some [.pointer none, .slice none 0 0] := by kernel_rfl
theorem tv33 : tV Tryd.prog 33 = some (.agg ⟨[.pointer none, .slice none 0 0]⟩) := by kernel_rfl
theorem tf33_0 : tF Tryd.prog 33 0 = some (0, 31) := by kernel_rfl
theorem tf33_1 : tF Tryd.prog 33 1 = some (1, 32) := by kernel_rfl
theorem tp33 : tP Tryd.prog 33 = some (.inl [(0, 1), (1, 1)]) := by kernel_rfl
theorem tc33 : Tryd.prog.concrete 33 = true := by kernel_rfl
theorem tg33 : Tryd.prog.eqGuardType Tryd.prog.depth 33 = false := by kernel_rfl
theorem ts34 : tS Tryd.prog 34 = some 2 := by kernel_rfl
theorem tb34 : tB Tryd.prog 34 = some 32 := by kernel_rfl
theorem ta34 : tA Tryd.prog 34 = some true := by kernel_rfl
theorem tz34 : tZ Tryd.prog 34 = some [.pointer none, .slice none 0 0] := by kernel_rfl
theorem tv34 : tV Tryd.prog 34 = some (.agg ⟨[.pointer none, .slice none 0 0]⟩) := by kernel_rfl
theorem tf34_0 : tF Tryd.prog 34 0 = some (0, 31) := by kernel_rfl
theorem tf34_1 : tF Tryd.prog 34 1 = some (1, 32) := by kernel_rfl
theorem tp34 : tP Tryd.prog 34 = some (.inl [(0, 1), (1, 1)]) := by kernel_rfl
theorem tc34 : Tryd.prog.concrete 34 = true := by kernel_rfl
theorem tg34 : Tryd.prog.eqGuardType Tryd.prog.depth 34 = false := by kernel_rfl
theorem ts35 : tS Tryd.prog 35 = some 1 := by kernel_rfl
theorem tb35 : tB Tryd.prog 35 = some 8 := by kernel_rfl
theorem ta35 : tA Tryd.prog 35 = some false := by kernel_rfl
theorem tz35 : tZ Tryd.prog 35 = some [.nilFunc] := by kernel_rfl
theorem tv35 : tV Tryd.prog 35 = some (.nilFunc) := by kernel_rfl
theorem tc35 : Tryd.prog.concrete 35 = true := by kernel_rfl
theorem ts36 : tS Tryd.prog 36 = some 1 := by kernel_rfl
theorem tb36 : tB Tryd.prog 36 = some 8 := by kernel_rfl
theorem ta36 : tA Tryd.prog 36 = some false := by kernel_rfl
theorem tz36 : tZ Tryd.prog 36 = some [.nilFunc] := by kernel_rfl
theorem tv36 : tV Tryd.prog 36 = some (.nilFunc) := by kernel_rfl
theorem tc36 : Tryd.prog.concrete 36 = true := by kernel_rfl
theorem ts37 : tS Tryd.prog 37 = some 1 := by kernel_rfl
theorem tb37 : tB Tryd.prog 37 = some 8 := by kernel_rfl
theorem ta37 : tA Tryd.prog 37 = some false := by kernel_rfl
theorem tz37 : tZ Tryd.prog 37 = some [.nilFunc] := by kernel_rfl
theorem tv37 : tV Tryd.prog 37 = some (.nilFunc) := by kernel_rfl
theorem tc37 : Tryd.prog.concrete 37 = true := by kernel_rfl
theorem ts38 : tS Tryd.prog 38 = some 1 := by kernel_rfl
theorem tb38 : tB Tryd.prog 38 = some 16 := by kernel_rfl
theorem ta38 : tA Tryd.prog 38 = some false := by kernel_rfl
theorem tz38 : tZ Tryd.prog 38 = some [.nilIface] := by kernel_rfl
theorem tv38 : tV Tryd.prog 38 = some (.nilIface) := by kernel_rfl
theorem ts39 : tS Tryd.prog 39 = some 1 := by kernel_rfl
theorem tb39 : tB Tryd.prog 39 = some 16 := by kernel_rfl
theorem ta39 : tA Tryd.prog 39 = some false := by kernel_rfl
theorem tz39 : tZ Tryd.prog 39 = some [.nilIface] := by kernel_rfl
theorem tv39 : tV Tryd.prog 39 = some (.nilIface) := by kernel_rfl
theorem ts41 : tS Tryd.prog 41 = some 1 := by kernel_rfl
theorem tb41 : tB Tryd.prog 41 = some 8 := by kernel_rfl
theorem ta41 : tA Tryd.prog 41 = some false := by kernel_rfl
theorem tz41 : tZ Tryd.prog 41 = some [.nilFunc] := by kernel_rfl
theorem tv41 : tV Tryd.prog 41 = some (.nilFunc) := by kernel_rfl
theorem tc41 : Tryd.prog.concrete 41 = true := by kernel_rfl
theorem ts42 : tS Tryd.prog 42 = some 1 := by kernel_rfl
theorem tb42 : tB Tryd.prog 42 = some 8 := by kernel_rfl
theorem ta42 : tA Tryd.prog 42 = some false := by kernel_rfl
theorem tz42 : tZ Tryd.prog 42 = some [.nilFunc] := by kernel_rfl
theorem tv42 : tV Tryd.prog 42 = some (.nilFunc) := by kernel_rfl
theorem tc42 : Tryd.prog.concrete 42 = true := by kernel_rfl
theorem ts43 : tS Tryd.prog 43 = some 1 := by kernel_rfl
theorem tb43 : tB Tryd.prog 43 = some 8 := by kernel_rfl
theorem ta43 : tA Tryd.prog 43 = some false := by kernel_rfl
theorem tz43 : tZ Tryd.prog 43 = some [.nilFunc] := by kernel_rfl
theorem tv43 : tV Tryd.prog 43 = some (.nilFunc) := by kernel_rfl
theorem tc43 : Tryd.prog.concrete 43 = true := by kernel_rfl
theorem ts44 : tS Tryd.prog 44 = some 1 := by kernel_rfl
theorem tb44 : tB Tryd.prog 44 = some 8 := by kernel_rfl
theorem ta44 : tA Tryd.prog 44 = some false := by kernel_rfl
theorem tz44 : tZ Tryd.prog 44 = some [.nilFunc] := by kernel_rfl
theorem tv44 : tV Tryd.prog 44 = some (.nilFunc) := by kernel_rfl
theorem tc44 : Tryd.prog.concrete 44 = true := by kernel_rfl
theorem ts45 : tS Tryd.prog 45 = some 1 := by kernel_rfl
theorem tb45 : tB Tryd.prog 45 = some 8 := by kernel_rfl
theorem ta45 : tA Tryd.prog 45 = some false := by kernel_rfl
theorem tz45 : tZ Tryd.prog 45 = some [.nilFunc] := by kernel_rfl
theorem tv45 : tV Tryd.prog 45 = some (.nilFunc) := by kernel_rfl
theorem tc45 : Tryd.prog.concrete 45 = true := by kernel_rfl
theorem ts46 : tS Tryd.prog 46 = some 1 := by kernel_rfl
theorem tb46 : tB Tryd.prog 46 = some 8 := by kernel_rfl
theorem ta46 : tA Tryd.prog 46 = some false := by kernel_rfl
theorem tz46 : tZ Tryd.prog 46 = some [.nilFunc] := by kernel_rfl
theorem tv46 : tV Tryd.prog 46 = some (.nilFunc) := by kernel_rfl
theorem tc46 : Tryd.prog.concrete 46 = true := by kernel_rfl
theorem ts47 : tS Tryd.prog 47 = some 1 := by kernel_rfl
theorem tb47 : tB Tryd.prog 47 = some 8 := by kernel_rfl
theorem ta47 : tA Tryd.prog 47 = some false := by kernel_rfl
theorem tz47 : tZ Tryd.prog 47 = some [.nilFunc] := by kernel_rfl
theorem tv47 : tV Tryd.prog 47 = some (.nilFunc) := by kernel_rfl
theorem tc47 : Tryd.prog.concrete 47 = true := by kernel_rfl
theorem ts48 : tS Tryd.prog 48 = some 1 := by kernel_rfl
theorem tb48 : tB Tryd.prog 48 = some 8 := by kernel_rfl
theorem ta48 : tA Tryd.prog 48 = some false := by kernel_rfl
theorem tz48 : tZ Tryd.prog 48 = some [.pointer none] := by kernel_rfl
theorem tv48 : tV Tryd.prog 48 = some (.pointer none) := by kernel_rfl
theorem tc48 : Tryd.prog.concrete 48 = true := by kernel_rfl
theorem ts49 : tS Tryd.prog 49 = some 1 := by kernel_rfl
theorem tb49 : tB Tryd.prog 49 = some 8 := by kernel_rfl
theorem ta49 : tA Tryd.prog 49 = some false := by kernel_rfl
theorem tz49 : tZ Tryd.prog 49 = some [.pointer none] := by kernel_rfl
theorem tv49 : tV Tryd.prog 49 = some (.pointer none) := by kernel_rfl
theorem tc49 : Tryd.prog.concrete 49 = true := by kernel_rfl
theorem ts50 : tS Tryd.prog 50 = some 1 := by kernel_rfl
theorem tb50 : tB Tryd.prog 50 = some 8 := by kernel_rfl
theorem ta50 : tA Tryd.prog 50 = some false := by kernel_rfl
theorem tz50 : tZ Tryd.prog 50 = some [.nilFunc] := by kernel_rfl
theorem tv50 : tV Tryd.prog 50 = some (.nilFunc) := by kernel_rfl
theorem tc50 : Tryd.prog.concrete 50 = true := by kernel_rfl
theorem ts51 : tS Tryd.prog 51 = some 1 := by kernel_rfl
theorem tb51 : tB Tryd.prog 51 = some 8 := by kernel_rfl
theorem ta51 : tA Tryd.prog 51 = some false := by kernel_rfl
theorem tz51 : tZ Tryd.prog 51 = some [.nilFunc] := by kernel_rfl
theorem tv51 : tV Tryd.prog 51 = some (.nilFunc) := by kernel_rfl
theorem tc51 : Tryd.prog.concrete 51 = true := by kernel_rfl
theorem ts52 : tS Tryd.prog 52 = some 1 := by kernel_rfl
theorem tb52 : tB Tryd.prog 52 = some 8 := by kernel_rfl
theorem ta52 : tA Tryd.prog 52 = some false := by kernel_rfl
theorem tz52 : tZ Tryd.prog 52 = some [.nilFunc] := by kernel_rfl
theorem tv52 : tV Tryd.prog 52 = some (.nilFunc) := by kernel_rfl
theorem tc52 : Tryd.prog.concrete 52 = true := by kernel_rfl
theorem ts53 : tS Tryd.prog 53 = some 1 := by kernel_rfl
theorem tb53 : tB Tryd.prog 53 = some 8 := by kernel_rfl
theorem ta53 : tA Tryd.prog 53 = some false := by kernel_rfl
theorem tz53 : tZ Tryd.prog 53 = some [.int .u64 0] := by kernel_rfl
theorem tv53 : tV Tryd.prog 53 = some (.int .u64 0) := by kernel_rfl
theorem tc53 : Tryd.prog.concrete 53 = true := by kernel_rfl
theorem ts54 : tS Tryd.prog 54 = some 1 := by kernel_rfl
theorem tb54 : tB Tryd.prog 54 = some 8 := by kernel_rfl
theorem ta54 : tA Tryd.prog 54 = some false := by kernel_rfl
theorem tz54 : tZ Tryd.prog 54 = some [.nilFunc] := by kernel_rfl
theorem tv54 : tV Tryd.prog 54 = some (.nilFunc) := by kernel_rfl
theorem tc54 : Tryd.prog.concrete 54 = true := by kernel_rfl
theorem ts55 : tS Tryd.prog 55 = some 1 := by kernel_rfl
theorem tb55 : tB Tryd.prog 55 = some 8 := by kernel_rfl
theorem ta55 : tA Tryd.prog 55 = some false := by kernel_rfl
theorem tz55 : tZ Tryd.prog 55 = some [.nilFunc] := by kernel_rfl
theorem tv55 : tV Tryd.prog 55 = some (.nilFunc) := by kernel_rfl
theorem tc55 : Tryd.prog.concrete 55 = true := by kernel_rfl
theorem ts56 : tS Tryd.prog 56 = some 1 := by kernel_rfl
theorem tb56 : tB Tryd.prog 56 = some 8 := by kernel_rfl
theorem ta56 : tA Tryd.prog 56 = some false := by kernel_rfl
theorem tz56 : tZ Tryd.prog 56 = some [.pointer none] := by kernel_rfl
theorem tv56 : tV Tryd.prog 56 = some (.pointer none) := by kernel_rfl
theorem tc56 : Tryd.prog.concrete 56 = true := by kernel_rfl
theorem ts57 : tS Tryd.prog 57 = some 1 := by kernel_rfl
theorem tb57 : tB Tryd.prog 57 = some 8 := by kernel_rfl
theorem ta57 : tA Tryd.prog 57 = some false := by kernel_rfl
theorem tz57 : tZ Tryd.prog 57 = some [.nilFunc] := by kernel_rfl
theorem tv57 : tV Tryd.prog 57 = some (.nilFunc) := by kernel_rfl
theorem tc57 : Tryd.prog.concrete 57 = true := by kernel_rfl
theorem ts58 : tS Tryd.prog 58 = some 4 := by kernel_rfl
theorem tb58 : tB Tryd.prog 58 = some 32 := by kernel_rfl
theorem ta58 : tA Tryd.prog 58 = some true := by kernel_rfl
theorem tz58 : tZ Tryd.prog 58 = some [.int .u64 0, .int .u64 0, .int .u64 0, .int .u64 0] := by kernel_rfl
theorem tv58 : tV Tryd.prog 58 = some (.agg ⟨[.int .u64 0, .int .u64 0, .int .u64 0, .int .u64 0]⟩) := by kernel_rfl
theorem tp58 : tP Tryd.prog 58 = some (.inr 1) := by kernel_rfl
theorem tc58 : Tryd.prog.concrete 58 = true := by kernel_rfl
theorem tg58 : Tryd.prog.eqGuardType Tryd.prog.depth 58 = false := by kernel_rfl
theorem ts59 : tS Tryd.prog 59 = some 4 := by kernel_rfl
theorem tb59 : tB Tryd.prog 59 = some 32 := by kernel_rfl
theorem ta59 : tA Tryd.prog 59 = some true := by kernel_rfl
theorem tz59 : tZ Tryd.prog 59 = some [.int .u64 0, .int .u64 0, .int .u64 0, .int .u64 0] := by kernel_rfl
theorem tv59 : tV Tryd.prog 59 = some (.agg ⟨[.int .u64 0, .int .u64 0, .int .u64 0, .int .u64 0]⟩) := by kernel_rfl
theorem tf59_0 : tF Tryd.prog 59 0 = some (0, 58) := by kernel_rfl
theorem tp59 : tP Tryd.prog 59 = some (.inl [(0, 4)]) := by kernel_rfl
theorem tc59 : Tryd.prog.concrete 59 = true := by kernel_rfl
theorem tg59 : Tryd.prog.eqGuardType Tryd.prog.depth 59 = false := by kernel_rfl
theorem ts60 : tS Tryd.prog 60 = some 4 := by kernel_rfl
theorem tb60 : tB Tryd.prog 60 = some 32 := by kernel_rfl
theorem ta60 : tA Tryd.prog 60 = some true := by kernel_rfl
theorem tz60 : tZ Tryd.prog 60 = some [.int .u64 0, .int .u64 0, .int .u64 0, .int .u64 0] := by kernel_rfl
theorem tv60 : tV Tryd.prog 60 = some (.agg ⟨[.int .u64 0, .int .u64 0, .int .u64 0, .int .u64 0]⟩) := by kernel_rfl
theorem tf60_0 : tF Tryd.prog 60 0 = some (0, 58) := by kernel_rfl
theorem tp60 : tP Tryd.prog 60 = some (.inl [(0, 4)]) := by kernel_rfl
theorem tc60 : Tryd.prog.concrete 60 = true := by kernel_rfl
theorem tg60 : Tryd.prog.eqGuardType Tryd.prog.depth 60 = false := by kernel_rfl
theorem ts61 : tS Tryd.prog 61 = some 1 := by kernel_rfl
theorem tb61 : tB Tryd.prog 61 = some 8 := by kernel_rfl
theorem ta61 : tA Tryd.prog 61 = some false := by kernel_rfl
theorem tz61 : tZ Tryd.prog 61 = some [.nilFunc] := by kernel_rfl
theorem tv61 : tV Tryd.prog 61 = some (.nilFunc) := by kernel_rfl
theorem tc61 : Tryd.prog.concrete 61 = true := by kernel_rfl
theorem ts62 : tS Tryd.prog 62 = some 5 := by kernel_rfl
theorem tb62 : tB Tryd.prog 62 = some 40 := by kernel_rfl
theorem ta62 : tA Tryd.prog 62 = some true := by kernel_rfl
theorem tz62 : tZ Tryd.prog 62 = some [.int .u64 0, .int .u64 0, .int .u64 0, .int .u64 0, .int .i64 0] := by kernel_rfl
theorem tv62 : tV Tryd.prog 62 = some (.agg ⟨[.int .u64 0, .int .u64 0, .int .u64 0, .int .u64 0, .int .i64 0]⟩) := by kernel_rfl
theorem tf62_0 : tF Tryd.prog 62 0 = some (0, 60) := by kernel_rfl
theorem tf62_1 : tF Tryd.prog 62 1 = some (4, 3) := by kernel_rfl
theorem tp62 : tP Tryd.prog 62 = some (.inl [(0, 4), (4, 1)]) := by kernel_rfl
theorem tc62 : Tryd.prog.concrete 62 = true := by kernel_rfl
theorem tg62 : Tryd.prog.eqGuardType Tryd.prog.depth 62 = false := by kernel_rfl
theorem ts63 : tS Tryd.prog 63 = some 5 := by kernel_rfl
theorem tb63 : tB Tryd.prog 63 = some 40 := by kernel_rfl
theorem ta63 : tA Tryd.prog 63 = some true := by kernel_rfl
theorem tz63 : tZ Tryd.prog 63 = some [.int .u64 0, .int .u64 0, .int .u64 0, .int .u64 0, .int .i64 0] := by kernel_rfl
theorem tv63 : tV Tryd.prog 63 = some (.agg ⟨[.int .u64 0, .int .u64 0, .int .u64 0, .int .u64 0, .int .i64 0]⟩) := by kernel_rfl
theorem tf63_0 : tF Tryd.prog 63 0 = some (0, 60) := by kernel_rfl
theorem tf63_1 : tF Tryd.prog 63 1 = some (4, 3) := by kernel_rfl
theorem tp63 : tP Tryd.prog 63 = some (.inl [(0, 4), (4, 1)]) := by kernel_rfl
theorem tc63 : Tryd.prog.concrete 63 = true := by kernel_rfl
theorem tg63 : Tryd.prog.eqGuardType Tryd.prog.depth 63 = false := by kernel_rfl
theorem ts64 : tS Tryd.prog 64 = some 1 := by kernel_rfl
theorem tb64 : tB Tryd.prog 64 = some 8 := by kernel_rfl
theorem ta64 : tA Tryd.prog 64 = some false := by kernel_rfl
theorem tz64 : tZ Tryd.prog 64 = some [.nilFunc] := by kernel_rfl
theorem tv64 : tV Tryd.prog 64 = some (.nilFunc) := by kernel_rfl
theorem tc64 : Tryd.prog.concrete 64 = true := by kernel_rfl
theorem ts65 : tS Tryd.prog 65 = some 1 := by kernel_rfl
theorem tb65 : tB Tryd.prog 65 = some 8 := by kernel_rfl
theorem ta65 : tA Tryd.prog 65 = some false := by kernel_rfl
theorem tz65 : tZ Tryd.prog 65 = some [.nilFunc] := by kernel_rfl
theorem tv65 : tV Tryd.prog 65 = some (.nilFunc) := by kernel_rfl
theorem tc65 : Tryd.prog.concrete 65 = true := by kernel_rfl
theorem ts66 : tS Tryd.prog 66 = some 1 := by kernel_rfl
theorem tb66 : tB Tryd.prog 66 = some 8 := by kernel_rfl
theorem ta66 : tA Tryd.prog 66 = some false := by kernel_rfl
theorem tz66 : tZ Tryd.prog 66 = some [.nilFunc] := by kernel_rfl
theorem tv66 : tV Tryd.prog 66 = some (.nilFunc) := by kernel_rfl
theorem tc66 : Tryd.prog.concrete 66 = true := by kernel_rfl
theorem ts67 : tS Tryd.prog 67 = some 1 := by kernel_rfl
theorem tb67 : tB Tryd.prog 67 = some 8 := by kernel_rfl
theorem ta67 : tA Tryd.prog 67 = some false := by kernel_rfl
theorem tz67 : tZ Tryd.prog 67 = some [.pointer none] := by kernel_rfl
theorem tv67 : tV Tryd.prog 67 = some (.pointer none) := by kernel_rfl
theorem tc67 : Tryd.prog.concrete 67 = true := by kernel_rfl
theorem ts68 : tS Tryd.prog 68 = some 1 := by kernel_rfl
theorem tb68 : tB Tryd.prog 68 = some 8 := by kernel_rfl
theorem ta68 : tA Tryd.prog 68 = some false := by kernel_rfl
theorem tz68 : tZ Tryd.prog 68 = some [.int .u64 0] := by kernel_rfl
theorem tv68 : tV Tryd.prog 68 = some (.int .u64 0) := by kernel_rfl
theorem tc68 : Tryd.prog.concrete 68 = true := by kernel_rfl
theorem ts69 : tS Tryd.prog 69 = some 1 := by kernel_rfl
theorem tb69 : tB Tryd.prog 69 = some 8 := by kernel_rfl
theorem ta69 : tA Tryd.prog 69 = some false := by kernel_rfl
theorem tz69 : tZ Tryd.prog 69 = some [.nilFunc] := by kernel_rfl
theorem tv69 : tV Tryd.prog 69 = some (.nilFunc) := by kernel_rfl
theorem tc69 : Tryd.prog.concrete 69 = true := by kernel_rfl
theorem ts70 : tS Tryd.prog 70 = some 24 := by kernel_rfl
theorem tb70 : tB Tryd.prog 70 = some 24 := by kernel_rfl
theorem ta70 : tA Tryd.prog 70 = some true := by kernel_rfl
theorem tz70 : tZ Tryd.prog 70 = some [.int .u8 0, .int .u8 0, .int .u8 0, .int .u8 0, .int .u8 0, .int .u8 0, .int .u8 0, .int .u8 0, .int .u8 0, .int .u8 0, .int .u8 0, .int .u8 0, .int .u8 0, .int .u8 0, .int .u8 0, .int .u8 0, .int .u8 0, .int .u8 0, .int .u8 0, .int .u8 0, .int .u8 0, .int .u8 0, .int .u8 0, .int .u8 0] := by kernel_rfl
theorem tv70 : tV Tryd.prog 70 = some (.agg ⟨[.int .u8 0, .int .u8 0, .int .u8 0, .int .u8 0, .int .u8 0, .int .u8 0, .int .u8 0, .int .u8 0, .int .u8 0, .int .u8 0, .int .u8 0, .int .u8 0, .int .u8 0, .int .u8 0, .int .u8 0, .int .u8 0, .int .u8 0, .int .u8 0, .int .u8 0, .int .u8 0, .int .u8 0, .int .u8 0, .int .u8 0, .int .u8 0]⟩) := by kernel_rfl
theorem tp70 : tP Tryd.prog 70 = some (.inr 1) := by kernel_rfl
theorem tc70 : Tryd.prog.concrete 70 = true := by kernel_rfl
theorem tg70 : Tryd.prog.eqGuardType Tryd.prog.depth 70 = false := by kernel_rfl
theorem ts71 : tS Tryd.prog 71 = some 1 := by kernel_rfl
theorem tb71 : tB Tryd.prog 71 = some 8 := by kernel_rfl
theorem ta71 : tA Tryd.prog 71 = some false := by kernel_rfl
theorem tz71 : tZ Tryd.prog 71 = some [.nilFunc] := by kernel_rfl
theorem tv71 : tV Tryd.prog 71 = some (.nilFunc) := by kernel_rfl
theorem tc71 : Tryd.prog.concrete 71 = true := by kernel_rfl
theorem ts72 : tS Tryd.prog 72 = some 1 := by kernel_rfl
theorem tb72 : tB Tryd.prog 72 = some 8 := by kernel_rfl
theorem ta72 : tA Tryd.prog 72 = some false := by kernel_rfl
theorem tz72 : tZ Tryd.prog 72 = some [.nilFunc] := by kernel_rfl
theorem tv72 : tV Tryd.prog 72 = some (.nilFunc) := by kernel_rfl
theorem tc72 : Tryd.prog.concrete 72 = true := by kernel_rfl
theorem ts74 : tS Tryd.prog 74 = some 1 := by kernel_rfl
theorem tb74 : tB Tryd.prog 74 = some 8 := by kernel_rfl
theorem ta74 : tA Tryd.prog 74 = some false := by kernel_rfl
theorem tz74 : tZ Tryd.prog 74 = some [.nilFunc] := by kernel_rfl
theorem tv74 : tV Tryd.prog 74 = some (.nilFunc) := by kernel_rfl
theorem tc74 : Tryd.prog.concrete 74 = true := by kernel_rfl
theorem ts75 : tS Tryd.prog 75 = some 1 := by kernel_rfl
theorem tb75 : tB Tryd.prog 75 = some 8 := by kernel_rfl
theorem ta75 : tA Tryd.prog 75 = some false := by kernel_rfl
theorem tz75 : tZ Tryd.prog 75 = some [.nilFunc] := by kernel_rfl
theorem tv75 : tV Tryd.prog 75 = some (.nilFunc) := by kernel_rfl
theorem tc75 : Tryd.prog.concrete 75 = true := by kernel_rfl
theorem ts76 : tS Tryd.prog 76 = some 1 := by kernel_rfl
theorem tb76 : tB Tryd.prog 76 = some 8 := by kernel_rfl
theorem ta76 : tA Tryd.prog 76 = some false := by kernel_rfl
theorem tz76 : tZ Tryd.prog 76 = some [.nilFunc] := by kernel_rfl
theorem tv76 : tV Tryd.prog 76 = some (.nilFunc) := by kernel_rfl
theorem tc76 : Tryd.prog.concrete 76 = true := by kernel_rfl
theorem ts77 : tS Tryd.prog 77 = some 20 := by kernel_rfl
theorem tb77 : tB Tryd.prog 77 = some 160 := by kernel_rfl
theorem ta77 : tA Tryd.prog 77 = some true := by kernel_rfl
theorem tz77 : tZ Tryd.prog 77 = some [.int .u64 0, .int .u64 0, .int .u64 0, .int .u64 0, .int .u64 0, .int .u64 0, .int .u64 0, .int .u64 0, .int .u64 0, .int .u64 0, .int .u64 0, .int .u64 0, .int .u64 0, .int .u64 0, .int .u64 0, .int .u64 0, .int .u64 0, .int .u64 0, .int .u64 0, .int .u64 0] := by kernel_rfl
theorem tv77 : tV Tryd.prog 77 = some (.agg ⟨[.int .u64 0, .int .u64 0, .int .u64 0, .int .u64 0, .int .u64 0, .int .u64 0, .int .u64 0, .int .u64 0, .int .u64 0, .int .u64 0, .int .u64 0, .int .u64 0, .int .u64 0, .int .u64 0, .int .u64 0, .int .u64 0, .int .u64 0, .int .u64 0, .int .u64 0, .int .u64 0]⟩) := by kernel_rfl
theorem tp77 : tP Tryd.prog 77 = some (.inr 1) := by kernel_rfl
theorem tc77 : Tryd.prog.concrete 77 = true := by kernel_rfl
theorem tg77 : Tryd.prog.eqGuardType Tryd.prog.depth 77 = false := by kernel_rfl
theorem ts78 : tS Tryd.prog 78 = some 1 := by kernel_rfl
theorem tb78 : tB Tryd.prog 78 = some 4 := by kernel_rfl
theorem ta78 : tA Tryd.prog 78 = some false := by kernel_rfl
theorem tz78 : tZ Tryd.prog 78 = some [.int .u32 0] := by kernel_rfl
theorem tv78 : tV Tryd.prog 78 = some (.int .u32 0) := by kernel_rfl
theorem tc78 : Tryd.prog.concrete 78 = true := by kernel_rfl
theorem ts79 : tS Tryd.prog 79 = some 65 := by kernel_rfl
theorem tb79 : tB Tryd.prog 79 = some 65 := by kernel_rfl
theorem ta79 : tA Tryd.prog 79 = some true := by kernel_rfl
theorem tp79 : tP Tryd.prog 79 = some (.inr 1) := by kernel_rfl
theorem tc79 : Tryd.prog.concrete 79 = true := by kernel_rfl
theorem tg79 : Tryd.prog.eqGuardType Tryd.prog.depth 79 = false := by kernel_rfl
theorem ts80 : tS Tryd.prog 80 = some 1 := by kernel_rfl
theorem tb80 : tB Tryd.prog 80 = some 8 := by kernel_rfl
theorem ta80 : tA Tryd.prog 80 = some false := by kernel_rfl
theorem tz80 : tZ Tryd.prog 80 = some [.nilFunc] := by kernel_rfl
theorem tv80 : tV Tryd.prog 80 = some (.nilFunc) := by kernel_rfl
theorem tc80 : Tryd.prog.concrete 80 = true := by kernel_rfl
theorem ts81 : tS Tryd.prog 81 = some 1 := by kernel_rfl
theorem tb81 : tB Tryd.prog 81 = some 8 := by kernel_rfl
theorem ta81 : tA Tryd.prog 81 = some false := by kernel_rfl
theorem tz81 : tZ Tryd.prog 81 = some [.nilFunc] := by kernel_rfl
theorem tv81 : tV Tryd.prog 81 = some (.nilFunc) := by kernel_rfl
theorem tc81 : Tryd.prog.concrete 81 = true := by kernel_rfl
theorem ts82 : tS Tryd.prog 82 = some 1 := by kernel_rfl
theorem tb82 : tB Tryd.prog 82 = some 8 := by kernel_rfl
theorem ta82 : tA Tryd.prog 82 = some false := by kernel_rfl
theorem tz82 : tZ Tryd.prog 82 = some [.nilFunc] := by kernel_rfl
theorem tv82 : tV Tryd.prog 82 = some (.nilFunc) := by kernel_rfl
theorem tc82 : Tryd.prog.concrete 82 = true := by kernel_rfl
theorem ts83 : tS Tryd.prog 83 = some 32 := by kernel_rfl
theorem tb83 : tB Tryd.prog 83 = some 32 := by kernel_rfl
theorem ta83 : tA Tryd.prog 83 = some true := by kernel_rfl
theorem tz83 : tZ Tryd.prog 83 = some [.int .u8 0, .int .u8 0, .int .u8 0, .int .u8 0, .int .u8 0, .int .u8 0, .int .u8 0, .int .u8 0, .int .u8 0, .int .u8 0, .int .u8 0, .int .u8 0, .int .u8 0, .int .u8 0, .int .u8 0, .int .u8 0, .int .u8 0, .int .u8 0, .int .u8 0, .int .u8 0, .int .u8 0, .int .u8 0, .int .u8 0, .int .u8 0, .int .u8 0, .int .u8 0, .int .u8 0, .int .u8 0, .int .u8 0, .int .u8 0, .int .u8 0, .int .u8 0] := by kernel_rfl
theorem tv83 : tV Tryd.prog 83 = some (.agg ⟨[.int .u8 0, .int .u8 0, .int .u8 0, .int .u8 0, .int .u8 0, .int .u8 0, .int .u8 0, .int .u8 0, .int .u8 0, .int .u8 0, .int .u8 0, .int .u8 0, .int .u8 0, .int .u8 0, .int .u8 0, .int .u8 0, .int .u8 0, .int .u8 0, .int .u8 0, .int .u8 0, .int .u8 0, .int .u8 0, .int .u8 0, .int .u8 0, .int .u8 0, .int .u8 0, .int .u8 0, .int .u8 0, .int .u8 0, .int .u8 0, .int .u8 0, .int .u8 0]⟩) := by kernel_rfl
theorem tp83 : tP Tryd.prog 83 = some (.inr 1) := by kernel_rfl
theorem tc83 : Tryd.prog.concrete 83 = true := by kernel_rfl
theorem tg83 : Tryd.prog.eqGuardType Tryd.prog.depth 83 = false := by kernel_rfl
theorem ts84 : tS Tryd.prog 84 = some 64 := by kernel_rfl
theorem tb84 : tB Tryd.prog 84 = some 64 := by kernel_rfl
theorem ta84 : tA Tryd.prog 84 = some true := by kernel_rfl
theorem tz84 : tZ Tryd.prog 84 = some [.int .u8 0, .int .u8 0, .int .u8 0, .int .u8 0, .int .u8 0, .int .u8 0, .int .u8 0, .int .u8 0, .int .u8 0, .int .u8 0, .int .u8 0, .int .u8 0, .int .u8 0, .int .u8 0, .int .u8 0, .int .u8 0, .int .u8 0, .int .u8 0, .int .u8 0, .int .u8 0, .int .u8 0, .int .u8 0, .int .u8 0, .int .u8 0, .int .u8 0, .int .u8 0, .int .u8 0, .int .u8 0, .int .u8 0, .int .u8 0, .int .u8 0, .int .u8 0, .int .u8 0, .int .u8 0, .int .u8 0, .int .u8 0, .int .u8 0, .int .u8 0, .int .u8 0, .int .u8 0, .int .u8 0, .int .u8 0, .int .u8 0, .int .u8 0, .int .u8 0, .int .u8 0, .int .u8 0, .int .u8 0, .int .u8 0, .int .u8 0, .int .u8 0, .int .u8 0, .int .u8 0, .int .u8 0, .int .u8 0, .int .u8 0, .int .u8 0, .int .u8 0, .int .u8 0, .int .u8 0, .int .u8 0, .int .u8 0, .int .u8 0, .int .u8 0] := by kernel_rfl
theorem tv84 : tV Tryd.prog 84 = some (.agg ⟨[.int .u8 0, .int .u8 0, .int .u8 0, .int .u8 0, .int .u8 0, .int .u8 0, .int .u8 0, .int .u8 0, .int .u8 0, .int .u8 0, .int .u8 0, .int .u8 0, .int .u8 0, .int .u8 0, .int .u8 0, .int .u8 0, .int .u8 0, .int .u8 0, .int .u8 0, .int .u8 0, .int .u8 0, .int .u8 0, .int .u8 0, .int .u8 0, .int .u8 0, .int .u8 0, .int .u8 0, .int .u8 0, .int .u8 0, .int .u8 0, .int .u8 0, .int .u8 0, .int .u8 0, .int .u8 0, .int .u8 0, .int .u8 0, .int .u8 0, .int .u8 0, .int .u8 0, .int .u8 0, .int .u8 0, .int .u8 0, .int .u8 0, .int .u8 0, .int .u8 0, .int .u8 0, .int .u8 0, .int .u8 0, .int .u8 0, .int .u8 0, .int .u8 0, .int .u8 0, .int .u8 0, .int .u8 0, .int .u8 0, .int .u8 0, .int .u8 0, .int .u8 0, .int .u8 0, .int .u8 0, .int .u8 0, .int .u8 0, .int .u8 0, .int .u8 0]⟩) := by kernel_rfl
theorem tp84 : tP Tryd.prog 84 = some (.inr 1) := by kernel_rfl
theorem tc84 : Tryd.prog.concrete 84 = true := by kernel_rfl
theorem tg84 : Tryd.prog.eqGuardType Tryd.prog.depth 84 = false := by kernel_rfl
theorem ts85 : tS Tryd.prog 85 = some 4 := by kernel_rfl
theorem tb85 : tB Tryd.prog 85 = some 40 := by kernel_rfl
theorem ta85 : tA Tryd.prog 85 = some true := by kernel_rfl
theorem tz85 : tZ Tryd.prog 85 = some [.pointer none, .pointer none, .pointer none, .string (bs [])] := by kernel_rfl
theorem tv85 : tV Tryd.prog 85 = some (.agg ⟨[.pointer none, .pointer none, .pointer none, .string (bs [])]⟩) := by kernel_rfl
theorem tf85_0 : tF Tryd.prog 85 0 = some (0, 17) := by kernel_rfl
theorem tf85_1 : tF Tryd.prog 85 1 = some (1, 17) := by kernel_rfl
theorem tf85_2 : tF Tryd.prog 85 2 = some (2, 17) := by kernel_rfl
theorem tf85_3 : tF Tryd.prog 85 3 = some (3, 9) := by kernel_rfl
theorem tp85 : tP Tryd.prog 85 = some (.inl [(0, 1), (1, 1), (2, 1), (3, 1)]) := by kernel_rfl
theorem tc85 : Tryd.prog.concrete 85 = true := by kernel_rfl
theorem tg85 : Tryd.prog.eqGuardType Tryd.prog.depth 85 = false := by kernel_rfl
theorem ts86 : tS Tryd.prog 86 = some 4 := by kernel_rfl
theorem tb86 : tB Tryd.prog 86 = some 40 := by kernel_rfl
theorem ta86 : tA Tryd.prog 86 = some true := by kernel_rfl
theorem tz86 : tZ Tryd.prog 86 = some [.pointer none, .pointer none, .pointer none, .string (bs [])] := by kernel_rfl
theorem tv86 : tV Tryd.prog 86 = some (.agg ⟨[.pointer none, .pointer none, .pointer none, .string (bs [])]⟩) := by kernel_rfl
theorem tf86_0 : tF Tryd.prog 86 0 = some (0, 17) := by kernel_rfl
theorem tf86_1 : tF Tryd.prog 86 1 = some (1, 17) := by kernel_rfl
theorem tf86_2 : tF Tryd.prog 86 2 = some (2, 17) := by kernel_rfl
theorem tf86_3 : tF Tryd.prog 86 3 = some (3, 9) := by kernel_rfl
theorem tp86 : tP Tryd.prog 86 = some (.inl [(0, 1), (1, 1), (2, 1), (3, 1)]) := by kernel_rfl
theorem tc86 : Tryd.prog.concrete 86 = true := by kernel_rfl
theorem tg86 : Tryd.prog.eqGuardType Tryd.prog.depth 86 = false := by kernel_rfl
theorem ts87 : tS Tryd.prog 87 = some 0 := by kernel_rfl
theorem tb87 : tB Tryd.prog 87 = some 0 := by kernel_rfl
theorem ta87 : tA Tryd.prog 87 = some true := by kernel_rfl
theorem tz87 : tZ Tryd.prog 87 = some [] := by kernel_rfl
theorem tv87 : tV Tryd.prog 87 = some (.agg ⟨[]⟩) := by kernel_rfl
theorem tp87 : tP Tryd.prog 87 = some (.inr 1) := by kernel_rfl
theorem tc87 : Tryd.prog.concrete 87 = true := by kernel_rfl
theorem tg87 : Tryd.prog.eqGuardType Tryd.prog.depth 87 = false := by kernel_rfl
theorem ts88 : tS Tryd.prog 88 = some 0 := by kernel_rfl
theorem tb88 : tB Tryd.prog 88 = some 0 := by kernel_rfl
theorem ta88 : tA Tryd.prog 88 = some true := by kernel_rfl
theorem tz88 : tZ Tryd.prog 88 = some [] := by kernel_rfl
theorem tv88 : tV Tryd.prog 88 = some (.agg ⟨[]⟩) := by kernel_rfl
theorem tf88_0 : tF Tryd.prog 88 0 = some (0, 87) := by kernel_rfl
theorem tp88 : tP Tryd.prog 88 = some (.inl [(0, 0)]) := by kernel_rfl
theorem tc88 : Tryd.prog.concrete 88 = true := by kernel_rfl
theorem tg88 : Tryd.prog.eqGuardType Tryd.prog.depth 88 = false := by kernel_rfl
theorem ts89 : tS Tryd.prog 89 = some 0 := by kernel_rfl
theorem tb89 : tB Tryd.prog 89 = some 0 := by kernel_rfl
theorem ta89 : tA Tryd.prog 89 = some true := by kernel_rfl
theorem tz89 : tZ Tryd.prog 89 = some [] := by kernel_rfl
theorem tv89 : tV Tryd.prog 89 = some (.agg ⟨[]⟩) := by kernel_rfl
theorem tf89_0 : tF Tryd.prog 89 0 = some (0, 87) := by kernel_rfl
theorem tp89 : tP Tryd.prog 89 = some (.inl [(0, 0)]) := by kernel_rfl
theorem tc89 : Tryd.prog.concrete 89 = true := by kernel_rfl
theorem tg89 : Tryd.prog.eqGuardType Tryd.prog.depth 89 = false := by kernel_rfl
theorem ts90 : tS Tryd.prog 90 = some 1 := by kernel_rfl
theorem tb90 : tB Tryd.prog 90 = some 1 := by kernel_rfl
theorem ta90 : tA Tryd.prog 90 = some false := by kernel_rfl
theorem tz90 : tZ Tryd.prog 90 = some [.int .u8 0] := by kernel_rfl
theorem tv90 : tV Tryd.prog 90 = some (.int .u8 0) := by kernel_rfl
theorem tc90 : Tryd.prog.concrete 90 = true := by kernel_rfl
theorem ts91 : tS Tryd.prog 91 = some 1 := by kernel_rfl
theorem tb91 : tB Tryd.prog 91 = some 1 := by kernel_rfl
theorem ta91 : tA Tryd.prog 91 = some false := by kernel_rfl
theorem tz91 : tZ Tryd.prog 91 = some [.int .u8 0] := by kernel_rfl
theorem tv91 : tV Tryd.prog 91 = some (.int .u8 0) := by kernel_rfl
theorem tc91 : Tryd.prog.concrete 91 = true := by kernel_rfl
theorem ts92 : tS Tryd.prog 92 = some 1 := by kernel_rfl
theorem tb92 : tB Tryd.prog 92 = some 8 := by kernel_rfl
theorem ta92 : tA Tryd.prog 92 = some false := by kernel_rfl
theorem tz92 : tZ Tryd.prog 92 = some [.nilFunc] := by kernel_rfl
theorem tv92 : tV Tryd.prog 92 = some (.nilFunc) := by kernel_rfl
theorem tc92 : Tryd.prog.concrete 92 = true := by kernel_rfl
theorem ts93 : tS Tryd.prog 93 = some 1 := by kernel_rfl
theorem tb93 : tB Tryd.prog 93 = some 4 := by kernel_rfl
theorem ta93 : tA Tryd.prog 93 = some false := by kernel_rfl
theorem tz93 : tZ Tryd.prog 93 = some [.int .i32 0] := by kernel_rfl
theorem tv93 : tV Tryd.prog 93 = some (.int .i32 0) := by kernel_rfl
theorem tc93 : Tryd.prog.concrete 93 = true := by kernel_rfl
theorem ts94 : tS Tryd.prog 94 = some 1 := by kernel_rfl
theorem tb94 : tB Tryd.prog 94 = some 4 := by kernel_rfl
theorem ta94 : tA Tryd.prog 94 = some false := by kernel_rfl
theorem tz94 : tZ Tryd.prog 94 = some [.int .i32 0] := by kernel_rfl
theorem tv94 : tV Tryd.prog 94 = some (.int .i32 0) := by kernel_rfl
theorem tc94 : Tryd.prog.concrete 94 = true := by kernel_rfl
theorem ts95 : tS Tryd.prog 95 = some 11 := by kernel_rfl
theorem tb95 : tB Tryd.prog 95 = some 48 := by kernel_rfl
theorem ta95 : tA Tryd.prog 95 = some true := by kernel_rfl
theorem tz95 : tZ Tryd.prog 95 = some [.int .u64 0, .int .u64 0, .int .u32 0, .int .u8 0, .int .u8 0, .int .u8 0, .int .u8 0, .nilFunc, .pointer none, .int .i32 0, .int .i32 0] := by kernel_rfl
theorem tv95 : tV Tryd.prog 95 = some (.agg ⟨[.int .u64 0, .int .u64 0, .int .u32 0, .int .u8 0, .int .u8 0, .int .u8 0, .int .u8 0, .nilFunc, .pointer none, .int .i32 0, .int .i32 0]⟩) := by kernel_rfl
theorem tf95_0 : tF Tryd.prog 95 0 = some (0, 12) := by kernel_rfl
theorem tf95_1 : tF Tryd.prog 95 1 = some (1, 12) := by kernel_rfl
theorem tf95_2 : tF Tryd.prog 95 2 = some (2, 78) := by kernel_rfl
theorem tf95_3 : tF Tryd.prog 95 3 = some (3, 90) := by kernel_rfl
theorem tf95_4 : tF Tryd.prog 95 4 = some (4, 5) := by kernel_rfl
theorem tf95_5 : tF Tryd.prog 95 5 = some (5, 5) := by kernel_rfl
theorem tf95_6 : tF Tryd.prog 95 6 = some (6, 91) := by kernel_rfl
theorem tf95_7 : tF Tryd.prog 95 7 = some (7, 92) := by kernel_rfl
theorem tf95_8 : tF Tryd.prog 95 8 = some (8, 48) := by kernel_rfl
theorem tf95_9 : tF Tryd.prog 95 9 = some (9, 93) := by kernel_rfl
theorem tf95_10 : tF Tryd.prog 95 10 = some (10, 94) := by kernel_rfl
theorem tp95 : tP Tryd.prog 95 = some (.inl [(0, 1), (1, 1), (2, 1), (3, 1), (4, 1), (5, 1), (6, 1), (7, 1), (8, 1), (9, 1), (10, 1)]) := by kernel_rfl
theorem tc95 : Tryd.prog.concrete 95 = true := by kernel_rfl
theorem tg95 : Tryd.prog.eqGuardType Tryd.prog.depth 95 = false := by kernel_rfl
theorem ts96 : tS Tryd.prog 96 = some 11 := by kernel_rfl
theorem tb96 : tB Tryd.prog 96 = some 48 := by kernel_rfl
theorem ta96 : tA Tryd.prog 96 = some true := by kernel_rfl
theorem tz96 : tZ Tryd.prog 96 = some [.int .u64 0, .int .u64 0, .int .u32 0, .int .u8 0, .int .u8 0, .int .u8 0, .int .u8 0, .nilFunc, .pointer none, .int .i32 0, .int .i32 0] := by kernel_rfl
theorem tv96 : tV Tryd.prog 96 = some (.agg ⟨[.int .u64 0, .int .u64 0, .int .u32 0, .int .u8 0, .int .u8 0, .int .u8 0, .int .u8 0, .nilFunc, .pointer none, .int .i32 0, .int .i32 0]⟩) := by kernel_rfl
theorem tf96_0 : tF Tryd.prog 96 0 = some (0, 12) := by kernel_rfl
theorem tf96_1 : tF Tryd.prog 96 1 = some (1, 12) := by kernel_rfl
theorem tf96_2 : tF Tryd.prog 96 2 = some (2, 78) := by kernel_rfl
theorem tf96_3 : tF Tryd.prog 96 3 = some (3, 90) := by kernel_rfl
theorem tf96_4 : tF Tryd.prog 96 4 = some (4, 5) := by kernel_rfl
theorem tf96_5 : tF Tryd.prog 96 5 = some (5, 5) := by kernel_rfl
theorem tf96_6 : tF Tryd.prog 96 6 = some (6, 91) := by kernel_rfl
theorem tf96_7 : tF Tryd.prog 96 7 = some (7, 92) := by kernel_rfl
theorem tf96_8 : tF Tryd.prog 96 8 = some (8, 48) := by kernel_rfl
theorem tf96_9 : tF Tryd.prog 96 9 = some (9, 93) := by kernel_rfl
theorem tf96_10 : tF Tryd.prog 96 10 = some (10, 94) := by kernel_rfl
theorem tp96 : tP Tryd.prog 96 = some (.inl [(0, 1), (1, 1), (2, 1), (3, 1), (4, 1), (5, 1), (6, 1), (7, 1), (8, 1), (9, 1), (10, 1)]) := by kernel_rfl
theorem tc96 : Tryd.prog.concrete 96 = true := by kernel_rfl
theorem tg96 : Tryd.prog.eqGuardType Tryd.prog.depth 96 = false := by kernel_rfl
attribute [go_sem] ts1 tb1 ta1 tz1 tv1 tc1 ts2 tb2 ta2 tz2 tv2 tc2 ts3 tb3 ta3 tz3 tv3 tc3 ts4 tb4 ta4 tz4 tv4 tc4 ts5 tb5 ta5 tz5 tv5 tc5 ts6 tb6 ta6 tz6 tv6 tc6 ts7 tb7 ta7 tz7 tv7 tf7_0 tf7_1 tf7_2 tf7_3 tp7 tc7 tg7 ts8 tb8 ta8 tz8 tv8 tf8_0 tf8_1 tf8_2 tf8_3 tp8 tc8 tg8 ts9 tb9 ta9 tz9 tv9 tc9 ts10 tb10 ta10 tz10 tv10 tc10 ts11 tb11 ta11 tz11 tv11 tc11 ts12 tb12 ta12 tz12 tv12 tc12 ts13 tb13 ta13 tz13 tv13 tf13_0 tf13_1 tp13 tc13 tg13 ts14 tb14 ta14 tz14 tv14 tf14_0 tf14_1 tp14 tc14 tg14 ts15 tb15 ta15 tz15 tv15 tc15 ts16 tb16 ta16 tz16 tv16 tc16 ts17 tb17 ta17 tz17 tv17 tc17 ts18 tb18 ta18 tz18 tv18 tf18_0 tp18 tc18 tg18 ts19 tb19 ta19 tz19 tv19 tf19_0 tp19 tc19 tg19 ts20 tb20 ta20 tz20 tv20 ts21 tb21 ta21 tz21 tv21 tc21 ts22 tb22 ta22 tz22 tv22 tc22 ts23 tb23 ta23 tz23 tv23 tc23 ts25 tb25 ta25 tz25 tv25 tc25 ts26 tb26 ta26 tz26 tv26 tc26 ts27 tb27 ta27 tz27 tv27 tc27 ts28 tb28 ta28 tz28 tv28 tc28 ts29 tb29 ta29 tz29 tv29 tc29 ts30 tb30 ta30 tz30 tv30 tc30 ts31 tb31 ta31 tz31 tv31 tc31 ts32 tb32 ta32 tz32 tv32 tc32 ts33 tb33 ta33 tz33 tv33 tf33_0 tf33_1 tp33 tc33 tg33 ts34 tb34 ta34 tz34 tv34 tf34_0 tf34_1 tp34 tc34 tg34 ts35 tb35 ta35 tz35 tv35 tc35 ts36 tb36 ta36 tz36 tv36 tc36 ts37 tb37 ta37 tz37 tv37 tc37 ts38 tb38 ta38 tz38 tv38 ts39 tb39 ta39 tz39 tv39 ts41 tb41 ta41 tz41 tv41 tc41 ts42 tb42 ta42 tz42 tv42 tc42 ts43 tb43 ta43 tz43 tv43 tc43 ts44 tb44 ta44 tz44 tv44 tc44 ts45 tb45 ta45 tz45 tv45 tc45 ts46 tb46 ta46 tz46 tv46 tc46 ts47 tb47 ta47 tz47 tv47 tc47 ts48 tb48 ta48 tz48 tv48 tc48 ts49 tb49 ta49 tz49 tv49 tc49 ts50 tb50 ta50 tz50 tv50 tc50 ts51 tb51 ta51 tz51 tv51 tc51 ts52 tb52 ta52 tz52 tv52 tc52 ts53 tb53 ta53 tz53 tv53 tc53 ts54 tb54 ta54 tz54 tv54 tc54 ts55 tb55 ta55 tz55 tv55 tc55 ts56 tb56 ta56 tz56 tv56 tc56 ts57 tb57 ta57 tz57 tv57 tc57 ts58 tb58 ta58 tz58 tv58 tp58 tc58 tg58 ts59 tb59 ta59 tz59 tv59 tf59_0 tp59 tc59 tg59 ts60 tb60 ta60 tz60 tv60 tf60_0 tp60 tc60 tg60 ts61 tb61 ta61 tz61 tv61 tc61 ts62 tb62 ta62 tz62 tv62 tf62_0 tf62_1 tp62 tc62 tg62 ts63 tb63 ta63 tz63 tv63 tf63_0 tf63_1 tp63 tc63 tg63 ts64 tb64 ta64 tz64 tv64 tc64 ts65 tb65 ta65 tz65 tv65 tc65 ts66 tb66 ta66 tz66 tv66 tc66 ts67 tb67 ta67 tz67 tv67 tc67 ts68 tb68 ta68 tz68 tv68 tc68 ts69 tb69 ta69 tz69 tv69 tc69 ts70 tb70 ta70 tz70 tv70 tp70 tc70 tg70 ts71 tb71 ta71 tz71 tv71 tc71 ts72 tb72 ta72 tz72 tv72 tc72 ts74 tb74 ta74 tz74 tv74 tc74 ts75 tb75 ta75 tz75 tv75 tc75 ts76 tb76 ta76 tz76 tv76 tc76 ts77 tb77 ta77 tz77 tv77 tp77 tc77 tg77 ts78 tb78 ta78 tz78 tv78 tc78 ts79 tb79 ta79 tp79 tc79 tg79 ts80 tb80 ta80 tz80 tv80 tc80 ts81 tb81 ta81 tz81 tv81 tc81 ts82 tb82 ta82 tz82 tv82 tc82 ts83 tb83 ta83 tz83 tv83 tp83 tc83 tg83 ts84 tb84 ta84 tz84 tv84 tp84 tc84 tg84 ts85 tb85 ta85 tz85 tv85 tf85_0 tf85_1 tf85_2 tf85_3 tp85 tc85 tg85 ts86 tb86 ta86 tz86 tv86 tf86_0 tf86_1 tf86_2 tf86_3 tp86 tc86 tg86 ts87 tb87 ta87 tz87 tv87 tp87 tc87 tg87 ts88 tb88 ta88 tz88 tv88 tf88_0 tp88 tc88 tg88 ts89 tb89 ta89 tz89 tv89 tf89_0 tp89 tc89 tg89 ts90 tb90 ta90 tz90 tv90 tc90 ts91 tb91 ta91 tz91 tv91 tc91 ts92 tb92 ta92 tz92 tv92 tc92 ts93 tb93 ta93 tz93 tv93 tc93 ts94 tb94 ta94 tz94 tv94 tc94 ts95 tb95 ta95 tz95 tv95 tf95_0 tf95_1 tf95_2 tf95_3 tf95_4 tf95_5 tf95_6 tf95_7 tf95_8 tf95_9 tf95_10 tp95 tc95 tg95 ts96 tb96 ta96 tz96 tv96 tf96_0 tf96_1 tf96_2 tf96_3 tf96_4 tf96_5 tf96_6 tf96_7 tf96_8 tf96_9 tf96_10 tp96 tc96 tg96
attribute [go_sem] Tryd.underlying0 Tryd.underlying1 Tryd.underlying2 Tryd.underlying3 Tryd.underlying4 Tryd.underlying5 Tryd.underlying6 Tryd.underlying7 Tryd.underlying8 Tryd.underlying9 Tryd.underlying10 Tryd.underlying11 Tryd.underlying12 Tryd.underlying13 Tryd.underlying14 Tryd.underlying15 Tryd.underlying16 Tryd.underlying17 Tryd.underlying18 Tryd.underlying19 Tryd.underlying20 Tryd.underlying21 Tryd.underlying22 Tryd.underlying23 Tryd.underlying24 Tryd.underlying25 Tryd.underlying26 Tryd.underlying27 Tryd.underlying28 Tryd.underlying29 Tryd.underlying30 Tryd.underlying31 Tryd.underlying32 Tryd.underlying33 Tryd.underlying34 Tryd.underlying35 Tryd.underlying36 Tryd.underlying37 Tryd.underlying38 Tryd.underlying39 Tryd.underlying40 Tryd.underlying41 Tryd.underlying42 Tryd.underlying43 Tryd.underlying44 Tryd.underlying45 Tryd.underlying46 Tryd.underlying47 Tryd.underlying48 Tryd.underlying49 Tryd.underlying50 Tryd.underlying51 Tryd.underlying52 Tryd.underlying53 Tryd.underlying54 Tryd.underlying55 Tryd.underlying56 Tryd.underlying57 Tryd.underlying58 Tryd.underlying59 Tryd.underlying60 Tryd.underlying61 Tryd.underlying62 Tryd.underlying63 Tryd.underlying64 Tryd.underlying65 Tryd.underlying66 Tryd.underlying67 Tryd.underlying68 Tryd.underlying69 Tryd.underlying70 Tryd.underlying71 Tryd.underlying72 Tryd.underlying73 Tryd.underlying74 Tryd.underlying75 Tryd.underlying76 Tryd.underlying77 Tryd.underlying78 Tryd.underlying79 Tryd.underlying80 Tryd.underlying81 Tryd.underlying82 Tryd.underlying83 Tryd.underlying84 Tryd.underlying85 Tryd.underlying86 Tryd.underlying87 Tryd.underlying88 Tryd.underlying89 Tryd.underlying90 Tryd.underlying91 Tryd.underlying92 Tryd.underlying93 Tryd.underlying94 Tryd.underlying95 Tryd.underlying96
end Go.Proofs.YtlclcdhbeeaikaaDoor
