/-
  The facts on the types of the translation: sizes, zero values, fields. Written by a program.
-/
import Derived.Test.YthcdjconlfdidaaDoorAwB
import Derived.Test.YthcdjconlfdidaaDoorProg
import Derived.KernelRfl
namespace Go.Proofs.YthcdjconlfdidaaDoor
open Go.Aw Go.Proofs

theorem ts1 : tS Tryd.prog 1 = some 1 := by kernel_rfl
theorem tb1 : tB Tryd.prog 1 = some 8 := by kernel_rfl
theorem ta1 : tA Tryd.prog 1 = some false := by kernel_rfl
theorem tz1 : tZ Tryd.prog 1 = some [.nilFunc] := by kernel_rfl
theorem tv1 : tV Tryd.prog 1 = some (.nilFunc) := by kernel_rfl
theorem tc1 : Tryd.prog.concrete 1 = true := by kernel_rfl
theorem ts2 : tS Tryd.prog 2 = some 1 := by kernel_rfl
theorem tb2 : tB Tryd.prog 2 = some 8 := by kernel_rfl
theorem ta2 : tA Tryd.prog 2 = some false := by kernel_rfl
theorem tz2 : tZ Tryd.prog 2 = some [.int .i64 0] := by kernel_rfl
theorem tv2 : tV Tryd.prog 2 = some (.int .i64 0) := by kernel_rfl
theorem tc2 : Tryd.prog.concrete 2 = true := by kernel_rfl
theorem ts3 : tS Tryd.prog 3 = some 1 := by kernel_rfl
theorem tb3 : tB Tryd.prog 3 = some 8 := by kernel_rfl
theorem ta3 : tA Tryd.prog 3 = some false := by kernel_rfl
theorem tz3 : tZ Tryd.prog 3 = some [.int .i64 0] := by kernel_rfl
theorem tv3 : tV Tryd.prog 3 = some (.int .i64 0) := by kernel_rfl
theorem tc3 : Tryd.prog.concrete 3 = true := by kernel_rfl
theorem ts4 : tS Tryd.prog 4 = some 1 := by kernel_rfl
theorem tb4 : tB Tryd.prog 4 = some 1 := by kernel_rfl
theorem ta4 : tA Tryd.prog 4 = some false := by kernel_rfl
theorem tz4 : tZ Tryd.prog 4 = some [.bool false] := by kernel_rfl
theorem tv4 : tV Tryd.prog 4 = some (.bool false) := by kernel_rfl
theorem tc4 : Tryd.prog.concrete 4 = true := by kernel_rfl
theorem ts5 : tS Tryd.prog 5 = some 1 := by kernel_rfl
theorem tb5 : tB Tryd.prog 5 = some 1 := by kernel_rfl
theorem ta5 : tA Tryd.prog 5 = some false := by kernel_rfl
theorem tz5 : tZ Tryd.prog 5 = some [.int .u8 0] := by kernel_rfl
theorem tv5 : tV Tryd.prog 5 = some (.int .u8 0) := by kernel_rfl
theorem tc5 : Tryd.prog.concrete 5 = true := by kernel_rfl
theorem ts6 : tS Tryd.prog 6 = some 1 := by kernel_rfl
theorem tb6 : tB Tryd.prog 6 = some 1 := by kernel_rfl
theorem ta6 : tA Tryd.prog 6 = some false := by kernel_rfl
theorem tz6 : tZ Tryd.prog 6 = some [.int .u8 0] := by kernel_rfl
theorem tv6 : tV Tryd.prog 6 = some (.int .u8 0) := by kernel_rfl
theorem tc6 : Tryd.prog.concrete 6 = true := by kernel_rfl
theorem ts7 : tS Tryd.prog 7 = some 4 := by kernel_rfl
theorem tb7 : tB Tryd.prog 7 = some 24 := by kernel_rfl
theorem ta7 : tA Tryd.prog 7 = some true := by kernel_rfl
theorem tz7 : tZ Tryd.prog 7 = some [.int .i64 0, .int .i64 0, .bool false, .int .u8 0] := by kernel_rfl
theorem tv7 : tV Tryd.prog 7 = some (.agg ⟨[.int .i64 0, .int .i64 0, .bool false, .int .u8 0]⟩) := by kernel_rfl
theorem tf7_0 : tF Tryd.prog 7 0 = some (0, 2) := by kernel_rfl
theorem tf7_1 : tF Tryd.prog 7 1 = some (1, 3) := by kernel_rfl
theorem tf7_2 : tF Tryd.prog 7 2 = some (2, 4) := by kernel_rfl
theorem tf7_3 : tF Tryd.prog 7 3 = some (3, 6) := by kernel_rfl
theorem tp7 : tP Tryd.prog 7 = some (.inl [(0, 1), (1, 1), (2, 1), (3, 1)]) := by kernel_rfl
theorem tc7 : Tryd.prog.concrete 7 = true := by kernel_rfl
theorem tg7 : Tryd.prog.eqGuardType Tryd.prog.depth 7 = false := by kernel_rfl
theorem ts8 : tS Tryd.prog 8 = some 4 := by kernel_rfl
theorem tb8 : tB Tryd.prog 8 = some 24 := by kernel_rfl
theorem ta8 : tA Tryd.prog 8 = some true := by kernel_rfl
theorem tz8 : tZ Tryd.prog 8 = some [.int .i64 0, .int .i64 0, .bool false, .int .u8 0] := by kernel_rfl
theorem tv8 : tV Tryd.prog 8 = some (.agg ⟨[.int .i64 0, .int .i64 0, .bool false, .int .u8 0]⟩) := by kernel_rfl
theorem tf8_0 : tF Tryd.prog 8 0 = some (0, 2) := by kernel_rfl
theorem tf8_1 : tF Tryd.prog 8 1 = some (1, 3) := by kernel_rfl
theorem tf8_2 : tF Tryd.prog 8 2 = some (2, 4) := by kernel_rfl
theorem tf8_3 : tF Tryd.prog 8 3 = some (3, 6) := by kernel_rfl
theorem tp8 : tP Tryd.prog 8 = some (.inl [(0, 1), (1, 1), (2, 1), (3, 1)]) := by kernel_rfl
theorem tc8 : Tryd.prog.concrete 8 = true := by kernel_rfl
theorem tg8 : Tryd.prog.eqGuardType Tryd.prog.depth 8 = false := by kernel_rfl
theorem ts9 : tS Tryd.prog 9 = some 1 := by kernel_rfl
theorem tb9 : tB Tryd.prog 9 = some 16 := by kernel_rfl
theorem ta9 : tA Tryd.prog 9 = some false := by kernel_rfl
theorem tz9 : tZ Tryd.prog 9 = some [.string (bs [])] := by kernel_rfl
theorem tv9 : tV Tryd.prog 9 = some (.string (bs [])) := by kernel_rfl
theorem tc9 : Tryd.prog.concrete 9 = true := by kernel_rfl
theorem ts10 : tS Tryd.prog 10 = some 1 := by kernel_rfl
theorem tb10 : tB Tryd.prog 10 = some 16 := by kernel_rfl
theorem ta10 : tA Tryd.prog 10 = some false := by kernel_rfl
theorem tz10 : tZ Tryd.prog 10 = some [.string (bs [])] := by kernel_rfl
theorem tv10 : tV Tryd.prog 10 = some (.string (bs [])) := by kernel_rfl
theorem tc10 : Tryd.prog.concrete 10 = true := by kernel_rfl
theorem ts11 : tS Tryd.prog 11 = some 1 := by kernel_rfl
theorem tb11 : tB Tryd.prog 11 = some 16 := by kernel_rfl
theorem ta11 : tA Tryd.prog 11 = some false := by kernel_rfl
theorem tz11 : tZ Tryd.prog 11 = some [.string (bs [])] := by kernel_rfl
theorem tv11 : tV Tryd.prog 11 = some (.string (bs [])) := by kernel_rfl
theorem tc11 : Tryd.prog.concrete 11 = true := by kernel_rfl
theorem ts12 : tS Tryd.prog 12 = some 1 := by kernel_rfl
theorem tb12 : tB Tryd.prog 12 = some 8 := by kernel_rfl
theorem ta12 : tA Tryd.prog 12 = some false := by kernel_rfl
theorem tz12 : tZ Tryd.prog 12 = some [.int .u64 0] := by kernel_rfl
theorem tv12 : tV Tryd.prog 12 = some (.int .u64 0) := by kernel_rfl
theorem tc12 : Tryd.prog.concrete 12 = true := by kernel_rfl
theorem ts13 : tS Tryd.prog 13 = some 2 := by kernel_rfl
theorem tb13 : tB Tryd.prog 13 = some 24 := by kernel_rfl
theorem ta13 : tA Tryd.prog 13 = some true := by kernel_rfl
theorem tz13 : tZ Tryd.prog 13 = some [.string (bs []), .int .u64 0] := by kernel_rfl
theorem tv13 : tV Tryd.prog 13 = some (.agg ⟨[.string (bs []), .int .u64 0]⟩) := by kernel_rfl
theorem tf13_0 : tF Tryd.prog 13 0 = some (0, 9) := by kernel_rfl
theorem tf13_1 : tF Tryd.prog 13 1 = some (1, 12) := by kernel_rfl
theorem tp13 : tP Tryd.prog 13 = some (.inl [(0, 1), (1, 1)]) := by kernel_rfl
theorem tc13 : Tryd.prog.concrete 13 = true := by kernel_rfl
theorem tg13 : Tryd.prog.eqGuardType Tryd.prog.depth 13 = false := by kernel_rfl
theorem ts14 : tS Tryd.prog 14 = some 2 := by kernel_rfl
theorem tb14 : tB Tryd.prog 14 = some 24 := by kernel_rfl
theorem ta14 : tA Tryd.prog 14 = some true := by kernel_rfl
theorem tz14 : tZ Tryd.prog 14 = some [.string (bs []), .int .u64 0] := by kernel_rfl
theorem tv14 : tV Tryd.prog 14 = some (.agg ⟨[.string (bs []), .int .u64 0]⟩) := by kernel_rfl
theorem tf14_0 : tF Tryd.prog 14 0 = some (0, 9) := by kernel_rfl
theorem tf14_1 : tF Tryd.prog 14 1 = some (1, 12) := by kernel_rfl
theorem tp14 : tP Tryd.prog 14 = some (.inl [(0, 1), (1, 1)]) := by kernel_rfl
theorem tc14 : Tryd.prog.concrete 14 = true := by kernel_rfl
theorem tg14 : Tryd.prog.eqGuardType Tryd.prog.depth 14 = false := by kernel_rfl
theorem ts15 : tS Tryd.prog 15 = some 1 := by kernel_rfl
theorem tb15 : tB Tryd.prog 15 = some 8 := by kernel_rfl
theorem ta15 : tA Tryd.prog 15 = some false := by kernel_rfl
theorem tz15 : tZ Tryd.prog 15 = some [.pointer none] := by kernel_rfl
theorem tv15 : tV Tryd.prog 15 = some (.pointer none) := by kernel_rfl
theorem tc15 : Tryd.prog.concrete 15 = true := by kernel_rfl
theorem ts16 : tS Tryd.prog 16 = some 1 := by kernel_rfl
theorem tb16 : tB Tryd.prog 16 = some 8 := by kernel_rfl
theorem ta16 : tA Tryd.prog 16 = some false := by kernel_rfl
theorem tz16 : tZ Tryd.prog 16 = some [.pointer none] := by kernel_rfl
theorem tv16 : tV Tryd.prog 16 = some (.pointer none) := by kernel_rfl
theorem tc16 : Tryd.prog.concrete 16 = true := by kernel_rfl
theorem ts17 : tS Tryd.prog 17 = some 1 := by kernel_rfl
theorem tb17 : tB Tryd.prog 17 = some 8 := by kernel_rfl
theorem ta17 : tA Tryd.prog 17 = some false := by kernel_rfl
theorem tz17 : tZ Tryd.prog 17 = some [.pointer none] := by kernel_rfl
theorem tv17 : tV Tryd.prog 17 = some (.pointer none) := by kernel_rfl
theorem tc17 : Tryd.prog.concrete 17 = true := by kernel_rfl
theorem ts18 : tS Tryd.prog 18 = some 1 := by kernel_rfl
theorem tb18 : tB Tryd.prog 18 = some 8 := by kernel_rfl
theorem ta18 : tA Tryd.prog 18 = some true := by kernel_rfl
theorem tz18 : tZ Tryd.prog 18 = some [.pointer none] := by kernel_rfl
theorem tv18 : tV Tryd.prog 18 = some (.agg ⟨[.pointer none]⟩) := by kernel_rfl
theorem tf18_0 : tF Tryd.prog 18 0 = some (0, 17) := by kernel_rfl
theorem tp18 : tP Tryd.prog 18 = some (.inl [(0, 1)]) := by kernel_rfl
theorem tc18 : Tryd.prog.concrete 18 = true := by kernel_rfl
theorem tg18 : Tryd.prog.eqGuardType Tryd.prog.depth 18 = false := by kernel_rfl
theorem ts19 : tS Tryd.prog 19 = some 1 := by kernel_rfl
theorem tb19 : tB Tryd.prog 19 = some 8 := by kernel_rfl
theorem ta19 : tA Tryd.prog 19 = some true := by kernel_rfl
theorem tz19 : tZ Tryd.prog 19 = some [.pointer none] := by kernel_rfl
theorem tv19 : tV Tryd.prog 19 = some (.agg ⟨[.pointer none]⟩) := by kernel_rfl
theorem tf19_0 : tF Tryd.prog 19 0 = some (0, 17) := by kernel_rfl
theorem tp19 : tP Tryd.prog 19 = some (.inl [(0, 1)]) := by kernel_rfl
theorem tc19 : Tryd.prog.concrete 19 = true := by kernel_rfl
theorem tg19 : Tryd.prog.eqGuardType Tryd.prog.depth 19 = false := by kernel_rfl
theorem ts20 : tS Tryd.prog 20 = some 1 := by kernel_rfl
theorem tb20 : tB Tryd.prog 20 = some 16 := by kernel_rfl
theorem ta20 : tA Tryd.prog 20 = some false := by kernel_rfl
theorem tz20 : tZ Tryd.prog 20 = some [.nilIface] := by kernel_rfl
theorem tv20 : tV Tryd.prog 20 = some (.nilIface) := by kernel_rfl
theorem ts21 : tS Tryd.prog 21 = some 1 := by kernel_rfl
theorem tb21 : tB Tryd.prog 21 = some 4 := by kernel_rfl
theorem ta21 : tA Tryd.prog 21 = some false := by kernel_rfl
theorem tz21 : tZ Tryd.prog 21 = some [.int .i32 0] := by kernel_rfl
theorem tv21 : tV Tryd.prog 21 = some (.int .i32 0) := by kernel_rfl
theorem tc21 : Tryd.prog.concrete 21 = true := by kernel_rfl
theorem ts22 : tS Tryd.prog 22 = some 1 := by kernel_rfl
theorem tb22 : tB Tryd.prog 22 = some 8 := by kernel_rfl
theorem ta22 : tA Tryd.prog 22 = some false := by kernel_rfl
theorem tz22 : tZ Tryd.prog 22 = some [.nilFunc] := by kernel_rfl
theorem tv22 : tV Tryd.prog 22 = some (.nilFunc) := by kernel_rfl
theorem tc22 : Tryd.prog.concrete 22 = true := by kernel_rfl
theorem ts23 : tS Tryd.prog 23 = some 1 := by kernel_rfl
theorem tb23 : tB Tryd.prog 23 = some 24 := by kernel_rfl
theorem ta23 : tA Tryd.prog 23 = some false := by kernel_rfl
theorem tz23 : tZ Tryd.prog 23 = some [.slice none 0 0] := by kernel_rfl
theorem tv23 : tV Tryd.prog 23 = some (.slice none 0 0) := by kernel_rfl
theorem tc23 : Tryd.prog.concrete 23 = true := by kernel_rfl
theorem ts24 : tS Tryd.prog 24 = some 1 := by kernel_rfl
theorem tb24 : tB Tryd.prog 24 = some 24 := by kernel_rfl
theorem ta24 : tA Tryd.prog 24 = some false := by kernel_rfl
theorem tz24 : tZ Tryd.prog 24 = some [.slice none 0 0] := by kernel_rfl
theorem tv24 : tV Tryd.prog 24 = some (.slice none 0 0) := by kernel_rfl
theorem tc24 : Tryd.prog.concrete 24 = true := by kernel_rfl
theorem ts25 : tS Tryd.prog 25 = some 5 := by kernel_rfl
theorem tb25 : tB Tryd.prog 25 = some 80 := by kernel_rfl
theorem ta25 : tA Tryd.prog 25 = some true := by kernel_rfl
theorem tz25 : tZ Tryd.prog 25 = some [.int .i64 0, .int .i64 0, .string (bs []), .slice none 0 0, .slice none 0 0] := by kernel_rfl
theorem tv25 : tV Tryd.prog 25 = some (.agg ⟨[.int .i64 0, .int .i64 0, .string (bs []), .slice none 0 0, .slice none 0 0]⟩) := by kernel_rfl
theorem tf25_0 : tF Tryd.prog 25 0 = some (0, 3) := by kernel_rfl
theorem tf25_1 : tF Tryd.prog 25 1 = some (1, 3) := by kernel_rfl
theorem tf25_2 : tF Tryd.prog 25 2 = some (2, 9) := by kernel_rfl
theorem tf25_3 : tF Tryd.prog 25 3 = some (3, 23) := by kernel_rfl
theorem tf25_4 : tF Tryd.prog 25 4 = some (4, 24) := by kernel_rfl
theorem tp25 : tP Tryd.prog 25 = some (.inl [(0, 1), (1, 1), (2, 1), (3, 1), (4, 1)]) := by kernel_rfl
theorem tc25 : Tryd.prog.concrete 25 = true := by kernel_rfl
theorem tg25 : Tryd.prog.eqGuardType Tryd.prog.depth 25 = false := by kernel_rfl
theorem ts26 : tS Tryd.prog 26 = some 5 := by kernel_rfl
theorem tb26 : tB Tryd.prog 26 = some 80 := by kernel_rfl
theorem ta26 : tA Tryd.prog 26 = some true := by kernel_rfl
theorem tz26 : tZ Tryd.prog 26 = some [.int .i64 0, .int .i64 0, .string (bs []), .slice none 0 0, .slice none 0 0] := by kernel_rfl
theorem tv26 : tV Tryd.prog 26 = some (.agg ⟨[.int .i64 0, .int .i64 0, .string (bs []), .slice none 0 0, .slice none 0 0]⟩) := by kernel_rfl
theorem tf26_0 : tF Tryd.prog 26 0 = some (0, 3) := by kernel_rfl
theorem tf26_1 : tF Tryd.prog 26 1 = some (1, 3) := by kernel_rfl
theorem tf26_2 : tF Tryd.prog 26 2 = some (2, 9) := by kernel_rfl
theorem tf26_3 : tF Tryd.prog 26 3 = some (3, 23) := by kernel_rfl
theorem tf26_4 : tF Tryd.prog 26 4 = some (4, 24) := by kernel_rfl
theorem tp26 : tP Tryd.prog 26 = some (.inl [(0, 1), (1, 1), (2, 1), (3, 1), (4, 1)]) := by kernel_rfl
theorem tc26 : Tryd.prog.concrete 26 = true := by kernel_rfl
theorem tg26 : Tryd.prog.eqGuardType Tryd.prog.depth 26 = false := by kernel_rfl
theorem ts27 : tS Tryd.prog 27 = some 1 := by kernel_rfl
theorem tb27 : tB Tryd.prog 27 = some 8 := by kernel_rfl
theorem ta27 : tA Tryd.prog 27 = some false := by kernel_rfl
theorem tz27 : tZ Tryd.prog 27 = some [.int .i64 0] := by kernel_rfl
theorem tv27 : tV Tryd.prog 27 = some (.int .i64 0) := by kernel_rfl
theorem tc27 : Tryd.prog.concrete 27 = true := by kernel_rfl
theorem ts29 : tS Tryd.prog 29 = some 1 := by kernel_rfl
theorem tb29 : tB Tryd.prog 29 = some 8 := by kernel_rfl
theorem ta29 : tA Tryd.prog 29 = some false := by kernel_rfl
theorem tz29 : tZ Tryd.prog 29 = some [.nilFunc] := by kernel_rfl
theorem tv29 : tV Tryd.prog 29 = some (.nilFunc) := by kernel_rfl
theorem tc29 : Tryd.prog.concrete 29 = true := by kernel_rfl
theorem ts31 : tS Tryd.prog 31 = some 1 := by kernel_rfl
theorem tb31 : tB Tryd.prog 31 = some 8 := by kernel_rfl
theorem ta31 : tA Tryd.prog 31 = some false := by kernel_rfl
theorem tz31 : tZ Tryd.prog 31 = some [.nilFunc] := by kernel_rfl
theorem tv31 : tV Tryd.prog 31 = some (.nilFunc) := by kernel_rfl
theorem tc31 : Tryd.prog.concrete 31 = true := by kernel_rfl
theorem ts32 : tS Tryd.prog 32 = some 1 := by kernel_rfl
theorem tb32 : tB Tryd.prog 32 = some 8 := by kernel_rfl
theorem ta32 : tA Tryd.prog 32 = some false := by kernel_rfl
theorem tz32 : tZ Tryd.prog 32 = some [.nilFunc] := by kernel_rfl
theorem tv32 : tV Tryd.prog 32 = some (.nilFunc) := by kernel_rfl
theorem tc32 : Tryd.prog.concrete 32 = true := by kernel_rfl
theorem ts34 : tS Tryd.prog 34 = some 1 := by kernel_rfl
theorem tb34 : tB Tryd.prog 34 = some 8 := by kernel_rfl
theorem ta34 : tA Tryd.prog 34 = some false := by kernel_rfl
theorem tz34 : tZ Tryd.prog 34 = some [.nilFunc] := by kernel_rfl
theorem tv34 : tV Tryd.prog 34 = some (.nilFunc) := by kernel_rfl
theorem tc34 : Tryd.prog.concrete 34 = true := by kernel_rfl
theorem ts35 : tS Tryd.prog 35 = some 1 := by kernel_rfl
theorem tb35 : tB Tryd.prog 35 = some 8 := by kernel_rfl
theorem ta35 : tA Tryd.prog 35 = some false := by kernel_rfl
theorem tz35 : tZ Tryd.prog 35 = some [.nilFunc] := by kernel_rfl
theorem tv35 : tV Tryd.prog 35 = some (.nilFunc) := by kernel_rfl
theorem tc35 : Tryd.prog.concrete 35 = true := by kernel_rfl
theorem ts36 : tS Tryd.prog 36 = some 1 := by kernel_rfl
theorem tb36 : tB Tryd.prog 36 = some 8 := by kernel_rfl
theorem ta36 : tA Tryd.prog 36 = some false := by kernel_rfl
theorem tz36 : tZ Tryd.prog 36 = some [.nilFunc] := by kernel_rfl
theorem tv36 : tV Tryd.prog 36 = some (.nilFunc) := by kernel_rfl
theorem tc36 : Tryd.prog.concrete 36 = true := by kernel_rfl
theorem ts37 : tS Tryd.prog 37 = some 1 := by kernel_rfl
theorem tb37 : tB Tryd.prog 37 = some 8 := by kernel_rfl
theorem ta37 : tA Tryd.prog 37 = some false := by kernel_rfl
theorem tz37 : tZ Tryd.prog 37 = some [.nilFunc] := by kernel_rfl
theorem tv37 : tV Tryd.prog 37 = some (.nilFunc) := by kernel_rfl
theorem tc37 : Tryd.prog.concrete 37 = true := by kernel_rfl
theorem ts38 : tS Tryd.prog 38 = some 1 := by kernel_rfl
theorem tb38 : tB Tryd.prog 38 = some 8 := by kernel_rfl
theorem ta38 : tA Tryd.prog 38 = some false := by kernel_rfl
theorem tz38 : tZ Tryd.prog 38 = some [.nilFunc] := by kernel_rfl
theorem tv38 : tV Tryd.prog 38 = some (.nilFunc) := by kernel_rfl
theorem tc38 : Tryd.prog.concrete 38 = true := by kernel_rfl
theorem ts40 : tS Tryd.prog 40 = some 1 := by kernel_rfl
theorem tb40 : tB Tryd.prog 40 = some 8 := by kernel_rfl
theorem ta40 : tA Tryd.prog 40 = some false := by kernel_rfl
theorem tz40 : tZ Tryd.prog 40 = some [.nilFunc] := by kernel_rfl
theorem tv40 : tV Tryd.prog 40 = some (.nilFunc) := by kernel_rfl
theorem tc40 : Tryd.prog.concrete 40 = true := by kernel_rfl
theorem ts41 : tS Tryd.prog 41 = some 1 := by kernel_rfl
theorem tb41 : tB Tryd.prog 41 = some 8 := by kernel_rfl
theorem ta41 : tA Tryd.prog 41 = some false := by kernel_rfl
theorem tz41 : tZ Tryd.prog 41 = some [.nilFunc] := by kernel_rfl
theorem tv41 : tV Tryd.prog 41 = some (.nilFunc) := by kernel_rfl
theorem tc41 : Tryd.prog.concrete 41 = true := by kernel_rfl
theorem ts42 : tS Tryd.prog 42 = some 1 := by kernel_rfl
theorem tb42 : tB Tryd.prog 42 = some 8 := by kernel_rfl
theorem ta42 : tA Tryd.prog 42 = some false := by kernel_rfl
theorem tz42 : tZ Tryd.prog 42 = some [.nilFunc] := by kernel_rfl
theorem tv42 : tV Tryd.prog 42 = some (.nilFunc) := by kernel_rfl
theorem tc42 : Tryd.prog.concrete 42 = true := by kernel_rfl
theorem ts43 : tS Tryd.prog 43 = some 1 := by kernel_rfl
theorem tb43 : tB Tryd.prog 43 = some 8 := by kernel_rfl
theorem ta43 : tA Tryd.prog 43 = some false := by kernel_rfl
theorem tz43 : tZ Tryd.prog 43 = some [.nilFunc] := by kernel_rfl
theorem tv43 : tV Tryd.prog 43 = some (.nilFunc) := by kernel_rfl
theorem tc43 : Tryd.prog.concrete 43 = true := by kernel_rfl
theorem ts44 : tS Tryd.prog 44 = some 1 := by kernel_rfl
theorem tb44 : tB Tryd.prog 44 = some 8 := by kernel_rfl
theorem ta44 : tA Tryd.prog 44 = some false := by kernel_rfl
theorem tz44 : tZ Tryd.prog 44 = some [.nilFunc] := by kernel_rfl
theorem tv44 : tV Tryd.prog 44 = some (.nilFunc) := by kernel_rfl
theorem tc44 : Tryd.prog.concrete 44 = true := by kernel_rfl
theorem ts45 : tS Tryd.prog 45 = some 2 := by kernel_rfl
theorem tb45 : tB Tryd.prog 45 = some 16 := by kernel_rfl
theorem ta45 : tA Tryd.prog 45 = some true := by kernel_rfl
theorem tz45 : tZ Tryd.prog 45 = some [.int .i64 0, .int .i64 0] := by kernel_rfl
theorem tv45 : tV Tryd.prog 45 = some (.agg ⟨[.int .i64 0, .int .i64 0]⟩) := by kernel_rfl
theorem tf45_0 : tF Tryd.prog 45 0 = some (0, 3) := by kernel_rfl
theorem tf45_1 : tF Tryd.prog 45 1 = some (1, 27) := by kernel_rfl
theorem tp45 : tP Tryd.prog 45 = some (.inl [(0, 1), (1, 1)]) := by kernel_rfl
theorem tc45 : Tryd.prog.concrete 45 = true := by kernel_rfl
theorem tg45 : Tryd.prog.eqGuardType Tryd.prog.depth 45 = false := by kernel_rfl
theorem ts46 : tS Tryd.prog 46 = some 2 := by kernel_rfl
theorem tb46 : tB Tryd.prog 46 = some 16 := by kernel_rfl
theorem ta46 : tA Tryd.prog 46 = some true := by kernel_rfl
theorem tz46 : tZ Tryd.prog 46 = some [.int .i64 0, .int .i64 0] := by kernel_rfl
theorem tv46 : tV Tryd.prog 46 = some (.agg ⟨[.int .i64 0, .int .i64 0]⟩) := by kernel_rfl
theorem tf46_0 : tF Tryd.prog 46 0 = some (0, 3) := by kernel_rfl
theorem tf46_1 : tF Tryd.prog 46 1 = some (1, 27) := by kernel_rfl
theorem tp46 : tP Tryd.prog 46 = some (.inl [(0, 1), (1, 1)]) := by kernel_rfl
theorem tc46 : Tryd.prog.concrete 46 = true := by kernel_rfl
theorem tg46 : Tryd.prog.eqGuardType Tryd.prog.depth 46 = false := by kernel_rfl
theorem ts48 : tS Tryd.prog 48 = some 1 := by kernel_rfl
theorem tb48 : tB Tryd.prog 48 = some 8 := by kernel_rfl
theorem ta48 : tA Tryd.prog 48 = some false := by kernel_rfl
theorem tz48 : tZ Tryd.prog 48 = some [.pointer none] := by kernel_rfl
theorem tv48 : tV Tryd.prog 48 = some (.pointer none) := by kernel_rfl
theorem tc48 : Tryd.prog.concrete 48 = true := by kernel_rfl
theorem ts49 : tS Tryd.prog 49 = some 3 := by kernel_rfl
theorem tb49 : tB Tryd.prog 49 = some 32 := by kernel_rfl
theorem ta49 : tA Tryd.prog 49 = some true := by kernel_rfl
theorem tz49 : tZ Tryd.prog 49 = some [.string (bs []), .int .i64 0, .int .i64 0] := by kernel_rfl
theorem tv49 : tV Tryd.prog 49 = some (.agg ⟨[.string (bs []), .int .i64 0, .int .i64 0]⟩) := by kernel_rfl
theorem tf49_0 : tF Tryd.prog 49 0 = some (0, 9) := by kernel_rfl
theorem tf49_1 : tF Tryd.prog 49 1 = some (1, 3) := by kernel_rfl
theorem tf49_2 : tF Tryd.prog 49 2 = some (2, 3) := by kernel_rfl
theorem tp49 : tP Tryd.prog 49 = some (.inl [(0, 1), (1, 1), (2, 1)]) := by kernel_rfl
theorem tc49 : Tryd.prog.concrete 49 = true := by kernel_rfl
theorem tg49 : Tryd.prog.eqGuardType Tryd.prog.depth 49 = false := by kernel_rfl
theorem ts50 : tS Tryd.prog 50 = some 3 := by kernel_rfl
theorem tb50 : tB Tryd.prog 50 = some 32 := by kernel_rfl
theorem ta50 : tA Tryd.prog 50 = some true := by kernel_rfl
theorem tz50 : tZ Tryd.prog 50 = some [.string (bs []), .int .i64 0, .int .i64 0] := by kernel_rfl
theorem tv50 : tV Tryd.prog 50 = some (.agg ⟨[.string (bs []), .int .i64 0, .int .i64 0]⟩) := by kernel_rfl
theorem tf50_0 : tF Tryd.prog 50 0 = some (0, 9) := by kernel_rfl
theorem tf50_1 : tF Tryd.prog 50 1 = some (1, 3) := by kernel_rfl
theorem tf50_2 : tF Tryd.prog 50 2 = some (2, 3) := by kernel_rfl
theorem tp50 : tP Tryd.prog 50 = some (.inl [(0, 1), (1, 1), (2, 1)]) := by kernel_rfl
theorem tc50 : Tryd.prog.concrete 50 = true := by kernel_rfl
theorem tg50 : Tryd.prog.eqGuardType Tryd.prog.depth 50 = false := by kernel_rfl
theorem ts51 : tS Tryd.prog 51 = some 1 := by kernel_rfl
theorem tb51 : tB Tryd.prog 51 = some 8 := by kernel_rfl
theorem ta51 : tA Tryd.prog 51 = some false := by kernel_rfl
theorem tz51 : tZ Tryd.prog 51 = some [.nilFunc] := by kernel_rfl
theorem tv51 : tV Tryd.prog 51 = some (.nilFunc) := by kernel_rfl
theorem tc51 : Tryd.prog.concrete 51 = true := by kernel_rfl
theorem ts52 : tS Tryd.prog 52 = some 1 := by kernel_rfl
theorem tb52 : tB Tryd.prog 52 = some 8 := by kernel_rfl
theorem ta52 : tA Tryd.prog 52 = some false := by kernel_rfl
theorem tz52 : tZ Tryd.prog 52 = some [.pointer none] := by kernel_rfl
theorem tv52 : tV Tryd.prog 52 = some (.pointer none) := by kernel_rfl
theorem tc52 : Tryd.prog.concrete 52 = true := by kernel_rfl
theorem ts53 : tS Tryd.prog 53 = some 5 := by kernel_rfl
theorem tb53 : tB Tryd.prog 53 = some 48 := by kernel_rfl
theorem ta53 : tA Tryd.prog 53 = some true := by kernel_rfl
theorem tz53 : tZ Tryd.prog 53 = some [.string (bs []), .int .i64 0, .int .i64 0, .int .i64 0, .int .i64 0] := by kernel_rfl
theorem tv53 : tV Tryd.prog 53 = some (.agg ⟨[.string (bs []), .int .i64 0, .int .i64 0, .int .i64 0, .int .i64 0]⟩) := by kernel_rfl
theorem tf53_0 : tF Tryd.prog 53 0 = some (0, 9) := by kernel_rfl
theorem tf53_1 : tF Tryd.prog 53 1 = some (1, 3) := by kernel_rfl
theorem tf53_2 : tF Tryd.prog 53 2 = some (2, 3) := by kernel_rfl
theorem tf53_3 : tF Tryd.prog 53 3 = some (3, 3) := by kernel_rfl
theorem tf53_4 : tF Tryd.prog 53 4 = some (4, 27) := by kernel_rfl
theorem tp53 : tP Tryd.prog 53 = some (.inl [(0, 1), (1, 1), (2, 1), (3, 1), (4, 1)]) := by kernel_rfl
theorem tc53 : Tryd.prog.concrete 53 = true := by kernel_rfl
theorem tg53 : Tryd.prog.eqGuardType Tryd.prog.depth 53 = false := by kernel_rfl
theorem ts54 : tS Tryd.prog 54 = some 5 := by kernel_rfl
theorem tb54 : tB Tryd.prog 54 = some 48 := by kernel_rfl
theorem ta54 : tA Tryd.prog 54 = some true := by kernel_rfl
theorem tz54 : tZ Tryd.prog 54 = some [.string (bs []), .int .i64 0, .int .i64 0, .int .i64 0, .int .i64 0] := by kernel_rfl
theorem tv54 : tV Tryd.prog 54 = some (.agg ⟨[.string (bs []), .int .i64 0, .int .i64 0, .int .i64 0, .int .i64 0]⟩) := by kernel_rfl
theorem tf54_0 : tF Tryd.prog 54 0 = some (0, 9) := by kernel_rfl
theorem tf54_1 : tF Tryd.prog 54 1 = some (1, 3) := by kernel_rfl
theorem tf54_2 : tF Tryd.prog 54 2 = some (2, 3) := by kernel_rfl
theorem tf54_3 : tF Tryd.prog 54 3 = some (3, 3) := by kernel_rfl
theorem tf54_4 : tF Tryd.prog 54 4 = some (4, 27) := by kernel_rfl
theorem tp54 : tP Tryd.prog 54 = some (.inl [(0, 1), (1, 1), (2, 1), (3, 1), (4, 1)]) := by kernel_rfl
theorem tc54 : Tryd.prog.concrete 54 = true := by kernel_rfl
theorem tg54 : Tryd.prog.eqGuardType Tryd.prog.depth 54 = false := by kernel_rfl
theorem ts55 : tS Tryd.prog 55 = some 1 := by kernel_rfl
theorem tb55 : tB Tryd.prog 55 = some 8 := by kernel_rfl
theorem ta55 : tA Tryd.prog 55 = some false := by kernel_rfl
theorem tz55 : tZ Tryd.prog 55 = some [.nilFunc] := by kernel_rfl
theorem tv55 : tV Tryd.prog 55 = some (.nilFunc) := by kernel_rfl
theorem tc55 : Tryd.prog.concrete 55 = true := by kernel_rfl
theorem ts56 : tS Tryd.prog 56 = some 1 := by kernel_rfl
theorem tb56 : tB Tryd.prog 56 = some 8 := by kernel_rfl
theorem ta56 : tA Tryd.prog 56 = some false := by kernel_rfl
theorem tz56 : tZ Tryd.prog 56 = some [.nilFunc] := by kernel_rfl
theorem tv56 : tV Tryd.prog 56 = some (.nilFunc) := by kernel_rfl
theorem tc56 : Tryd.prog.concrete 56 = true := by kernel_rfl
theorem ts57 : tS Tryd.prog 57 = some 1 := by kernel_rfl
theorem tb57 : tB Tryd.prog 57 = some 8 := by kernel_rfl
theorem ta57 : tA Tryd.prog 57 = some false := by kernel_rfl
theorem tz57 : tZ Tryd.prog 57 = some [.pointer none] := by kernel_rfl
theorem tv57 : tV Tryd.prog 57 = some (.pointer none) := by kernel_rfl
theorem tc57 : Tryd.prog.concrete 57 = true := by kernel_rfl
theorem ts58 : tS Tryd.prog 58 = some 2 := by kernel_rfl
theorem tb58 : tB Tryd.prog 58 = some 16 := by kernel_rfl
theorem ta58 : tA Tryd.prog 58 = some true := by kernel_rfl
theorem tz58 : tZ Tryd.prog 58 = some [.int .i64 0, .int .i64 0] := by kernel_rfl
theorem tv58 : tV Tryd.prog 58 = some (.agg ⟨[.int .i64 0, .int .i64 0]⟩) := by kernel_rfl
theorem tf58_0 : tF Tryd.prog 58 0 = some (0, 3) := by kernel_rfl
theorem tf58_1 : tF Tryd.prog 58 1 = some (1, 3) := by kernel_rfl
theorem tp58 : tP Tryd.prog 58 = some (.inl [(0, 1), (1, 1)]) := by kernel_rfl
theorem tc58 : Tryd.prog.concrete 58 = true := by kernel_rfl
theorem tg58 : Tryd.prog.eqGuardType Tryd.prog.depth 58 = false := by kernel_rfl
theorem ts59 : tS Tryd.prog 59 = some 2 := by kernel_rfl
theorem tb59 : tB Tryd.prog 59 = some 16 := by kernel_rfl
theorem ta59 : tA Tryd.prog 59 = some true := by kernel_rfl
theorem tz59 : tZ Tryd.prog 59 = some [.int .i64 0, .int .i64 0] := by kernel_rfl
theorem tv59 : tV Tryd.prog 59 = some (.agg ⟨[.int .i64 0, .int .i64 0]⟩) := by kernel_rfl
theorem tf59_0 : tF Tryd.prog 59 0 = some (0, 3) := by kernel_rfl
theorem tf59_1 : tF Tryd.prog 59 1 = some (1, 3) := by kernel_rfl
theorem tp59 : tP Tryd.prog 59 = some (.inl [(0, 1), (1, 1)]) := by kernel_rfl
theorem tc59 : Tryd.prog.concrete 59 = true := by kernel_rfl
theorem tg59 : Tryd.prog.eqGuardType Tryd.prog.depth 59 = false := by kernel_rfl
theorem ts60 : tS Tryd.prog 60 = some 1 := by kernel_rfl
theorem tb60 : tB Tryd.prog 60 = some 8 := by kernel_rfl
theorem ta60 : tA Tryd.prog 60 = some false := by kernel_rfl
theorem tz60 : tZ Tryd.prog 60 = some [.nilFunc] := by kernel_rfl
theorem tv60 : tV Tryd.prog 60 = some (.nilFunc) := by kernel_rfl
theorem tc60 : Tryd.prog.concrete 60 = true := by kernel_rfl
theorem ts61 : tS Tryd.prog 61 = some 1 := by kernel_rfl
theorem tb61 : tB Tryd.prog 61 = some 8 := by kernel_rfl
theorem ta61 : tA Tryd.prog 61 = some false := by kernel_rfl
theorem tz61 : tZ Tryd.prog 61 = some [.nilFunc] := by kernel_rfl
theorem tv61 : tV Tryd.prog 61 = some (.nilFunc) := by kernel_rfl
theorem tc61 : Tryd.prog.concrete 61 = true := by kernel_rfl
theorem ts62 : tS Tryd.prog 62 = some 1 := by kernel_rfl
theorem tb62 : tB Tryd.prog 62 = some 8 := by kernel_rfl
theorem ta62 : tA Tryd.prog 62 = some false := by kernel_rfl
theorem tz62 : tZ Tryd.prog 62 = some [.nilFunc] := by kernel_rfl
theorem tv62 : tV Tryd.prog 62 = some (.nilFunc) := by kernel_rfl
theorem tc62 : Tryd.prog.concrete 62 = true := by kernel_rfl
theorem ts63 : tS Tryd.prog 63 = some 1 := by kernel_rfl
theorem tb63 : tB Tryd.prog 63 = some 8 := by kernel_rfl
theorem ta63 : tA Tryd.prog 63 = some false := by kernel_rfl
theorem tz63 : tZ Tryd.prog 63 = some [.nilFunc] := by kernel_rfl
theorem tv63 : tV Tryd.prog 63 = some (.nilFunc) := by kernel_rfl
theorem tc63 : Tryd.prog.concrete 63 = true := by kernel_rfl
theorem ts65 : tS Tryd.prog 65 = some 1 := by kernel_rfl
theorem tb65 : tB Tryd.prog 65 = some 8 := by kernel_rfl
theorem ta65 : tA Tryd.prog 65 = some false := by kernel_rfl
theorem tz65 : tZ Tryd.prog 65 = some [.nilFunc] := by kernel_rfl
theorem tv65 : tV Tryd.prog 65 = some (.nilFunc) := by kernel_rfl
theorem tc65 : Tryd.prog.concrete 65 = true := by kernel_rfl
theorem ts66 : tS Tryd.prog 66 = some 1 := by kernel_rfl
theorem tb66 : tB Tryd.prog 66 = some 8 := by kernel_rfl
theorem ta66 : tA Tryd.prog 66 = some false := by kernel_rfl
theorem tz66 : tZ Tryd.prog 66 = some [.nilFunc] := by kernel_rfl
theorem tv66 : tV Tryd.prog 66 = some (.nilFunc) := by kernel_rfl
theorem tc66 : Tryd.prog.concrete 66 = true := by kernel_rfl
theorem ts67 : tS Tryd.prog 67 = some 1 := by kernel_rfl
theorem tb67 : tB Tryd.prog 67 = some 8 := by kernel_rfl
theorem ta67 : tA Tryd.prog 67 = some false := by kernel_rfl
theorem tz67 : tZ Tryd.prog 67 = some [.nilFunc] := by kernel_rfl
theorem tv67 : tV Tryd.prog 67 = some (.nilFunc) := by kernel_rfl
theorem tc67 : Tryd.prog.concrete 67 = true := by kernel_rfl
theorem ts68 : tS Tryd.prog 68 = some 1 := by kernel_rfl
theorem tb68 : tB Tryd.prog 68 = some 8 := by kernel_rfl
theorem ta68 : tA Tryd.prog 68 = some false := by kernel_rfl
theorem tz68 : tZ Tryd.prog 68 = some [.nilFunc] := by kernel_rfl
theorem tv68 : tV Tryd.prog 68 = some (.nilFunc) := by kernel_rfl
theorem tc68 : Tryd.prog.concrete 68 = true := by kernel_rfl
theorem ts69 : tS Tryd.prog 69 = some 1 := by kernel_rfl
theorem tb69 : tB Tryd.prog 69 = some 8 := by kernel_rfl
theorem ta69 : tA Tryd.prog 69 = some false := by kernel_rfl
theorem tz69 : tZ Tryd.prog 69 = some [.nilFunc] := by kernel_rfl
theorem tv69 : tV Tryd.prog 69 = some (.nilFunc) := by kernel_rfl
theorem tc69 : Tryd.prog.concrete 69 = true := by kernel_rfl
theorem ts70 : tS Tryd.prog 70 = some 1 := by kernel_rfl
theorem tb70 : tB Tryd.prog 70 = some 8 := by kernel_rfl
theorem ta70 : tA Tryd.prog 70 = some false := by kernel_rfl
theorem tz70 : tZ Tryd.prog 70 = some [.nilFunc] := by kernel_rfl
theorem tv70 : tV Tryd.prog 70 = some (.nilFunc) := by kernel_rfl
theorem tc70 : Tryd.prog.concrete 70 = true := by kernel_rfl
theorem ts71 : tS Tryd.prog 71 = some 1 := by kernel_rfl
theorem tb71 : tB Tryd.prog 71 = some 8 := by kernel_rfl
theorem ta71 : tA Tryd.prog 71 = some false := by kernel_rfl
theorem tz71 : tZ Tryd.prog 71 = some [.nilFunc] := by kernel_rfl
theorem tv71 : tV Tryd.prog 71 = some (.nilFunc) := by kernel_rfl
theorem tc71 : Tryd.prog.concrete 71 = true := by kernel_rfl
theorem ts72 : tS Tryd.prog 72 = some 1 := by kernel_rfl
theorem tb72 : tB Tryd.prog 72 = some 8 := by kernel_rfl
theorem ta72 : tA Tryd.prog 72 = some false := by kernel_rfl
theorem tz72 : tZ Tryd.prog 72 = some [.pointer none] := by kernel_rfl
theorem tv72 : tV Tryd.prog 72 = some (.pointer none) := by kernel_rfl
theorem tc72 : Tryd.prog.concrete 72 = true := by kernel_rfl
theorem ts74 : tS Tryd.prog 74 = some 1 := by kernel_rfl
theorem tb74 : tB Tryd.prog 74 = some 8 := by kernel_rfl
theorem ta74 : tA Tryd.prog 74 = some false := by kernel_rfl
theorem tz74 : tZ Tryd.prog 74 = some [.nilFunc] := by kernel_rfl
theorem tv74 : tV Tryd.prog 74 = some (.nilFunc) := by kernel_rfl
theorem tc74 : Tryd.prog.concrete 74 = true := by kernel_rfl
theorem ts75 : tS Tryd.prog 75 = some 1 := by kernel_rfl
theorem tb75 : tB Tryd.prog 75 = some 8 := by kernel_rfl
theorem ta75 : tA Tryd.prog 75 = some false := by kernel_rfl
theorem tz75 : tZ Tryd.prog 75 = some [.nilFunc] := by kernel_rfl
theorem tv75 : tV Tryd.prog 75 = some (.nilFunc) := by kernel_rfl
theorem tc75 : Tryd.prog.concrete 75 = true := by kernel_rfl
theorem ts76 : tS Tryd.prog 76 = some 1 := by kernel_rfl
theorem tb76 : tB Tryd.prog 76 = some 8 := by kernel_rfl
theorem ta76 : tA Tryd.prog 76 = some false := by kernel_rfl
theorem tz76 : tZ Tryd.prog 76 = some [.nilFunc] := by kernel_rfl
theorem tv76 : tV Tryd.prog 76 = some (.nilFunc) := by kernel_rfl
theorem tc76 : Tryd.prog.concrete 76 = true := by kernel_rfl
theorem ts77 : tS Tryd.prog 77 = some 1 := by kernel_rfl
theorem tb77 : tB Tryd.prog 77 = some 8 := by kernel_rfl
theorem ta77 : tA Tryd.prog 77 = some false := by kernel_rfl
theorem tz77 : tZ Tryd.prog 77 = some [.nilFunc] := by kernel_rfl
theorem tv77 : tV Tryd.prog 77 = some (.nilFunc) := by kernel_rfl
theorem tc77 : Tryd.prog.concrete 77 = true := by kernel_rfl
theorem ts78 : tS Tryd.prog 78 = some 1 := by kernel_rfl
theorem tb78 : tB Tryd.prog 78 = some 8 := by kernel_rfl
theorem ta78 : tA Tryd.prog 78 = some false := by kernel_rfl
theorem tz78 : tZ Tryd.prog 78 = some [.nilFunc] := by kernel_rfl
theorem tv78 : tV Tryd.prog 78 = some (.nilFunc) := by kernel_rfl
theorem tc78 : Tryd.prog.concrete 78 = true := by kernel_rfl
theorem ts79 : tS Tryd.prog 79 = some 1 := by kernel_rfl
theorem tb79 : tB Tryd.prog 79 = some 8 := by kernel_rfl
theorem ta79 : tA Tryd.prog 79 = some false := by kernel_rfl
theorem tz79 : tZ Tryd.prog 79 = some [.nilFunc] := by kernel_rfl
theorem tv79 : tV Tryd.prog 79 = some (.nilFunc) := by kernel_rfl
theorem tc79 : Tryd.prog.concrete 79 = true := by kernel_rfl
theorem ts80 : tS Tryd.prog 80 = some 1 := by kernel_rfl
theorem tb80 : tB Tryd.prog 80 = some 8 := by kernel_rfl
theorem ta80 : tA Tryd.prog 80 = some false := by kernel_rfl
theorem tz80 : tZ Tryd.prog 80 = some [.nilFunc] := by kernel_rfl
theorem tv80 : tV Tryd.prog 80 = some (.nilFunc) := by kernel_rfl
theorem tc80 : Tryd.prog.concrete 80 = true := by kernel_rfl
theorem ts81 : tS Tryd.prog 81 = some 1 := by kernel_rfl
theorem tb81 : tB Tryd.prog 81 = some 8 := by kernel_rfl
theorem ta81 : tA Tryd.prog 81 = some false := by kernel_rfl
theorem tz81 : tZ Tryd.prog 81 = some [.nilFunc] := by kernel_rfl
theorem tv81 : tV Tryd.prog 81 = some (.nilFunc) := by kernel_rfl
theorem tc81 : Tryd.prog.concrete 81 = true := by kernel_rfl
theorem ts82 : tS Tryd.prog 82 = some 1 := by kernel_rfl
theorem tb82 : tB Tryd.prog 82 = some 8 := by kernel_rfl
theorem ta82 : tA Tryd.prog 82 = some false := by kernel_rfl
theorem tz82 : tZ Tryd.prog 82 = some [.nilFunc] := by kernel_rfl
theorem tv82 : tV Tryd.prog 82 = some (.nilFunc) := by kernel_rfl
theorem tc82 : Tryd.prog.concrete 82 = true := by kernel_rfl
theorem ts83 : tS Tryd.prog 83 = some 1 := by kernel_rfl
theorem tb83 : tB Tryd.prog 83 = some 8 := by kernel_rfl
theorem ta83 : tA Tryd.prog 83 = some false := by kernel_rfl
theorem tz83 : tZ Tryd.prog 83 = some [.nilFunc] := by kernel_rfl
theorem tv83 : tV Tryd.prog 83 = some (.nilFunc) := by kernel_rfl
theorem tc83 : Tryd.prog.concrete 83 = true := by kernel_rfl
theorem ts84 : tS Tryd.prog 84 = some 1 := by kernel_rfl
theorem tb84 : tB Tryd.prog 84 = some 8 := by kernel_rfl
theorem ta84 : tA Tryd.prog 84 = some false := by kernel_rfl
theorem tz84 : tZ Tryd.prog 84 = some [.nilFunc] := by kernel_rfl
theorem tv84 : tV Tryd.prog 84 = some (.nilFunc) := by kernel_rfl
theorem tc84 : Tryd.prog.concrete 84 = true := by kernel_rfl
theorem ts85 : tS Tryd.prog 85 = some 1 := by kernel_rfl
theorem tb85 : tB Tryd.prog 85 = some 8 := by kernel_rfl
theorem ta85 : tA Tryd.prog 85 = some false := by kernel_rfl
theorem tz85 : tZ Tryd.prog 85 = some [.nilFunc] := by kernel_rfl
theorem tv85 : tV Tryd.prog 85 = some (.nilFunc) := by kernel_rfl
theorem tc85 : Tryd.prog.concrete 85 = true := by kernel_rfl
theorem ts87 : tS Tryd.prog 87 = some 1 := by kernel_rfl
theorem tb87 : tB Tryd.prog 87 = some 8 := by kernel_rfl
theorem ta87 : tA Tryd.prog 87 = some false := by kernel_rfl
theorem tz87 : tZ Tryd.prog 87 = some [.nilFunc] := by kernel_rfl
theorem tv87 : tV Tryd.prog 87 = some (.nilFunc) := by kernel_rfl
theorem tc87 : Tryd.prog.concrete 87 = true := by kernel_rfl
theorem ts88 : tS Tryd.prog 88 = some 1 := by kernel_rfl
theorem tb88 : tB Tryd.prog 88 = some 8 := by kernel_rfl
theorem ta88 : tA Tryd.prog 88 = some false := by kernel_rfl
theorem tz88 : tZ Tryd.prog 88 = some [.pointer none] := by kernel_rfl
theorem tv88 : tV Tryd.prog 88 = some (.pointer none) := by kernel_rfl
theorem tc88 : Tryd.prog.concrete 88 = true := by kernel_rfl
theorem ts89 : tS Tryd.prog 89 = some 1 := by kernel_rfl
theorem tb89 : tB Tryd.prog 89 = some 24 := by kernel_rfl
theorem ta89 : tA Tryd.prog 89 = some false := by kernel_rfl
theorem tz89 : tZ Tryd.prog 89 = some [.slice none 0 0] := by kernel_rfl
theorem tv89 : tV Tryd.prog 89 = some (.slice none 0 0) := by kernel_rfl
theorem tc89 : Tryd.prog.concrete 89 = true := by kernel_rfl
theorem ts90 : tS Tryd.prog 90 = some 2 := by kernel_rfl
theorem tb90 : tB Tryd.prog 90 = some 32 := by kernel_rfl
theorem ta90 : tA Tryd.prog 90 = some true := by kernel_rfl
theorem tz90 : tZ Tryd.prog 90 = some [.pointer none, .slice none 0 0] := by kernel_rfl
theorem tv90 : tV Tryd.prog 90 = some (.agg ⟨[.pointer none, .slice none 0 0]⟩) := by kernel_rfl
theorem tf90_0 : tF Tryd.prog 90 0 = some (0, 88) := by kernel_rfl
theorem tf90_1 : tF Tryd.prog 90 1 = some (1, 89) := by kernel_rfl
theorem tp90 : tP Tryd.prog 90 = some (.inl [(0, 1), (1, 1)]) := by kernel_rfl
theorem tc90 : Tryd.prog.concrete 90 = true := by kernel_rfl
theorem tg90 : Tryd.prog.eqGuardType Tryd.prog.depth 90 = false := by kernel_rfl
theorem ts91 : tS Tryd.prog 91 = some 2 := by kernel_rfl
theorem tb91 : tB Tryd.prog 91 = some 32 := by kernel_rfl
theorem ta91 : tA Tryd.prog 91 = some true := by kernel_rfl
theorem tz91 : tZ Tryd.prog 91 = some [.pointer none, .slice none 0 0] := by kernel_rfl
theorem tv91 : tV Tryd.prog 91 = some (.agg ⟨[.pointer none, .slice none 0 0]⟩) := by kernel_rfl
theorem tf91_0 : tF Tryd.prog 91 0 = some (0, 88) := by kernel_rfl
theorem tf91_1 : tF Tryd.prog 91 1 = some (1, 89) := by kernel_rfl
theorem tp91 : tP Tryd.prog 91 = some (.inl [(0, 1), (1, 1)]) := by kernel_rfl
theorem tc91 : Tryd.prog.concrete 91 = true := by kernel_rfl
theorem tg91 : Tryd.prog.eqGuardType Tryd.prog.depth 91 = false := by kernel_rfl
theorem ts92 : tS Tryd.prog 92 = some 1 := by kernel_rfl
theorem tb92 : tB Tryd.prog 92 = some 8 := by kernel_rfl
theorem ta92 : tA Tryd.prog 92 = some false := by kernel_rfl
theorem tz92 : tZ Tryd.prog 92 = some [.nilFunc] := by kernel_rfl
theorem tv92 : tV Tryd.prog 92 = some (.nilFunc) := by kernel_rfl
theorem tc92 : Tryd.prog.concrete 92 = true := by kernel_rfl
theorem ts93 : tS Tryd.prog 93 = some 5 := by kernel_rfl
theorem tb93 : tB Tryd.prog 93 = some 40 := by kernel_rfl
theorem ta93 : tA Tryd.prog 93 = some true := by kernel_rfl
theorem tz93 : tZ Tryd.prog 93 = some [.nilFunc, .nilFunc, .nilFunc, .nilFunc, .nilFunc] := by kernel_rfl
theorem tv93 : tV Tryd.prog 93 = some (.agg ⟨[.nilFunc, .nilFunc, .nilFunc, .nilFunc, .nilFunc]⟩) := by kernel_rfl
theorem tp93 : tP Tryd.prog 93 = some (.inr 1) := by kernel_rfl
theorem tc93 : Tryd.prog.concrete 93 = true := by kernel_rfl
theorem tg93 : Tryd.prog.eqGuardType Tryd.prog.depth 93 = false := by kernel_rfl
theorem ts94 : tS Tryd.prog 94 = some 1 := by kernel_rfl
theorem tb94 : tB Tryd.prog 94 = some 8 := by kernel_rfl
theorem ta94 : tA Tryd.prog 94 = some false := by kernel_rfl
theorem tz94 : tZ Tryd.prog 94 = some [.nilFunc] := by kernel_rfl
theorem tv94 : tV Tryd.prog 94 = some (.nilFunc) := by kernel_rfl
theorem tc94 : Tryd.prog.concrete 94 = true := by kernel_rfl
theorem ts95 : tS Tryd.prog 95 = some 1 := by kernel_rfl
theorem tb95 : tB Tryd.prog 95 = some 8 := by kernel_rfl
theorem ta95 : tA Tryd.prog 95 = some false := by kernel_rfl
theorem tz95 : tZ Tryd.prog 95 = some [.pointer none] := by kernel_rfl
theorem tv95 : tV Tryd.prog 95 = some (.pointer none) := by kernel_rfl
theorem tc95 : Tryd.prog.concrete 95 = true := by kernel_rfl
theorem ts96 : tS Tryd.prog 96 = some 5 := by kernel_rfl
theorem tb96 : tB Tryd.prog 96 = some 40 := by kernel_rfl
theorem ta96 : tA Tryd.prog 96 = some true := by kernel_rfl
theorem tz96 : tZ Tryd.prog 96 = some [.nilFunc, .nilFunc, .nilFunc, .nilFunc, .nilFunc] := by kernel_rfl
theorem tv96 : tV Tryd.prog 96 = some (.agg ⟨[.nilFunc, .nilFunc, .nilFunc, .nilFunc, .nilFunc]⟩) := by kernel_rfl
theorem tp96 : tP Tryd.prog 96 = some (.inr 1) := by kernel_rfl
theorem tc96 : Tryd.prog.concrete 96 = true := by kernel_rfl
theorem tg96 : Tryd.prog.eqGuardType Tryd.prog.depth 96 = false := by kernel_rfl
theorem ts97 : tS Tryd.prog 97 = some 1 := by kernel_rfl
theorem tb97 : tB Tryd.prog 97 = some 8 := by kernel_rfl
theorem ta97 : tA Tryd.prog 97 = some false := by kernel_rfl
theorem tz97 : tZ Tryd.prog 97 = some [.nilFunc] := by kernel_rfl
theorem tv97 : tV Tryd.prog 97 = some (.nilFunc) := by kernel_rfl
theorem tc97 : Tryd.prog.concrete 97 = true := by kernel_rfl
theorem ts98 : tS Tryd.prog 98 = some 1 := by kernel_rfl
theorem tb98 : tB Tryd.prog 98 = some 8 := by kernel_rfl
theorem ta98 : tA Tryd.prog 98 = some false := by kernel_rfl
theorem tz98 : tZ Tryd.prog 98 = some [.nilFunc] := by kernel_rfl
theorem tv98 : tV Tryd.prog 98 = some (.nilFunc) := by kernel_rfl
theorem tc98 : Tryd.prog.concrete 98 = true := by kernel_rfl
theorem ts99 : tS Tryd.prog 99 = some 1 := by kernel_rfl
theorem tb99 : tB Tryd.prog 99 = some 16 := by kernel_rfl
theorem ta99 : tA Tryd.prog 99 = some false := by kernel_rfl
theorem tz99 : tZ Tryd.prog 99 = some [.nilIface] := by kernel_rfl
theorem tv99 : tV Tryd.prog 99 = some (.nilIface) := by kernel_rfl
theorem ts100 : tS Tryd.prog 100 = some 1 := by kernel_rfl
theorem tb100 : tB Tryd.prog 100 = some 16 := by kernel_rfl
theorem ta100 : tA Tryd.prog 100 = some false := by kernel_rfl
theorem tz100 : tZ Tryd.prog 100 = some [.nilIface] := by kernel_rfl
theorem tv100 : tV Tryd.prog 100 = some (.nilIface) := by kernel_rfl
theorem ts102 : tS Tryd.prog 102 = some 1 := by kernel_rfl
theorem tb102 : tB Tryd.prog 102 = some 8 := by kernel_rfl
theorem ta102 : tA Tryd.prog 102 = some false := by kernel_rfl
theorem tz102 : tZ Tryd.prog 102 = some [.nilFunc] := by kernel_rfl
theorem tv102 : tV Tryd.prog 102 = some (.nilFunc) := by kernel_rfl
theorem tc102 : Tryd.prog.concrete 102 = true := by kernel_rfl
theorem ts103 : tS Tryd.prog 103 = some 1 := by kernel_rfl
theorem tb103 : tB Tryd.prog 103 = some 8 := by kernel_rfl
theorem ta103 : tA Tryd.prog 103 = some false := by kernel_rfl
theorem tz103 : tZ Tryd.prog 103 = some [.nilFunc] := by kernel_rfl
theorem tv103 : tV Tryd.prog 103 = some (.nilFunc) := by kernel_rfl
theorem tc103 : Tryd.prog.concrete 103 = true := by kernel_rfl
theorem ts104 : tS Tryd.prog 104 = some 1 := by kernel_rfl
theorem tb104 : tB Tryd.prog 104 = some 8 := by kernel_rfl
theorem ta104 : tA Tryd.prog 104 = some false := by kernel_rfl
theorem tz104 : tZ Tryd.prog 104 = some [.nilFunc] := by kernel_rfl
theorem tv104 : tV Tryd.prog 104 = some (.nilFunc) := by kernel_rfl
theorem tc104 : Tryd.prog.concrete 104 = true := by kernel_rfl
theorem ts105 : tS Tryd.prog 105 = some 1 := by kernel_rfl
theorem tb105 : tB Tryd.prog 105 = some 8 := by kernel_rfl
theorem ta105 : tA Tryd.prog 105 = some false := by kernel_rfl
theorem tz105 : tZ Tryd.prog 105 = some [.nilFunc] := by kernel_rfl
theorem tv105 : tV Tryd.prog 105 = some (.nilFunc) := by kernel_rfl
theorem tc105 : Tryd.prog.concrete 105 = true := by kernel_rfl
theorem ts106 : tS Tryd.prog 106 = some 1 := by kernel_rfl
theorem tb106 : tB Tryd.prog 106 = some 8 := by kernel_rfl
theorem ta106 : tA Tryd.prog 106 = some false := by kernel_rfl
theorem tz106 : tZ Tryd.prog 106 = some [.nilFunc] := by kernel_rfl
theorem tv106 : tV Tryd.prog 106 = some (.nilFunc) := by kernel_rfl
theorem tc106 : Tryd.prog.concrete 106 = true := by kernel_rfl
theorem ts107 : tS Tryd.prog 107 = some 1 := by kernel_rfl
theorem tb107 : tB Tryd.prog 107 = some 8 := by kernel_rfl
theorem ta107 : tA Tryd.prog 107 = some false := by kernel_rfl
theorem tz107 : tZ Tryd.prog 107 = some [.int .u64 0] := by kernel_rfl
theorem tv107 : tV Tryd.prog 107 = some (.int .u64 0) := by kernel_rfl
theorem tc107 : Tryd.prog.concrete 107 = true := by kernel_rfl
theorem ts108 : tS Tryd.prog 108 = some 1 := by kernel_rfl
theorem tb108 : tB Tryd.prog 108 = some 8 := by kernel_rfl
theorem ta108 : tA Tryd.prog 108 = some false := by kernel_rfl
theorem tz108 : tZ Tryd.prog 108 = some [.nilFunc] := by kernel_rfl
theorem tv108 : tV Tryd.prog 108 = some (.nilFunc) := by kernel_rfl
theorem tc108 : Tryd.prog.concrete 108 = true := by kernel_rfl
theorem ts109 : tS Tryd.prog 109 = some 1 := by kernel_rfl
theorem tb109 : tB Tryd.prog 109 = some 8 := by kernel_rfl
theorem ta109 : tA Tryd.prog 109 = some false := by kernel_rfl
theorem tz109 : tZ Tryd.prog 109 = some [.nilFunc] := by kernel_rfl
theorem tv109 : tV Tryd.prog 109 = some (.nilFunc) := by kernel_rfl
theorem tc109 : Tryd.prog.concrete 109 = true := by kernel_rfl
theorem ts110 : tS Tryd.prog 110 = some 1 := by kernel_rfl
theorem tb110 : tB Tryd.prog 110 = some 8 := by kernel_rfl
theorem ta110 : tA Tryd.prog 110 = some false := by kernel_rfl
theorem tz110 : tZ Tryd.prog 110 = some [.nilFunc] := by kernel_rfl
theorem tv110 : tV Tryd.prog 110 = some (.nilFunc) := by kernel_rfl
theorem tc110 : Tryd.prog.concrete 110 = true := by kernel_rfl
theorem ts111 : tS Tryd.prog 111 = some 1 := by kernel_rfl
theorem tb111 : tB Tryd.prog 111 = some 8 := by kernel_rfl
theorem ta111 : tA Tryd.prog 111 = some false := by kernel_rfl
theorem tz111 : tZ Tryd.prog 111 = some [.nilFunc] := by kernel_rfl
theorem tv111 : tV Tryd.prog 111 = some (.nilFunc) := by kernel_rfl
theorem tc111 : Tryd.prog.concrete 111 = true := by kernel_rfl
theorem ts112 : tS Tryd.prog 112 = some 1 := by kernel_rfl
theorem tb112 : tB Tryd.prog 112 = some 8 := by kernel_rfl
theorem ta112 : tA Tryd.prog 112 = some false := by kernel_rfl
theorem tz112 : tZ Tryd.prog 112 = some [.nilFunc] := by kernel_rfl
theorem tv112 : tV Tryd.prog 112 = some (.nilFunc) := by kernel_rfl
theorem tc112 : Tryd.prog.concrete 112 = true := by kernel_rfl
theorem ts113 : tS Tryd.prog 113 = some 1 := by kernel_rfl
theorem tb113 : tB Tryd.prog 113 = some 8 := by kernel_rfl
theorem ta113 : tA Tryd.prog 113 = some false := by kernel_rfl
theorem tz113 : tZ Tryd.prog 113 = some [.pointer none] := by kernel_rfl
theorem tv113 : tV Tryd.prog 113 = some (.pointer none) := by kernel_rfl
theorem tc113 : Tryd.prog.concrete 113 = true := by kernel_rfl
theorem ts114 : tS Tryd.prog 114 = some 1 := by kernel_rfl
theorem tb114 : tB Tryd.prog 114 = some 8 := by kernel_rfl
theorem ta114 : tA Tryd.prog 114 = some false := by kernel_rfl
theorem tz114 : tZ Tryd.prog 114 = some [.nilFunc] := by kernel_rfl
theorem tv114 : tV Tryd.prog 114 = some (.nilFunc) := by kernel_rfl
theorem tc114 : Tryd.prog.concrete 114 = true := by kernel_rfl
theorem ts115 : tS Tryd.prog 115 = some 1 := by kernel_rfl
theorem tb115 : tB Tryd.prog 115 = some 8 := by kernel_rfl
theorem ta115 : tA Tryd.prog 115 = some false := by kernel_rfl
theorem tz115 : tZ Tryd.prog 115 = some [.nilFunc] := by kernel_rfl
theorem tv115 : tV Tryd.prog 115 = some (.nilFunc) := by kernel_rfl
theorem tc115 : Tryd.prog.concrete 115 = true := by kernel_rfl
theorem ts116 : tS Tryd.prog 116 = some 1 := by kernel_rfl
theorem tb116 : tB Tryd.prog 116 = some 8 := by kernel_rfl
theorem ta116 : tA Tryd.prog 116 = some false := by kernel_rfl
theorem tz116 : tZ Tryd.prog 116 = some [.int .i64 0] := by kernel_rfl
theorem tv116 : tV Tryd.prog 116 = some (.int .i64 0) := by kernel_rfl
theorem tc116 : Tryd.prog.concrete 116 = true := by kernel_rfl
theorem ts118 : tS Tryd.prog 118 = some 1 := by kernel_rfl
theorem tb118 : tB Tryd.prog 118 = some 8 := by kernel_rfl
theorem ta118 : tA Tryd.prog 118 = some false := by kernel_rfl
theorem tz118 : tZ Tryd.prog 118 = some [.nilFunc] := by kernel_rfl
theorem tv118 : tV Tryd.prog 118 = some (.nilFunc) := by kernel_rfl
theorem tc118 : Tryd.prog.concrete 118 = true := by kernel_rfl
theorem ts119 : tS Tryd.prog 119 = some 1 := by kernel_rfl
theorem tb119 : tB Tryd.prog 119 = some 8 := by kernel_rfl
theorem ta119 : tA Tryd.prog 119 = some false := by kernel_rfl
theorem tz119 : tZ Tryd.prog 119 = some [.pointer none] := by kernel_rfl
theorem tv119 : tV Tryd.prog 119 = some (.pointer none) := by kernel_rfl
theorem tc119 : Tryd.prog.concrete 119 = true := by kernel_rfl
theorem ts120 : tS Tryd.prog 120 = some 1 := by kernel_rfl
theorem tb120 : tB Tryd.prog 120 = some 8 := by kernel_rfl
theorem ta120 : tA Tryd.prog 120 = some false := by kernel_rfl
theorem tz120 : tZ Tryd.prog 120 = some [.nilFunc] := by kernel_rfl
theorem tv120 : tV Tryd.prog 120 = some (.nilFunc) := by kernel_rfl
theorem tc120 : Tryd.prog.concrete 120 = true := by kernel_rfl
theorem ts121 : tS Tryd.prog 121 = some 1 := by kernel_rfl
theorem tb121 : tB Tryd.prog 121 = some 8 := by kernel_rfl
theorem ta121 : tA Tryd.prog 121 = some false := by kernel_rfl
theorem tz121 : tZ Tryd.prog 121 = some [.nilFunc] := by kernel_rfl
theorem tv121 : tV Tryd.prog 121 = some (.nilFunc) := by kernel_rfl
theorem tc121 : Tryd.prog.concrete 121 = true := by kernel_rfl
theorem ts122 : tS Tryd.prog 122 = some 1 := by kernel_rfl
theorem tb122 : tB Tryd.prog 122 = some 8 := by kernel_rfl
theorem ta122 : tA Tryd.prog 122 = some false := by kernel_rfl
theorem tz122 : tZ Tryd.prog 122 = some [.nilFunc] := by kernel_rfl
theorem tv122 : tV Tryd.prog 122 = some (.nilFunc) := by kernel_rfl
theorem tc122 : Tryd.prog.concrete 122 = true := by kernel_rfl
theorem ts123 : tS Tryd.prog 123 = some 1 := by kernel_rfl
theorem tb123 : tB Tryd.prog 123 = some 8 := by kernel_rfl
theorem ta123 : tA Tryd.prog 123 = some false := by kernel_rfl
theorem tz123 : tZ Tryd.prog 123 = some [.nilFunc] := by kernel_rfl
theorem tv123 : tV Tryd.prog 123 = some (.nilFunc) := by kernel_rfl
theorem tc123 : Tryd.prog.concrete 123 = true := by kernel_rfl
theorem ts124 : tS Tryd.prog 124 = some 24 := by kernel_rfl
theorem tb124 : tB Tryd.prog 124 = some 24 := by kernel_rfl
theorem ta124 : tA Tryd.prog 124 = some true := by kernel_rfl
theorem tz124 : tZ Tryd.prog 124 = some [.int .u8 0, .int .u8 0, .int .u8 0, .int .u8 0, .int .u8 0, .int .u8 0, .int .u8 0, .int .u8 0, .int .u8 0, .int .u8 0, .int .u8 0, .int .u8 0, .int .u8 0, .int .u8 0, .int .u8 0, .int .u8 0, .int .u8 0, .int .u8 0, .int .u8 0, .int .u8 0, .int .u8 0, .int .u8 0, .int .u8 0, .int .u8 0] := by kernel_rfl
theorem tv124 : tV Tryd.prog 124 = some (.agg ⟨[.int .u8 0, .int .u8 0, .int .u8 0, .int .u8 0, .int .u8 0, .int .u8 0, .int .u8 0, .int .u8 0, .int .u8 0, .int .u8 0, .int .u8 0, .int .u8 0, .int .u8 0, .int .u8 0, .int .u8 0, .int .u8 0, .int .u8 0, .int .u8 0, .int .u8 0, .int .u8 0, .int .u8 0, .int .u8 0, .int .u8 0, .int .u8 0]⟩) := by kernel_rfl
theorem tp124 : tP Tryd.prog 124 = some (.inr 1) := by kernel_rfl
theorem tc124 : Tryd.prog.concrete 124 = true := by kernel_rfl
theorem tg124 : Tryd.prog.eqGuardType Tryd.prog.depth 124 = false := by kernel_rfl
theorem ts125 : tS Tryd.prog 125 = some 1 := by kernel_rfl
theorem tb125 : tB Tryd.prog 125 = some 8 := by kernel_rfl
theorem ta125 : tA Tryd.prog 125 = some false := by kernel_rfl
theorem tz125 : tZ Tryd.prog 125 = some [.int .u64 0] := by kernel_rfl
theorem tv125 : tV Tryd.prog 125 = some (.int .u64 0) := by kernel_rfl
theorem tc125 : Tryd.prog.concrete 125 = true := by kernel_rfl
theorem ts126 : tS Tryd.prog 126 = some 1 := by kernel_rfl
theorem tb126 : tB Tryd.prog 126 = some 8 := by kernel_rfl
theorem ta126 : tA Tryd.prog 126 = some false := by kernel_rfl
theorem tz126 : tZ Tryd.prog 126 = some [.nilFunc] := by kernel_rfl
theorem tv126 : tV Tryd.prog 126 = some (.nilFunc) := by kernel_rfl
theorem tc126 : Tryd.prog.concrete 126 = true := by kernel_rfl
theorem ts127 : tS Tryd.prog 127 = some 1 := by kernel_rfl
theorem tb127 : tB Tryd.prog 127 = some 8 := by kernel_rfl
theorem ta127 : tA Tryd.prog 127 = some false := by kernel_rfl
theorem tz127 : tZ Tryd.prog 127 = some [.nilFunc] := by kernel_rfl
theorem tv127 : tV Tryd.prog 127 = some (.nilFunc) := by kernel_rfl
theorem tc127 : Tryd.prog.concrete 127 = true := by kernel_rfl
theorem ts129 : tS Tryd.prog 129 = some 1 := by kernel_rfl
theorem tb129 : tB Tryd.prog 129 = some 8 := by kernel_rfl
theorem ta129 : tA Tryd.prog 129 = some false := by kernel_rfl
theorem tz129 : tZ Tryd.prog 129 = some [.nilFunc] := by kernel_rfl
theorem tv129 : tV Tryd.prog 129 = some (.nilFunc) := by kernel_rfl
theorem tc129 : Tryd.prog.concrete 129 = true := by kernel_rfl
theorem ts130 : tS Tryd.prog 130 = some 1 := by kernel_rfl
theorem tb130 : tB Tryd.prog 130 = some 8 := by kernel_rfl
theorem ta130 : tA Tryd.prog 130 = some false := by kernel_rfl
theorem tz130 : tZ Tryd.prog 130 = some [.pointer none] := by kernel_rfl
theorem tv130 : tV Tryd.prog 130 = some (.pointer none) := by kernel_rfl
theorem tc130 : Tryd.prog.concrete 130 = true := by kernel_rfl
theorem ts131 : tS Tryd.prog 131 = some 1 := by kernel_rfl
theorem tb131 : tB Tryd.prog 131 = some 8 := by kernel_rfl
theorem ta131 : tA Tryd.prog 131 = some false := by kernel_rfl
theorem tz131 : tZ Tryd.prog 131 = some [.nilFunc] := by kernel_rfl
theorem tv131 : tV Tryd.prog 131 = some (.nilFunc) := by kernel_rfl
theorem tc131 : Tryd.prog.concrete 131 = true := by kernel_rfl
theorem ts133 : tS Tryd.prog 133 = some 1 := by kernel_rfl
theorem tb133 : tB Tryd.prog 133 = some 8 := by kernel_rfl
theorem ta133 : tA Tryd.prog 133 = some false := by kernel_rfl
theorem tz133 : tZ Tryd.prog 133 = some [.nilFunc] := by kernel_rfl
theorem tv133 : tV Tryd.prog 133 = some (.nilFunc) := by kernel_rfl
theorem tc133 : Tryd.prog.concrete 133 = true := by kernel_rfl
theorem ts134 : tS Tryd.prog 134 = some 3 := by kernel_rfl
theorem tb134 : tB Tryd.prog 134 = some 48 := by kernel_rfl
theorem ta134 : tA Tryd.prog 134 = some true := by kernel_rfl
theorem tz134 : tZ Tryd.prog 134 = some [.string (bs []), .string (bs []), .nilIface] := by kernel_rfl
theorem tv134 : tV Tryd.prog 134 = some (.agg ⟨[.string (bs []), .string (bs []), .nilIface]⟩) := by kernel_rfl
theorem tf134_0 : tF Tryd.prog 134 0 = some (0, 9) := by kernel_rfl
theorem tf134_1 : tF Tryd.prog 134 1 = some (1, 9) := by kernel_rfl
theorem tf134_2 : tF Tryd.prog 134 2 = some (2, 100) := by kernel_rfl
theorem tp134 : tP Tryd.prog 134 = some (.inl [(0, 1), (1, 1), (2, 1)]) := by kernel_rfl
theorem tc134 : Tryd.prog.concrete 134 = true := by kernel_rfl
theorem ts135 : tS Tryd.prog 135 = some 3 := by kernel_rfl
theorem tb135 : tB Tryd.prog 135 = some 48 := by kernel_rfl
theorem ta135 : tA Tryd.prog 135 = some true := by kernel_rfl
theorem tz135 : tZ Tryd.prog 135 = some [.string (bs []), .string (bs []), .nilIface] := by kernel_rfl
theorem tv135 : tV Tryd.prog 135 = some (.agg ⟨[.string (bs []), .string (bs []), .nilIface]⟩) := by kernel_rfl
theorem tf135_0 : tF Tryd.prog 135 0 = some (0, 9) := by kernel_rfl
theorem tf135_1 : tF Tryd.prog 135 1 = some (1, 9) := by kernel_rfl
theorem tf135_2 : tF Tryd.prog 135 2 = some (2, 100) := by kernel_rfl
theorem tp135 : tP Tryd.prog 135 = some (.inl [(0, 1), (1, 1), (2, 1)]) := by kernel_rfl
theorem tc135 : Tryd.prog.concrete 135 = true := by kernel_rfl
theorem ts136 : tS Tryd.prog 136 = some 1 := by kernel_rfl
theorem tb136 : tB Tryd.prog 136 = some 8 := by kernel_rfl
theorem ta136 : tA Tryd.prog 136 = some false := by kernel_rfl
theorem tz136 : tZ Tryd.prog 136 = some [.nilFunc] := by kernel_rfl
theorem tv136 : tV Tryd.prog 136 = some (.nilFunc) := by kernel_rfl
theorem tc136 : Tryd.prog.concrete 136 = true := by kernel_rfl
theorem ts137 : tS Tryd.prog 137 = some 1 := by kernel_rfl
theorem tb137 : tB Tryd.prog 137 = some 8 := by kernel_rfl
theorem ta137 : tA Tryd.prog 137 = some false := by kernel_rfl
theorem tz137 : tZ Tryd.prog 137 = some [.nilFunc] := by kernel_rfl
theorem tv137 : tV Tryd.prog 137 = some (.nilFunc) := by kernel_rfl
theorem tc137 : Tryd.prog.concrete 137 = true := by kernel_rfl
theorem ts138 : tS Tryd.prog 138 = some 20 := by kernel_rfl
theorem tb138 : tB Tryd.prog 138 = some 160 := by kernel_rfl
theorem ta138 : tA Tryd.prog 138 = some true := by kernel_rfl
theorem tz138 : tZ Tryd.prog 138 = some [.int .u64 0, .int .u64 0, .int .u64 0, .int .u64 0, .int .u64 0, .int .u64 0, .int .u64 0, .int .u64 0, .int .u64 0, .int .u64 0, .int .u64 0, .int .u64 0, .int .u64 0, .int .u64 0, .int .u64 0, .int .u64 0, .int .u64 0, .int .u64 0, .int .u64 0, .int .u64 0] := by kernel_rfl
theorem tv138 : tV Tryd.prog 138 = some (.agg ⟨[.int .u64 0, .int .u64 0, .int .u64 0, .int .u64 0, .int .u64 0, .int .u64 0, .int .u64 0, .int .u64 0, .int .u64 0, .int .u64 0, .int .u64 0, .int .u64 0, .int .u64 0, .int .u64 0, .int .u64 0, .int .u64 0, .int .u64 0, .int .u64 0, .int .u64 0, .int .u64 0]⟩) := by kernel_rfl
theorem tp138 : tP Tryd.prog 138 = some (.inr 1) := by kernel_rfl
theorem tc138 : Tryd.prog.concrete 138 = true := by kernel_rfl
theorem tg138 : Tryd.prog.eqGuardType Tryd.prog.depth 138 = false := by kernel_rfl
theorem ts139 : tS Tryd.prog 139 = some 1 := by kernel_rfl
theorem tb139 : tB Tryd.prog 139 = some 4 := by kernel_rfl
theorem ta139 : tA Tryd.prog 139 = some false := by kernel_rfl
theorem tz139 : tZ Tryd.prog 139 = some [.int .u32 0] := by kernel_rfl
theorem tv139 : tV Tryd.prog 139 = some (.int .u32 0) := by kernel_rfl
theorem tc139 : Tryd.prog.concrete 139 = true := by kernel_rfl
theorem ts140 : tS Tryd.prog 140 = some 65 := by kernel_rfl
theorem tb140 : tB Tryd.prog 140 = some 65 := by kernel_rfl
theorem ta140 : tA Tryd.prog 140 = some true := by kernel_rfl
theorem tp140 : tP Tryd.prog 140 = some (.inr 1) := by kernel_rfl
theorem tc140 : Tryd.prog.concrete 140 = true := by kernel_rfl
theorem tg140 : Tryd.prog.eqGuardType Tryd.prog.depth 140 = false := by kernel_rfl
theorem ts141 : tS Tryd.prog 141 = some 1 := by kernel_rfl
theorem tb141 : tB Tryd.prog 141 = some 8 := by kernel_rfl
theorem ta141 : tA Tryd.prog 141 = some false := by kernel_rfl
theorem tz141 : tZ Tryd.prog 141 = some [.nilFunc] := by kernel_rfl
theorem tv141 : tV Tryd.prog 141 = some (.nilFunc) := by kernel_rfl
theorem tc141 : Tryd.prog.concrete 141 = true := by kernel_rfl
theorem ts142 : tS Tryd.prog 142 = some 1 := by kernel_rfl
theorem tb142 : tB Tryd.prog 142 = some 8 := by kernel_rfl
theorem ta142 : tA Tryd.prog 142 = some false := by kernel_rfl
theorem tz142 : tZ Tryd.prog 142 = some [.nilFunc] := by kernel_rfl
theorem tv142 : tV Tryd.prog 142 = some (.nilFunc) := by kernel_rfl
theorem tc142 : Tryd.prog.concrete 142 = true := by kernel_rfl
theorem ts143 : tS Tryd.prog 143 = some 1 := by kernel_rfl
theorem tb143 : tB Tryd.prog 143 = some 8 := by kernel_rfl
theorem ta143 : tA Tryd.prog 143 = some false := by kernel_rfl
theorem tz143 : tZ Tryd.prog 143 = some [.nilFunc] := by kernel_rfl
theorem tv143 : tV Tryd.prog 143 = some (.nilFunc) := by kernel_rfl
theorem tc143 : Tryd.prog.concrete 143 = true := by kernel_rfl
theorem ts144 : tS Tryd.prog 144 = some 1 := by kernel_rfl
theorem tb144 : tB Tryd.prog 144 = some 8 := by kernel_rfl
theorem ta144 : tA Tryd.prog 144 = some false := by kernel_rfl
theorem tz144 : tZ Tryd.prog 144 = some [.pointer none] := by kernel_rfl
theorem tv144 : tV Tryd.prog 144 = some (.pointer none) := by kernel_rfl
theorem tc144 : Tryd.prog.concrete 144 = true := by kernel_rfl
theorem ts145 : tS Tryd.prog 145 = some 1 := by kernel_rfl
theorem tb145 : tB Tryd.prog 145 = some 16 := by kernel_rfl
theorem ta145 : tA Tryd.prog 145 = some true := by kernel_rfl
theorem tz145 : tZ Tryd.prog 145 = some [.string (bs [])] := by kernel_rfl
theorem tv145 : tV Tryd.prog 145 = some (.agg ⟨[.string (bs [])]⟩) := by kernel_rfl
theorem tf145_0 : tF Tryd.prog 145 0 = some (0, 9) := by kernel_rfl
theorem tp145 : tP Tryd.prog 145 = some (.inl [(0, 1)]) := by kernel_rfl
theorem tc145 : Tryd.prog.concrete 145 = true := by kernel_rfl
theorem tg145 : Tryd.prog.eqGuardType Tryd.prog.depth 145 = false := by kernel_rfl
theorem ts146 : tS Tryd.prog 146 = some 1 := by kernel_rfl
theorem tb146 : tB Tryd.prog 146 = some 16 := by kernel_rfl
theorem ta146 : tA Tryd.prog 146 = some true := by kernel_rfl
theorem tz146 : tZ Tryd.prog 146 = some [.string (bs [])] := by kernel_rfl
theorem tv146 : tV Tryd.prog 146 = some (.agg ⟨[.string (bs [])]⟩) := by kernel_rfl
theorem tf146_0 : tF Tryd.prog 146 0 = some (0, 9) := by kernel_rfl
theorem tp146 : tP Tryd.prog 146 = some (.inl [(0, 1)]) := by kernel_rfl
theorem tc146 : Tryd.prog.concrete 146 = true := by kernel_rfl
theorem tg146 : Tryd.prog.eqGuardType Tryd.prog.depth 146 = false := by kernel_rfl
theorem ts147 : tS Tryd.prog 147 = some 1 := by kernel_rfl
theorem tb147 : tB Tryd.prog 147 = some 8 := by kernel_rfl
theorem ta147 : tA Tryd.prog 147 = some false := by kernel_rfl
theorem tz147 : tZ Tryd.prog 147 = some [.nilFunc] := by kernel_rfl
theorem tv147 : tV Tryd.prog 147 = some (.nilFunc) := by kernel_rfl
theorem tc147 : Tryd.prog.concrete 147 = true := by kernel_rfl
theorem ts148 : tS Tryd.prog 148 = some 32 := by kernel_rfl
theorem tb148 : tB Tryd.prog 148 = some 32 := by kernel_rfl
theorem ta148 : tA Tryd.prog 148 = some true := by kernel_rfl
theorem tz148 : tZ Tryd.prog 148 = some [.int .u8 0, .int .u8 0, .int .u8 0, .int .u8 0, .int .u8 0, .int .u8 0, .int .u8 0, .int .u8 0, .int .u8 0, .int .u8 0, .int .u8 0, .int .u8 0, .int .u8 0, .int .u8 0, .int .u8 0, .int .u8 0, .int .u8 0, .int .u8 0, .int .u8 0, .int .u8 0, .int .u8 0, .int .u8 0, .int .u8 0, .int .u8 0, .int .u8 0, .int .u8 0, .int .u8 0, .int .u8 0, .int .u8 0, .int .u8 0, .int .u8 0, .int .u8 0] := by kernel_rfl
theorem tv148 : tV Tryd.prog 148 = some (.agg ⟨[.int .u8 0, .int .u8 0, .int .u8 0, .int .u8 0, .int .u8 0, .int .u8 0, .int .u8 0, .int .u8 0, .int .u8 0, .int .u8 0, .int .u8 0, .int .u8 0, .int .u8 0, .int .u8 0, .int .u8 0, .int .u8 0, .int .u8 0, .int .u8 0, .int .u8 0, .int .u8 0, .int .u8 0, .int .u8 0, .int .u8 0, .int .u8 0, .int .u8 0, .int .u8 0, .int .u8 0, .int .u8 0, .int .u8 0, .int .u8 0, .int .u8 0, .int .u8 0]⟩) := by kernel_rfl
theorem tp148 : tP Tryd.prog 148 = some (.inr 1) := by kernel_rfl
theorem tc148 : Tryd.prog.concrete 148 = true := by kernel_rfl
theorem tg148 : Tryd.prog.eqGuardType Tryd.prog.depth 148 = false := by kernel_rfl
theorem ts149 : tS Tryd.prog 149 = some 64 := by kernel_rfl
theorem tb149 : tB Tryd.prog 149 = some 64 := by kernel_rfl
theorem ta149 : tA Tryd.prog 149 = some true := by kernel_rfl
theorem tz149 : tZ Tryd.prog 149 = some [.int .u8 0, .int .u8 0, .int .u8 0, .int .u8 0, .int .u8 0, .int .u8 0, .int .u8 0, .int .u8 0, .int .u8 0, .int .u8 0, .int .u8 0, .int .u8 0, .int .u8 0, .int .u8 0, .int .u8 0, .int .u8 0, .int .u8 0, .int .u8 0, .int .u8 0, .int .u8 0, .int .u8 0, .int .u8 0, .int .u8 0, .int .u8 0, .int .u8 0, .int .u8 0, .int .u8 0, .int .u8 0, .int .u8 0, .int .u8 0, .int .u8 0, .int .u8 0, .int .u8 0, .int .u8 0, .int .u8 0, .int .u8 0, .int .u8 0, .int .u8 0, .int .u8 0, .int .u8 0, .int .u8 0, .int .u8 0, .int .u8 0, .int .u8 0, .int .u8 0, .int .u8 0, .int .u8 0, .int .u8 0, .int .u8 0, .int .u8 0, .int .u8 0, .int .u8 0, .int .u8 0, .int .u8 0, .int .u8 0, .int .u8 0, .int .u8 0, .int .u8 0, .int .u8 0, .int .u8 0, .int .u8 0, .int .u8 0, .int .u8 0, .int .u8 0] := by kernel_rfl
theorem tv149 : tV Tryd.prog 149 = some (.agg ⟨[.int .u8 0, .int .u8 0, .int .u8 0, .int .u8 0, .int .u8 0, .int .u8 0, .int .u8 0, .int .u8 0, .int .u8 0, .int .u8 0, .int .u8 0, .int .u8 0, .int .u8 0, .int .u8 0, .int .u8 0, .int .u8 0, .int .u8 0, .int .u8 0, .int .u8 0, .int .u8 0, .int .u8 0, .int .u8 0, .int .u8 0, .int .u8 0, .int .u8 0, .int .u8 0, .int .u8 0, .int .u8 0, .int .u8 0, .int .u8 0, .int .u8 0, .int .u8 0, .int .u8 0, .int .u8 0, .int .u8 0, .int .u8 0, .int .u8 0, .int .u8 0, .int .u8 0, .int .u8 0, .int .u8 0, .int .u8 0, .int .u8 0, .int .u8 0, .int .u8 0, .int .u8 0, .int .u8 0, .int .u8 0, .int .u8 0, .int .u8 0, .int .u8 0, .int .u8 0, .int .u8 0, .int .u8 0, .int .u8 0, .int .u8 0, .int .u8 0, .int .u8 0, .int .u8 0, .int .u8 0, .int .u8 0, .int .u8 0, .int .u8 0, .int .u8 0]⟩) := by kernel_rfl
theorem tp149 : tP Tryd.prog 149 = some (.inr 1) := by kernel_rfl
theorem tc149 : Tryd.prog.concrete 149 = true := by kernel_rfl
theorem tg149 : Tryd.prog.eqGuardType Tryd.prog.depth 149 = false := by kernel_rfl
theorem ts150 : tS Tryd.prog 150 = some 4 := by kernel_rfl
theorem tb150 : tB Tryd.prog 150 = some 40 := by kernel_rfl
theorem ta150 : tA Tryd.prog 150 = some true := by kernel_rfl
theorem tz150 : tZ Tryd.prog 150 = some [.pointer none, .pointer none, .pointer none, .string (bs [])] := by kernel_rfl
theorem tv150 : tV Tryd.prog 150 = some (.agg ⟨[.pointer none, .pointer none, .pointer none, .string (bs [])]⟩) := by kernel_rfl
theorem tf150_0 : tF Tryd.prog 150 0 = some (0, 17) := by kernel_rfl
theorem tf150_1 : tF Tryd.prog 150 1 = some (1, 17) := by kernel_rfl
theorem tf150_2 : tF Tryd.prog 150 2 = some (2, 17) := by kernel_rfl
theorem tf150_3 : tF Tryd.prog 150 3 = some (3, 9) := by kernel_rfl
theorem tp150 : tP Tryd.prog 150 = some (.inl [(0, 1), (1, 1), (2, 1), (3, 1)]) := by kernel_rfl
theorem tc150 : Tryd.prog.concrete 150 = true := by kernel_rfl
theorem tg150 : Tryd.prog.eqGuardType Tryd.prog.depth 150 = false := by kernel_rfl
theorem ts151 : tS Tryd.prog 151 = some 4 := by kernel_rfl
theorem tb151 : tB Tryd.prog 151 = some 40 := by kernel_rfl
theorem ta151 : tA Tryd.prog 151 = some true := by kernel_rfl
theorem tz151 : tZ Tryd.prog 151 = some [.pointer none, .pointer none, .pointer none, .string (bs [])] := by kernel_rfl
theorem tv151 : tV Tryd.prog 151 = some (.agg ⟨[.pointer none, .pointer none, .pointer none, .string (bs [])]⟩) := by kernel_rfl
theorem tf151_0 : tF Tryd.prog 151 0 = some (0, 17) := by kernel_rfl
theorem tf151_1 : tF Tryd.prog 151 1 = some (1, 17) := by kernel_rfl
theorem tf151_2 : tF Tryd.prog 151 2 = some (2, 17) := by kernel_rfl
theorem tf151_3 : tF Tryd.prog 151 3 = some (3, 9) := by kernel_rfl
theorem tp151 : tP Tryd.prog 151 = some (.inl [(0, 1), (1, 1), (2, 1), (3, 1)]) := by kernel_rfl
theorem tc151 : Tryd.prog.concrete 151 = true := by kernel_rfl
theorem tg151 : Tryd.prog.eqGuardType Tryd.prog.depth 151 = false := by kernel_rfl
theorem ts152 : tS Tryd.prog 152 = some 0 := by kernel_rfl
theorem tb152 : tB Tryd.prog 152 = some 0 := by kernel_rfl
theorem ta152 : tA Tryd.prog 152 = some true := by kernel_rfl
theorem tz152 : tZ Tryd.prog 152 = some [] := by kernel_rfl
theorem tv152 : tV Tryd.prog 152 = some (.agg ⟨[]⟩) := by kernel_rfl
theorem tp152 : tP Tryd.prog 152 = some (.inr 1) := by kernel_rfl
theorem tc152 : Tryd.prog.concrete 152 = true := by kernel_rfl
theorem tg152 : Tryd.prog.eqGuardType Tryd.prog.depth 152 = false := by kernel_rfl
theorem ts153 : tS Tryd.prog 153 = some 0 := by kernel_rfl
theorem tb153 : tB Tryd.prog 153 = some 0 := by kernel_rfl
theorem ta153 : tA Tryd.prog 153 = some true := by kernel_rfl
theorem tz153 : tZ Tryd.prog 153 = some [] := by kernel_rfl
theorem tv153 : tV Tryd.prog 153 = some (.agg ⟨[]⟩) := by kernel_rfl
theorem tf153_0 : tF Tryd.prog 153 0 = some (0, 152) := by kernel_rfl
theorem tp153 : tP Tryd.prog 153 = some (.inl [(0, 0)]) := by kernel_rfl
theorem tc153 : Tryd.prog.concrete 153 = true := by kernel_rfl
theorem tg153 : Tryd.prog.eqGuardType Tryd.prog.depth 153 = false := by kernel_rfl
theorem ts154 : tS Tryd.prog 154 = some 0 := by kernel_rfl
theorem tb154 : tB Tryd.prog 154 = some 0 := by kernel_rfl
theorem ta154 : tA Tryd.prog 154 = some true := by kernel_rfl
theorem tz154 : tZ Tryd.prog 154 = some [] := by kernel_rfl
theorem tv154 : tV Tryd.prog 154 = some (.agg ⟨[]⟩) := by kernel_rfl
theorem tf154_0 : tF Tryd.prog 154 0 = some (0, 152) := by kernel_rfl
theorem tp154 : tP Tryd.prog 154 = some (.inl [(0, 0)]) := by kernel_rfl
theorem tc154 : Tryd.prog.concrete 154 = true := by kernel_rfl
theorem tg154 : Tryd.prog.eqGuardType Tryd.prog.depth 154 = false := by kernel_rfl
theorem ts155 : tS Tryd.prog 155 = some 1 := by kernel_rfl
theorem tb155 : tB Tryd.prog 155 = some 1 := by kernel_rfl
theorem ta155 : tA Tryd.prog 155 = some false := by kernel_rfl
theorem tz155 : tZ Tryd.prog 155 = some [.int .u8 0] := by kernel_rfl
theorem tv155 : tV Tryd.prog 155 = some (.int .u8 0) := by kernel_rfl
theorem tc155 : Tryd.prog.concrete 155 = true := by kernel_rfl
theorem ts156 : tS Tryd.prog 156 = some 1 := by kernel_rfl
theorem tb156 : tB Tryd.prog 156 = some 1 := by kernel_rfl
theorem ta156 : tA Tryd.prog 156 = some false := by kernel_rfl
theorem tz156 : tZ Tryd.prog 156 = some [.int .u8 0] := by kernel_rfl
theorem tv156 : tV Tryd.prog 156 = some (.int .u8 0) := by kernel_rfl
theorem tc156 : Tryd.prog.concrete 156 = true := by kernel_rfl
theorem ts157 : tS Tryd.prog 157 = some 1 := by kernel_rfl
theorem tb157 : tB Tryd.prog 157 = some 8 := by kernel_rfl
theorem ta157 : tA Tryd.prog 157 = some false := by kernel_rfl
theorem tz157 : tZ Tryd.prog 157 = some [.nilFunc] := by kernel_rfl
theorem tv157 : tV Tryd.prog 157 = some (.nilFunc) := by kernel_rfl
theorem tc157 : Tryd.prog.concrete 157 = true := by kernel_rfl
theorem ts158 : tS Tryd.prog 158 = some 1 := by kernel_rfl
theorem tb158 : tB Tryd.prog 158 = some 4 := by kernel_rfl
theorem ta158 : tA Tryd.prog 158 = some false := by kernel_rfl
theorem tz158 : tZ Tryd.prog 158 = some [.int .i32 0] := by kernel_rfl
theorem tv158 : tV Tryd.prog 158 = some (.int .i32 0) := by kernel_rfl
theorem tc158 : Tryd.prog.concrete 158 = true := by kernel_rfl
theorem ts159 : tS Tryd.prog 159 = some 1 := by kernel_rfl
theorem tb159 : tB Tryd.prog 159 = some 4 := by kernel_rfl
theorem ta159 : tA Tryd.prog 159 = some false := by kernel_rfl
theorem tz159 : tZ Tryd.prog 159 = some [.int .i32 0] := by kernel_rfl
theorem tv159 : tV Tryd.prog 159 = some (.int .i32 0) := by kernel_rfl
theorem tc159 : Tryd.prog.concrete 159 = true := by kernel_rfl
theorem ts160 : tS Tryd.prog 160 = some 11 := by kernel_rfl
theorem tb160 : tB Tryd.prog 160 = some 48 := by kernel_rfl
theorem ta160 : tA Tryd.prog 160 = some true := by kernel_rfl
theorem tz160 : tZ Tryd.prog 160 = some [.int .u64 0, .int .u64 0, .int .u32 0, .int .u8 0, .int .u8 0, .int .u8 0, .int .u8 0, .nilFunc, .pointer none, .int .i32 0, .int .i32 0] := by kernel_rfl
theorem tv160 : tV Tryd.prog 160 = some (.agg ⟨[.int .u64 0, .int .u64 0, .int .u32 0, .int .u8 0, .int .u8 0, .int .u8 0, .int .u8 0, .nilFunc, .pointer none, .int .i32 0, .int .i32 0]⟩) := by kernel_rfl
theorem tf160_0 : tF Tryd.prog 160 0 = some (0, 12) := by kernel_rfl
theorem tf160_1 : tF Tryd.prog 160 1 = some (1, 12) := by kernel_rfl
theorem tf160_2 : tF Tryd.prog 160 2 = some (2, 139) := by kernel_rfl
theorem tf160_3 : tF Tryd.prog 160 3 = some (3, 155) := by kernel_rfl
theorem tf160_4 : tF Tryd.prog 160 4 = some (4, 5) := by kernel_rfl
theorem tf160_5 : tF Tryd.prog 160 5 = some (5, 5) := by kernel_rfl
theorem tf160_6 : tF Tryd.prog 160 6 = some (6, 156) := by kernel_rfl
theorem tf160_7 : tF Tryd.prog 160 7 = some (7, 157) := by kernel_rfl
theorem tf160_8 : tF Tryd.prog 160 8 = some (8, 113) := by kernel_rfl
theorem tf160_9 : tF Tryd.prog 160 9 = some (9, 158) := by kernel_rfl
theorem tf160_10 : tF Tryd.prog 160 10 = some (10, 159) := by kernel_rfl
theorem tp160 : tP Tryd.prog 160 = some (.inl [(0, 1), (1, 1), (2, 1), (3, 1), (4, 1), (5, 1), (6, 1), (7, 1), (8, 1), (9, 1), (10, 1)]) := by kernel_rfl
theorem tc160 : Tryd.prog.concrete 160 = true := by kernel_rfl
theorem tg160 : Tryd.prog.eqGuardType Tryd.prog.depth 160 = false := by kernel_rfl
theorem ts161 : tS Tryd.prog 161 = some 11 := by kernel_rfl
theorem tb161 : tB Tryd.prog 161 = some 48 := by kernel_rfl
theorem ta161 : tA Tryd.prog 161 = some true := by kernel_rfl
theorem tz161 : tZ Tryd.prog 161 = some [.int .u64 0, .int .u64 0, .int .u32 0, .int .u8 0, .int .u8 0, .int .u8 0, .int .u8 0, .nilFunc, .pointer none, .int .i32 0, .int .i32 0] := by kernel_rfl
theorem tv161 : tV Tryd.prog 161 = some (.agg ⟨[.int .u64 0, .int .u64 0, .int .u32 0, .int .u8 0, .int .u8 0, .int .u8 0, .int .u8 0, .nilFunc, .pointer none, .int .i32 0, .int .i32 0]⟩) := by kernel_rfl
theorem tf161_0 : tF Tryd.prog 161 0 = some (0, 12) := by kernel_rfl
theorem tf161_1 : tF Tryd.prog 161 1 = some (1, 12) := by kernel_rfl
theorem tf161_2 : tF Tryd.prog 161 2 = some (2, 139) := by kernel_rfl
theorem tf161_3 : tF Tryd.prog 161 3 = some (3, 155) := by kernel_rfl
theorem tf161_4 : tF Tryd.prog 161 4 = some (4, 5) := by kernel_rfl
theorem tf161_5 : tF Tryd.prog 161 5 = some (5, 5) := by kernel_rfl
theorem tf161_6 : tF Tryd.prog 161 6 = some (6, 156) := by kernel_rfl
theorem tf161_7 : tF Tryd.prog 161 7 = some (7, 157) := by kernel_rfl
theorem tf161_8 : tF Tryd.prog 161 8 = some (8, 113) := by kernel_rfl
theorem tf161_9 : tF Tryd.prog 161 9 = some (9, 158) := by kernel_rfl
theorem tf161_10 : tF Tryd.prog 161 10 = some (10, 159) := by kernel_rfl
theorem tp161 : tP Tryd.prog 161 = some (.inl [(0, 1), (1, 1), (2, 1), (3, 1), (4, 1), (5, 1), (6, 1), (7, 1), (8, 1), (9, 1), (10, 1)]) := by kernel_rfl
theorem tc161 : Tryd.prog.concrete 161 = true := by kernel_rfl
theorem tg161 : Tryd.prog.eqGuardType Tryd.prog.depth 161 = false := by kernel_rfl
attribute [go_sem] ts1 tb1 ta1 tz1 tv1 tc1 ts2 tb2 ta2 tz2 tv2 tc2 ts3 tb3 ta3 tz3 tv3 tc3 ts4 tb4 ta4 tz4 tv4 tc4 ts5 tb5 ta5 tz5 tv5 tc5 ts6 tb6 ta6 tz6 tv6 tc6 ts7 tb7 ta7 tz7 tv7 tf7_0 tf7_1 tf7_2 tf7_3 tp7 tc7 tg7 ts8 tb8 ta8 tz8 tv8 tf8_0 tf8_1 tf8_2 tf8_3 tp8 tc8 tg8 ts9 tb9 ta9 tz9 tv9 tc9 ts10 tb10 ta10 tz10 tv10 tc10 ts11 tb11 ta11 tz11 tv11 tc11 ts12 tb12 ta12 tz12 tv12 tc12 ts13 tb13 ta13 tz13 tv13 tf13_0 tf13_1 tp13 tc13 tg13 ts14 tb14 ta14 tz14 tv14 tf14_0 tf14_1 tp14 tc14 tg14 ts15 tb15 ta15 tz15 tv15 tc15 ts16 tb16 ta16 tz16 tv16 tc16 ts17 tb17 ta17 tz17 tv17 tc17 ts18 tb18 ta18 tz18 tv18 tf18_0 tp18 tc18 tg18 ts19 tb19 ta19 tz19 tv19 tf19_0 tp19 tc19 tg19 ts20 tb20 ta20 tz20 tv20 ts21 tb21 ta21 tz21 tv21 tc21 ts22 tb22 ta22 tz22 tv22 tc22 ts23 tb23 ta23 tz23 tv23 tc23 ts24 tb24 ta24 tz24 tv24 tc24 ts25 tb25 ta25 tz25 tv25 tf25_0 tf25_1 tf25_2 tf25_3 tf25_4 tp25 tc25 tg25 ts26 tb26 ta26 tz26 tv26 tf26_0 tf26_1 tf26_2 tf26_3 tf26_4 tp26 tc26 tg26 ts27 tb27 ta27 tz27 tv27 tc27 ts29 tb29 ta29 tz29 tv29 tc29 ts31 tb31 ta31 tz31 tv31 tc31 ts32 tb32 ta32 tz32 tv32 tc32 ts34 tb34 ta34 tz34 tv34 tc34 ts35 tb35 ta35 tz35 tv35 tc35 ts36 tb36 ta36 tz36 tv36 tc36 ts37 tb37 ta37 tz37 tv37 tc37 ts38 tb38 ta38 tz38 tv38 tc38 ts40 tb40 ta40 tz40 tv40 tc40 ts41 tb41 ta41 tz41 tv41 tc41 ts42 tb42 ta42 tz42 tv42 tc42 ts43 tb43 ta43 tz43 tv43 tc43 ts44 tb44 ta44 tz44 tv44 tc44 ts45 tb45 ta45 tz45 tv45 tf45_0 tf45_1 tp45 tc45 tg45 ts46 tb46 ta46 tz46 tv46 tf46_0 tf46_1 tp46 tc46 tg46 ts48 tb48 ta48 tz48 tv48 tc48 ts49 tb49 ta49 tz49 tv49 tf49_0 tf49_1 tf49_2 tp49 tc49 tg49 ts50 tb50 ta50 tz50 tv50 tf50_0 tf50_1 tf50_2 tp50 tc50 tg50 ts51 tb51 ta51 tz51 tv51 tc51 ts52 tb52 ta52 tz52 tv52 tc52 ts53 tb53 ta53 tz53 tv53 tf53_0 tf53_1 tf53_2 tf53_3 tf53_4 tp53 tc53 tg53 ts54 tb54 ta54 tz54 tv54 tf54_0 tf54_1 tf54_2 tf54_3 tf54_4 tp54 tc54 tg54 ts55 tb55 ta55 tz55 tv55 tc55 ts56 tb56 ta56 tz56 tv56 tc56 ts57 tb57 ta57 tz57 tv57 tc57 ts58 tb58 ta58 tz58 tv58 tf58_0 tf58_1 tp58 tc58 tg58 ts59 tb59 ta59 tz59 tv59 tf59_0 tf59_1 tp59 tc59 tg59 ts60 tb60 ta60 tz60 tv60 tc60 ts61 tb61 ta61 tz61 tv61 tc61 ts62 tb62 ta62 tz62 tv62 tc62 ts63 tb63 ta63 tz63 tv63 tc63 ts65 tb65 ta65 tz65 tv65 tc65 ts66 tb66 ta66 tz66 tv66 tc66 ts67 tb67 ta67 tz67 tv67 tc67 ts68 tb68 ta68 tz68 tv68 tc68 ts69 tb69 ta69 tz69 tv69 tc69 ts70 tb70 ta70 tz70 tv70 tc70 ts71 tb71 ta71 tz71 tv71 tc71 ts72 tb72 ta72 tz72 tv72 tc72 ts74 tb74 ta74 tz74 tv74 tc74 ts75 tb75 ta75 tz75 tv75 tc75 ts76 tb76 ta76 tz76 tv76 tc76 ts77 tb77 ta77 tz77 tv77 tc77 ts78 tb78 ta78 tz78 tv78 tc78 ts79 tb79 ta79 tz79 tv79 tc79 ts80 tb80 ta80 tz80 tv80 tc80 ts81 tb81 ta81 tz81 tv81 tc81 ts82 tb82 ta82 tz82 tv82 tc82 ts83 tb83 ta83 tz83 tv83 tc83 ts84 tb84 ta84 tz84 tv84 tc84 ts85 tb85 ta85 tz85 tv85 tc85 ts87 tb87 ta87 tz87 tv87 tc87 ts88 tb88 ta88 tz88 tv88 tc88 ts89 tb89 ta89 tz89 tv89 tc89 ts90 tb90 ta90 tz90 tv90 tf90_0 tf90_1 tp90 tc90 tg90 ts91 tb91 ta91 tz91 tv91 tf91_0 tf91_1 tp91 tc91 tg91 ts92 tb92 ta92 tz92 tv92 tc92 ts93 tb93 ta93 tz93 tv93 tp93 tc93 tg93 ts94 tb94 ta94 tz94 tv94 tc94 ts95 tb95 ta95 tz95 tv95 tc95 ts96 tb96 ta96 tz96 tv96 tp96 tc96 tg96 ts97 tb97 ta97 tz97 tv97 tc97 ts98 tb98 ta98 tz98 tv98 tc98 ts99 tb99 ta99 tz99 tv99 ts100 tb100 ta100 tz100 tv100 ts102 tb102 ta102 tz102 tv102 tc102 ts103 tb103 ta103 tz103 tv103 tc103 ts104 tb104 ta104 tz104 tv104 tc104 ts105 tb105 ta105 tz105 tv105 tc105 ts106 tb106 ta106 tz106 tv106 tc106 ts107 tb107 ta107 tz107 tv107 tc107 ts108 tb108 ta108 tz108 tv108 tc108 ts109 tb109 ta109 tz109 tv109 tc109 ts110 tb110 ta110 tz110 tv110 tc110 ts111 tb111 ta111 tz111 tv111 tc111 ts112 tb112 ta112 tz112 tv112 tc112 ts113 tb113 ta113 tz113 tv113 tc113 ts114 tb114 ta114 tz114 tv114 tc114 ts115 tb115 ta115 tz115 tv115 tc115 ts116 tb116 ta116 tz116 tv116 tc116 ts118 tb118 ta118 tz118 tv118 tc118 ts119 tb119 ta119 tz119 tv119 tc119 ts120 tb120 ta120 tz120 tv120 tc120 ts121 tb121 ta121 tz121 tv121 tc121 ts122 tb122 ta122 tz122 tv122 tc122 ts123 tb123 ta123 tz123 tv123 tc123 ts124 tb124 ta124 tz124 tv124 tp124 tc124 tg124 ts125 tb125 ta125 tz125 tv125 tc125 ts126 tb126 ta126 tz126 tv126 tc126 ts127 tb127 ta127 tz127 tv127 tc127 ts129 tb129 ta129 tz129 tv129 tc129 ts130 tb130 ta130 tz130 tv130 tc130 ts131 tb131 ta131 tz131 tv131 tc131 ts133 tb133 ta133 tz133 tv133 tc133 ts134 tb134 ta134 tz134 tv134 tf134_0 tf134_1 tf134_2 tp134 tc134 ts135 tb135 ta135 tz135 tv135 tf135_0 tf135_1 tf135_2 tp135 tc135 ts136 tb136 ta136 tz136 tv136 tc136 ts137 tb137 ta137 tz137 tv137 tc137 ts138 tb138 ta138 tz138 tv138 tp138 tc138 tg138 ts139 tb139 ta139 tz139 tv139 tc139 ts140 tb140 ta140 tp140 tc140 tg140 ts141 tb141 ta141 tz141 tv141 tc141 ts142 tb142 ta142 tz142 tv142 tc142 ts143 tb143 ta143 tz143 tv143 tc143 ts144 tb144 ta144 tz144 tv144 tc144 ts145 tb145 ta145 tz145 tv145 tf145_0 tp145 tc145 tg145 ts146 tb146 ta146 tz146 tv146 tf146_0 tp146 tc146 tg146 ts147 tb147 ta147 tz147 tv147 tc147 ts148 tb148 ta148 tz148 tv148 tp148 tc148 tg148 ts149 tb149 ta149 tz149 tv149 tp149 tc149 tg149 ts150 tb150 ta150 tz150 tv150 tf150_0 tf150_1 tf150_2 tf150_3 tp150 tc150 tg150 ts151 tb151 ta151 tz151 tv151 tf151_0 tf151_1 tf151_2 tf151_3 tp151 tc151 tg151 ts152 tb152 ta152 tz152 tv152 tp152 tc152 tg152 ts153 tb153 ta153 tz153 tv153 tf153_0 tp153 tc153 tg153 ts154 tb154 ta154 tz154 tv154 tf154_0 tp154 tc154 tg154 ts155 tb155 ta155 tz155 tv155 tc155 ts156 tb156 ta156 tz156 tv156 tc156 ts157 tb157 ta157 tz157 tv157 tc157 ts158 tb158 ta158 tz158 tv158 tc158 ts159 tb159 ta159 tz159 tv159 tc159 ts160 tb160 ta160 tz160 tv160 tf160_0 tf160_1 tf160_2 tf160_3 tf160_4 tf160_5 tf160_6 tf160_7 tf160_8 tf160_9 tf160_10 tp160 tc160 tg160 ts161 tb161 ta161 tz161 tv161 tf161_0 tf161_1 tf161_2 tf161_3 tf161_4 tf161_5 tf161_6 tf161_7 tf161_8 tf161_9 tf161_10 tp161 tc161 tg161
attribute [go_sem] Tryd.underlying0 Tryd.underlying1 Tryd.underlying2 Tryd.underlying3 Tryd.underlying4 Tryd.underlying5 Tryd.underlying6 Tryd.underlying7 Tryd.underlying8 Tryd.underlying9 Tryd.underlying10 Tryd.underlying11 Tryd.underlying12 Tryd.underlying13 Tryd.underlying14 Tryd.underlying15 Tryd.underlying16 Tryd.underlying17 Tryd.underlying18 Tryd.underlying19 Tryd.underlying20 Tryd.underlying21 Tryd.underlying22 Tryd.underlying23 Tryd.underlying24 Tryd.underlying25 Tryd.underlying26 Tryd.underlying27 Tryd.underlying28 Tryd.underlying29 Tryd.underlying30 Tryd.underlying31 Tryd.underlying32 Tryd.underlying33 Tryd.underlying34 Tryd.underlying35 Tryd.underlying36 Tryd.underlying37 Tryd.underlying38 Tryd.underlying39 Tryd.underlying40 Tryd.underlying41 Tryd.underlying42 Tryd.underlying43 Tryd.underlying44 Tryd.underlying45 Tryd.underlying46 Tryd.underlying47 Tryd.underlying48 Tryd.underlying49 Tryd.underlying50 Tryd.underlying51 Tryd.underlying52 Tryd.underlying53 Tryd.underlying54 Tryd.underlying55 Tryd.underlying56 Tryd.underlying57 Tryd.underlying58 Tryd.underlying59 Tryd.underlying60 Tryd.underlying61 Tryd.underlying62 Tryd.underlying63 Tryd.underlying64 Tryd.underlying65 Tryd.underlying66 Tryd.underlying67 Tryd.underlying68 Tryd.underlying69 Tryd.underlying70 Tryd.underlying71 Tryd.underlying72 Tryd.underlying73 Tryd.underlying74 Tryd.underlying75 Tryd.underlying76 Tryd.underlying77 Tryd.underlying78 Tryd.underlying79 Tryd.underlying80 Tryd.underlying81 Tryd.underlying82 Tryd.underlying83 Tryd.underlying84 Tryd.underlying85 Tryd.underlying86 Tryd.underlying87 Tryd.underlying88 Tryd.underlying89 Tryd.underlying90 Tryd.underlying91 Tryd.underlying92 Tryd.underlying93 Tryd.underlying94 Tryd.underlying95 Tryd.underlying96 Tryd.underlying97 Tryd.underlying98 Tryd.underlying99 Tryd.underlying100 Tryd.underlying101 Tryd.underlying102 Tryd.underlying103 Tryd.underlying104 Tryd.underlying105 Tryd.underlying106 Tryd.underlying107 Tryd.underlying108 Tryd.underlying109 Tryd.underlying110 Tryd.underlying111 Tryd.underlying112 Tryd.underlying113 Tryd.underlying114 Tryd.underlying115 Tryd.underlying116 Tryd.underlying117 Tryd.underlying118 Tryd.underlying119 Tryd.underlying120 Tryd.underlying121 Tryd.underlying122 Tryd.underlying123 Tryd.underlying124 Tryd.underlying125 Tryd.underlying126 Tryd.underlying127 Tryd.underlying128 Tryd.underlying129 Tryd.underlying130 Tryd.underlying131 Tryd.underlying132 Tryd.underlying133 Tryd.underlying134 Tryd.underlying135 Tryd.underlying136 Tryd.underlying137 Tryd.underlying138 Tryd.underlying139 Tryd.underlying140 Tryd.underlying141 Tryd.underlying142 Tryd.underlying143 Tryd.underlying144 Tryd.underlying145 Tryd.underlying146 Tryd.underlying147 Tryd.underlying148 Tryd.underlying149 Tryd.underlying150 Tryd.underlying151 Tryd.underlying152 Tryd.underlying153 Tryd.underlying154 Tryd.underlying155 Tryd.underlying156 Tryd.underlying157 Tryd.underlying158 Tryd.underlying159 Tryd.underlying160 Tryd.underlying161
end Go.Proofs.YthcdjconlfdidaaDoor

