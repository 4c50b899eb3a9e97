/-
 The facts on the types of the translation: sizes, zero values, fields. Written by a program.
-/
import Derived.Test.YthcdjconlfdidaaDoorAwB
import Derived.Test.YthcdjconlfdidaaDoorProg
import Derived.KernelRfl
namespace Go.Proofs.YthcdjconlfdidaaDoor
open Go.Aw Go.Proofs

theorem ts3 : tS Tryd.prog 3 = some 1 := by kernel_rfl
theorem tb3 : tB Tryd.prog 3 = some 8 := by kernel_rfl
theorem ta3 : tA Tryd.prog 3 = some false := by kernel_rfl
theorem tz3 : tZ Tryd.prog 3 = some [.int .i64 0] := by kernel_rfl
theorem tv3 : tV Tryd.prog 3 = some (.int .i64 0) := by kernel_rfl
theorem tc3 : Tryd.prog.concrete 3 = true := by kernel_rfl
theorem ts4 : tS Tryd.prog 4 = some 1 := by kernel_rfl
theorem tb4 : tB Tryd.prog 4 = some 1 := by kernel_rfl
theorem ta4 : tA Tryd.prog 4 = some false := by kernel_rfl
theorem tz4 : tZ Tryd.prog 4 = some [.bool false] := by kernel_rfl
theorem tv4 : tV Tryd.prog 4 = some (.bool false) := by kernel_rfl
theorem tc4 : Tryd.prog.concrete 4 = true := by kernel_rfl
theorem ts5 : tS Tryd.prog 5 = some 1 := by kernel_rfl
theorem tb5 : tB Tryd.prog 5 = some 1 := by kernel_rfl
theorem ta5 : tA Tryd.prog 5 = some false := by kernel_rfl
theorem tz5 : tZ Tryd.prog 5 = some [.int .u8 0] := by kernel_rfl
theorem tv5 : tV Tryd.prog 5 = some (.int .u8 0) := by kernel_rfl
theorem tc5 : Tryd.prog.concrete 5 = true := by kernel_rfl
theorem ts9 : tS Tryd.prog 9 = some 1 := by kernel_rfl
theorem tb9 : tB Tryd.prog 9 = some 16 := by kernel_rfl
theorem ta9 : tA Tryd.prog 9 = some false := by kernel_rfl
theorem tz9 : tZ Tryd.prog 9 = some [.string (bs [])] := by kernel_rfl
theorem tv9 : tV Tryd.prog 9 = some (.string (bs [])) := by kernel_rfl
theorem tc9 : Tryd.prog.concrete 9 = true := by kernel_rfl
theorem ts20 : tS Tryd.prog 20 = some 1 := by kernel_rfl
theorem tb20 : tB Tryd.prog 20 = some 16 := by kernel_rfl
theorem ta20 : tA Tryd.prog 20 = some false := by kernel_rfl
theorem tz20 : tZ Tryd.prog 20 = some [.nilIface] := by kernel_rfl
theorem tv20 : tV Tryd.prog 20 = some (.nilIface) := by kernel_rfl
theorem ts23 : tS Tryd.prog 23 = some 1 := by kernel_rfl
theorem tb23 : tB Tryd.prog 23 = some 24 := by kernel_rfl
theorem ta23 : tA Tryd.prog 23 = some false := by kernel_rfl
theorem tz23 : tZ Tryd.prog 23 = some [.slice none 0 0] := by kernel_rfl
theorem tv23 : tV Tryd.prog 23 = some (.slice none 0 0) := by kernel_rfl
theorem tc23 : Tryd.prog.concrete 23 = true := by kernel_rfl
theorem ts24 : tS Tryd.prog 24 = some 1 := by kernel_rfl
theorem tb24 : tB Tryd.prog 24 = some 24 := by kernel_rfl
theorem ta24 : tA Tryd.prog 24 = some false := by kernel_rfl
theorem tz24 : tZ Tryd.prog 24 = some [.slice none 0 0] := by kernel_rfl
theorem tv24 : tV Tryd.prog 24 = some (.slice none 0 0) := by kernel_rfl
theorem tc24 : Tryd.prog.concrete 24 = true := by kernel_rfl
theorem ts26 : tS Tryd.prog 26 = some 5 := by kernel_rfl
theorem tb26 : tB Tryd.prog 26 = some 80 := by kernel_rfl
theorem ta26 : tA Tryd.prog 26 = some true := by kernel_rfl
theorem tz26 : tZ Tryd.prog 26 = some [.int .i64 0, .int .i64 0, .string (bs []), .slice none 0 0, .slice none 0 0] := by kernel_rfl
theorem tv26 : tV Tryd.prog 26 = some (.agg ⟨[.int .i64 0, .int .i64 0, .string (bs []), .slice none 0 0, .slice none 0 0]⟩) := by kernel_rfl
theorem tf26_0 : tF Tryd.prog 26 0 = some (0, 3) := by kernel_rfl
theorem tf26_1 : tF Tryd.prog 26 1 = some (1, 3) := by kernel_rfl
theorem tf26_2 : tF Tryd.prog 26 2 = some (2, 9) := by kernel_rfl
theorem tf26_3 : tF Tryd.prog 26 3 = some (3, 23) := by kernel_rfl
theorem tf26_4 : tF Tryd.prog 26 4 = some (4, 24) := by kernel_rfl
theorem tp26 : tP Tryd.prog 26 = some (.inl [(0, 1), (1, 1), (2, 1), (3, 1), (4, 1)]) := by kernel_rfl
theorem tc26 : Tryd.prog.concrete 26 = true := by kernel_rfl
theorem tg26 : Tryd.prog.eqGuardType Tryd.prog.depth 26 = false := by kernel_rfl
theorem ts27 : tS Tryd.prog 27 = some 1 := by kernel_rfl
theorem tb27 : tB Tryd.prog 27 = some 8 := by kernel_rfl
theorem ta27 : tA Tryd.prog 27 = some false := by kernel_rfl
theorem tz27 : tZ Tryd.prog 27 = some [.int .i64 0] := by kernel_rfl
theorem tv27 : tV Tryd.prog 27 = some (.int .i64 0) := by kernel_rfl
theorem tc27 : Tryd.prog.concrete 27 = true := by kernel_rfl
theorem ts37 : tS Tryd.prog 37 = some 1 := by kernel_rfl
theorem tb37 : tB Tryd.prog 37 = some 8 := by kernel_rfl
theorem ta37 : tA Tryd.prog 37 = some false := by kernel_rfl
theorem tz37 : tZ Tryd.prog 37 = some [.nilFunc] := by kernel_rfl
theorem tv37 : tV Tryd.prog 37 = some (.nilFunc) := by kernel_rfl
theorem tc37 : Tryd.prog.concrete 37 = true := by kernel_rfl
theorem ts46 : tS Tryd.prog 46 = some 2 := by kernel_rfl
theorem tb46 : tB Tryd.prog 46 = some 16 := by kernel_rfl
theorem ta46 : tA Tryd.prog 46 = some true := by kernel_rfl
theorem tz46 : tZ Tryd.prog 46 = some [.int .i64 0, .int .i64 0] := by kernel_rfl
theorem tv46 : tV Tryd.prog 46 = some (.agg ⟨[.int .i64 0, .int .i64 0]⟩) := by kernel_rfl
theorem tf46_0 : tF Tryd.prog 46 0 = some (0, 3) := by kernel_rfl
theorem tf46_1 : tF Tryd.prog 46 1 = some (1, 27) := by kernel_rfl
theorem tp46 : tP Tryd.prog 46 = some (.inl [(0, 1), (1, 1)]) := by kernel_rfl
theorem tc46 : Tryd.prog.concrete 46 = true := by kernel_rfl
theorem tg46 : Tryd.prog.eqGuardType Tryd.prog.depth 46 = false := by kernel_rfl
theorem ts48 : tS Tryd.prog 48 = some 1 := by kernel_rfl
theorem tb48 : tB Tryd.prog 48 = some 8 := by kernel_rfl
theorem ta48 : tA Tryd.prog 48 = some false := by kernel_rfl
theorem tz48 : tZ Tryd.prog 48 = some [.pointer none] := by kernel_rfl
theorem tv48 : tV Tryd.prog 48 = some (.pointer none) := by kernel_rfl
theorem tc48 : Tryd.prog.concrete 48 = true := by kernel_rfl
theorem ts50 : tS Tryd.prog 50 = some 3 := by kernel_rfl
theorem tb50 : tB Tryd.prog 50 = some 32 := by kernel_rfl
theorem ta50 : tA Tryd.prog 50 = some true := by kernel_rfl
theorem tz50 : tZ Tryd.prog 50 = some [.string (bs []), .int .i64 0, .int .i64 0] := by kernel_rfl
theorem tv50 : tV Tryd.prog 50 = some (.agg ⟨[.string (bs []), .int .i64 0, .int .i64 0]⟩) := by kernel_rfl
theorem tf50_0 : tF Tryd.prog 50 0 = some (0, 9) := by kernel_rfl
theorem tf50_1 : tF Tryd.prog 50 1 = some (1, 3) := by kernel_rfl
theorem tf50_2 : tF Tryd.prog 50 2 = some (2, 3) := by kernel_rfl
theorem tp50 : tP Tryd.prog 50 = some (.inl [(0, 1), (1, 1), (2, 1)]) := by kernel_rfl
theorem tc50 : Tryd.prog.concrete 50 = true := by kernel_rfl
theorem tg50 : Tryd.prog.eqGuardType Tryd.prog.depth 50 = false := by kernel_rfl
theorem ts52 : tS Tryd.prog 52 = some 1 := by kernel_rfl
theorem tb52 : tB Tryd.prog 52 = some 8 := by kernel_rfl
theorem ta52 : tA Tryd.prog 52 = some false := by kernel_rfl
theorem tz52 : tZ Tryd.prog 52 = some [.pointer none] := by kernel_rfl
theorem tv52 : tV Tryd.prog 52 = some (.pointer none) := by kernel_rfl
theorem tc52 : Tryd.prog.concrete 52 = true := by kernel_rfl
theorem ts54 : tS Tryd.prog 54 = some 5 := by kernel_rfl
theorem tb54 : tB Tryd.prog 54 = some 48 := by kernel_rfl
theorem ta54 : tA Tryd.prog 54 = some true := by kernel_rfl
theorem tz54 : tZ Tryd.prog 54 = some [.string (bs []), .int .i64 0, .int .i64 0, .int .i64 0, .int .i64 0] := by kernel_rfl
theorem tv54 : tV Tryd.prog 54 = some (.agg ⟨[.string (bs []), .int .i64 0, .int .i64 0, .int .i64 0, .int .i64 0]⟩) := by kernel_rfl
theorem tf54_0 : tF Tryd.prog 54 0 = some (0, 9) := by kernel_rfl
theorem tf54_1 : tF Tryd.prog 54 1 = some (1, 3) := by kernel_rfl
theorem tf54_2 : tF Tryd.prog 54 2 = some (2, 3) := by kernel_rfl
theorem tf54_3 : tF Tryd.prog 54 3 = some (3, 3) := by kernel_rfl
theorem tf54_4 : tF Tryd.prog 54 4 = some (4, 27) := by kernel_rfl
theorem tp54 : tP Tryd.prog 54 = some (.inl [(0, 1), (1, 1), (2, 1), (3, 1), (4, 1)]) := by kernel_rfl
theorem tc54 : Tryd.prog.concrete 54 = true := by kernel_rfl
theorem tg54 : Tryd.prog.eqGuardType Tryd.prog.depth 54 = false := by kernel_rfl
theorem ts57 : tS Tryd.prog 57 = some 1 := by kernel_rfl
theorem tb57 : tB Tryd.prog 57 = some 8 := by kernel_rfl
theorem ta57 : tA Tryd.prog 57 = some false := by kernel_rfl
theorem tz57 : tZ Tryd.prog 57 = some [.pointer none] := by kernel_rfl
theorem tv57 : tV Tryd.prog 57 = some (.pointer none) := by kernel_rfl
theorem tc57 : Tryd.prog.concrete 57 = true := by kernel_rfl
theorem ts59 : tS Tryd.prog 59 = some 2 := by kernel_rfl
theorem tb59 : tB Tryd.prog 59 = some 16 := by kernel_rfl
theorem ta59 : tA Tryd.prog 59 = some true := by kernel_rfl
theorem tz59 : tZ Tryd.prog 59 = some [.int .i64 0, .int .i64 0] := by kernel_rfl
theorem tv59 : tV Tryd.prog 59 = some (.agg ⟨[.int .i64 0, .int .i64 0]⟩) := by kernel_rfl
theorem tf59_0 : tF Tryd.prog 59 0 = some (0, 3) := by kernel_rfl
theorem tf59_1 : tF Tryd.prog 59 1 = some (1, 3) := by kernel_rfl
theorem tp59 : tP Tryd.prog 59 = some (.inl [(0, 1), (1, 1)]) := by kernel_rfl
theorem tc59 : Tryd.prog.concrete 59 = true := by kernel_rfl
theorem tg59 : Tryd.prog.eqGuardType Tryd.prog.depth 59 = false := by kernel_rfl
theorem ts72 : tS Tryd.prog 72 = some 1 := by kernel_rfl
theorem tb72 : tB Tryd.prog 72 = some 8 := by kernel_rfl
theorem ta72 : tA Tryd.prog 72 = some false := by kernel_rfl
theorem tz72 : tZ Tryd.prog 72 = some [.pointer none] := by kernel_rfl
theorem tv72 : tV Tryd.prog 72 = some (.pointer none) := by kernel_rfl
theorem tc72 : Tryd.prog.concrete 72 = true := by kernel_rfl
theorem ts78 : tS Tryd.prog 78 = some 1 := by kernel_rfl
theorem tb78 : tB Tryd.prog 78 = some 8 := by kernel_rfl
theorem ta78 : tA Tryd.prog 78 = some false := by kernel_rfl
theorem tz78 : tZ Tryd.prog 78 = some [.nilFunc] := by kernel_rfl
theorem tv78 : tV Tryd.prog 78 = some (.nilFunc) := by kernel_rfl
theorem tc78 : Tryd.prog.concrete 78 = true := by kernel_rfl
theorem ts88 : tS Tryd.prog 88 = some 1 := by kernel_rfl
theorem tb88 : tB Tryd.prog 88 = some 8 := by kernel_rfl
theorem ta88 : tA Tryd.prog 88 = some false := by kernel_rfl
theorem tz88 : tZ Tryd.prog 88 = some [.pointer none] := by kernel_rfl
theorem tv88 : tV Tryd.prog 88 = some (.pointer none) := by kernel_rfl
theorem tc88 : Tryd.prog.concrete 88 = true := by kernel_rfl
theorem ts89 : tS Tryd.prog 89 = some 1 := by kernel_rfl
theorem tb89 : tB Tryd.prog 89 = some 24 := by kernel_rfl
theorem ta89 : tA Tryd.prog 89 = some false := by kernel_rfl
theorem tz89 : tZ Tryd.prog 89 = some [.slice none 0 0] := by kernel_rfl
theorem tv89 : tV Tryd.prog 89 = some (.slice none 0 0) := by kernel_rfl
theorem tc89 : Tryd.prog.concrete 89 = true := by kernel_rfl
theorem ts91 : tS Tryd.prog 91 = some 2 := by kernel_rfl
theorem tb91 : tB Tryd.prog 91 = some 32 := by kernel_rfl
theorem ta91 : tA Tryd.prog 91 = some true := by kernel_rfl
theorem tz91 : tZ Tryd.prog 91 = some [.pointer none, .slice none 0 0] := by kernel_rfl
theorem tv91 : tV Tryd.prog 91 = some (.agg ⟨[.pointer none, .slice none 0 0]⟩) := by kernel_rfl
theorem tf91_0 : tF Tryd.prog 91 0 = some (0, 88) := by kernel_rfl
theorem tf91_1 : tF Tryd.prog 91 1 = some (1, 89) := by kernel_rfl
theorem tp91 : tP Tryd.prog 91 = some (.inl [(0, 1), (1, 1)]) := by kernel_rfl
theorem tc91 : Tryd.prog.concrete 91 = true := by kernel_rfl
theorem tg91 : Tryd.prog.eqGuardType Tryd.prog.depth 91 = false := by kernel_rfl
theorem ts92 : tS Tryd.prog 92 = some 1 := by kernel_rfl
theorem tb92 : tB Tryd.prog 92 = some 8 := by kernel_rfl
theorem ta92 : tA Tryd.prog 92 = some false := by kernel_rfl
theorem tz92 : tZ Tryd.prog 92 = some [.nilFunc] := by kernel_rfl
theorem tv92 : tV Tryd.prog 92 = some (.nilFunc) := by kernel_rfl
theorem tc92 : Tryd.prog.concrete 92 = true := by kernel_rfl
theorem ts93 : tS Tryd.prog 93 = some 5 := by kernel_rfl
theorem tb93 : tB Tryd.prog 93 = some 40 := by kernel_rfl
theorem ta93 : tA Tryd.prog 93 = some true := by kernel_rfl
theorem tz93 : tZ Tryd.prog 93 = some [.nilFunc, .nilFunc, .nilFunc, .nilFunc, .nilFunc] := by kernel_rfl
theorem tv93 : tV Tryd.prog 93 = some (.agg ⟨[.nilFunc, .nilFunc, .nilFunc, .nilFunc, .nilFunc]⟩) := by kernel_rfl
theorem tp93 : tP Tryd.prog 93 = some (.inr 1) := by kernel_rfl
theorem tc93 : Tryd.prog.concrete 93 = true := by kernel_rfl
theorem tg93 : Tryd.prog.eqGuardType Tryd.prog.depth 93 = false := by kernel_rfl
theorem ts95 : tS Tryd.prog 95 = some 1 := by kernel_rfl
theorem tb95 : tB Tryd.prog 95 = some 8 := by kernel_rfl
theorem ta95 : tA Tryd.prog 95 = some false := by kernel_rfl
theorem tz95 : tZ Tryd.prog 95 = some [.pointer none] := by kernel_rfl
theorem tv95 : tV Tryd.prog 95 = some (.pointer none) := by kernel_rfl
theorem tc95 : Tryd.prog.concrete 95 = true := by kernel_rfl
theorem ts96 : tS Tryd.prog 96 = some 5 := by kernel_rfl
theorem tb96 : tB Tryd.prog 96 = some 40 := by kernel_rfl
theorem ta96 : tA Tryd.prog 96 = some true := by kernel_rfl
theorem tz96 : tZ Tryd.prog 96 = some [.nilFunc, .nilFunc, .nilFunc, .nilFunc, .nilFunc] := by kernel_rfl
theorem tv96 : tV Tryd.prog 96 = some (.agg ⟨[.nilFunc, .nilFunc, .nilFunc, .nilFunc, .nilFunc]⟩) := by kernel_rfl
theorem tp96 : tP Tryd.prog 96 = some (.inr 1) := by kernel_rfl
theorem tc96 : Tryd.prog.concrete 96 = true := by kernel_rfl
theorem tg96 : Tryd.prog.eqGuardType Tryd.prog.depth 96 = false := by kernel_rfl
theorem ts100 : tS Tryd.prog 100 = some 1 := by kernel_rfl
theorem tb100 : tB Tryd.prog 100 = some 16 := by kernel_rfl
theorem ta100 : tA Tryd.prog 100 = some false := by kernel_rfl
theorem tz100 : tZ Tryd.prog 100 = some [.nilIface] := by kernel_rfl
theorem tv100 : tV Tryd.prog 100 = some (.nilIface) := by kernel_rfl
theorem ts106 : tS Tryd.prog 106 = some 1 := by kernel_rfl
theorem tb106 : tB Tryd.prog 106 = some 8 := by kernel_rfl
theorem ta106 : tA Tryd.prog 106 = some false := by kernel_rfl
theorem tz106 : tZ Tryd.prog 106 = some [.nilFunc] := by kernel_rfl
theorem tv106 : tV Tryd.prog 106 = some (.nilFunc) := by kernel_rfl
theorem tc106 : Tryd.prog.concrete 106 = true := by kernel_rfl
theorem ts107 : tS Tryd.prog 107 = some 1 := by kernel_rfl
theorem tb107 : tB Tryd.prog 107 = some 8 := by kernel_rfl
theorem ta107 : tA Tryd.prog 107 = some false := by kernel_rfl
theorem tz107 : tZ Tryd.prog 107 = some [.int .u64 0] := by kernel_rfl
theorem tv107 : tV Tryd.prog 107 = some (.int .u64 0) := by kernel_rfl
theorem tc107 : Tryd.prog.concrete 107 = true := by kernel_rfl
theorem ts113 : tS Tryd.prog 113 = some 1 := by kernel_rfl
theorem tb113 : tB Tryd.prog 113 = some 8 := by kernel_rfl
theorem ta113 : tA Tryd.prog 113 = some false := by kernel_rfl
theorem tz113 : tZ Tryd.prog 113 = some [.pointer none] := by kernel_rfl
theorem tv113 : tV Tryd.prog 113 = some (.pointer none) := by kernel_rfl
theorem tc113 : Tryd.prog.concrete 113 = true := by kernel_rfl
attribute [go_sem] ts3 tb3 ta3 tz3 tv3 tc3 ts4 tb4 ta4 tz4 tv4 tc4 ts5 tb5 ta5 tz5 tv5 tc5 ts9 tb9 ta9 tz9 tv9 tc9 ts20 tb20 ta20 tz20 tv20 ts23 tb23 ta23 tz23 tv23 tc23 ts24 tb24 ta24 tz24 tv24 tc24 ts26 tb26 ta26 tz26 tv26 tf26_0 tf26_1 tf26_2 tf26_3 tf26_4 tp26 tc26 tg26 ts27 tb27 ta27 tz27 tv27 tc27 ts37 tb37 ta37 tz37 tv37 tc37 ts46 tb46 ta46 tz46 tv46 tf46_0 tf46_1 tp46 tc46 tg46 ts48 tb48 ta48 tz48 tv48 tc48 ts50 tb50 ta50 tz50 tv50 tf50_0 tf50_1 tf50_2 tp50 tc50 tg50 ts52 tb52 ta52 tz52 tv52 tc52 ts54 tb54 ta54 tz54 tv54 tf54_0 tf54_1 tf54_2 tf54_3 tf54_4 tp54 tc54 tg54 ts57 tb57 ta57 tz57 tv57 tc57 ts59 tb59 ta59 tz59 tv59 tf59_0 tf59_1 tp59 tc59 tg59 ts72 tb72 ta72 tz72 tv72 tc72 ts78 tb78 ta78 tz78 tv78 tc78 ts88 tb88 ta88 tz88 tv88 tc88 ts89 tb89 ta89 tz89 tv89 tc89 ts91 tb91 ta91 tz91 tv91 tf91_0 tf91_1 tp91 tc91 tg91 ts92 tb92 ta92 tz92 tv92 tc92 ts93 tb93 ta93 tz93 tv93 tp93 tc93 tg93 ts95 tb95 ta95 tz95 tv95 tc95 ts96 tb96 ta96 tz96 tv96 tp96 tc96 tg96 ts100 tb100 ta100 tz100 tv100 ts106 tb106 ta106 tz106 tv106 tc106 ts107 tb107 ta107 tz107 tv107 tc107 ts113 tb113 ta113 tz113 tv113 tc113
attribute [go_sem] Tryd.underlying3 Tryd.underlying4 Tryd.underlying5 Tryd.underlying9 Tryd.underlying20 Tryd.underlying23 Tryd.underlying24 Tryd.underlying26 Tryd.underlying27 Tryd.underlying37 Tryd.underlying46 Tryd.underlying48 Tryd.underlying50 Tryd.underlying52 Tryd.underlying54 Tryd.underlying57 Tryd.underlying59 Tryd.underlying72 Tryd.underlying78 Tryd.underlying88 Tryd.underlying89 Tryd.underlying91 Tryd.underlying92 Tryd.underlying93 Tryd.underlying95 Tryd.underlying96 Tryd.underlying100 Tryd.underlying106 Tryd.underlying107 Tryd.underlying113
end Go.Proofs.YthcdjconlfdidaaDoor

