/-
 The facts on the types of the translation:sizes,zero values,fields. Written by a program.
-/
import Derived.Test.YthcdjconlfdidaaGreatDoorAwB
import Derived.Test.YthcdjconlfdidaaGreatDoorProg
import Derived.KernelRfl
namespace Go.Proofs.YthcdjconlfdidaaGreatDoor
open Go.Aw Go.Proofs
theorem ts3:tS Tryz.prog 3=some 1:=by kernel_rfl
theorem tb3:tB Tryz.prog 3=some 8:=by kernel_rfl
theorem ta3:tA Tryz.prog 3=some false:=by kernel_rfl
theorem tz3:tZ Tryz.prog 3=some [.int .i64 0]:=by kernel_rfl
theorem tv3:tV Tryz.prog 3=some (.int .i64 0):=by kernel_rfl
theorem tc3:Tryz.prog.concrete 3=true:=by kernel_rfl
theorem ts4:tS Tryz.prog 4=some 1:=by kernel_rfl
theorem tb4:tB Tryz.prog 4=some 1:=by kernel_rfl
theorem ta4:tA Tryz.prog 4=some false:=by kernel_rfl
theorem tz4:tZ Tryz.prog 4=some [.bool false]:=by kernel_rfl
theorem tv4:tV Tryz.prog 4=some (.bool false):=by kernel_rfl
theorem tc4:Tryz.prog.concrete 4=true:=by kernel_rfl
theorem ts5:tS Tryz.prog 5=some 1:=by kernel_rfl
theorem tb5:tB Tryz.prog 5=some 1:=by kernel_rfl
theorem ta5:tA Tryz.prog 5=some false:=by kernel_rfl
theorem tz5:tZ Tryz.prog 5=some [.int .u8 0]:=by kernel_rfl
theorem tv5:tV Tryz.prog 5=some (.int .u8 0):=by kernel_rfl
theorem tc5:Tryz.prog.concrete 5=true:=by kernel_rfl
theorem ts9:tS Tryz.prog 9=some 1:=by kernel_rfl
theorem tb9:tB Tryz.prog 9=some 16:=by kernel_rfl
theorem ta9:tA Tryz.prog 9=some false:=by kernel_rfl
theorem tz9:tZ Tryz.prog 9=some [.string (bs [])]:=by kernel_rfl
theorem tv9:tV Tryz.prog 9=some (.string (bs [])):=by kernel_rfl
theorem tc9:Tryz.prog.concrete 9=true:=by kernel_rfl
theorem ts20:tS Tryz.prog 20=some 1:=by kernel_rfl
theorem tb20:tB Tryz.prog 20=some 16:=by kernel_rfl
theorem ta20:tA Tryz.prog 20=some false:=by kernel_rfl
theorem tz20:tZ Tryz.prog 20=some [.nilIface]:=by kernel_rfl
theorem tv20:tV Tryz.prog 20=some (.nilIface):=by kernel_rfl
theorem ts22:tS Tryz.prog 22=some 1:=by kernel_rfl
theorem tb22:tB Tryz.prog 22=some 24:=by kernel_rfl
theorem ta22:tA Tryz.prog 22=some false:=by kernel_rfl
theorem tz22:tZ Tryz.prog 22=some [.slice none 0 0]:=by kernel_rfl
theorem tv22:tV Tryz.prog 22=some (.slice none 0 0):=by kernel_rfl
theorem tc22:Tryz.prog.concrete 22=true:=by kernel_rfl
theorem ts23:tS Tryz.prog 23=some 1:=by kernel_rfl
theorem tb23:tB Tryz.prog 23=some 24:=by kernel_rfl
theorem ta23:tA Tryz.prog 23=some false:=by kernel_rfl
theorem tz23:tZ Tryz.prog 23=some [.slice none 0 0]:=by kernel_rfl
theorem tv23:tV Tryz.prog 23=some (.slice none 0 0):=by kernel_rfl
theorem tc23:Tryz.prog.concrete 23=true:=by kernel_rfl
theorem ts27:tS Tryz.prog 27=some 5:=by kernel_rfl
theorem tb27:tB Tryz.prog 27=some 80:=by kernel_rfl
theorem ta27:tA Tryz.prog 27=some true:=by kernel_rfl
theorem tz27:tZ Tryz.prog 27=some [.int .i64 0,.int .i64 0,.string (bs []),.slice none 0 0,.slice none 0 0]:=by kernel_rfl
theorem tv27:tV Tryz.prog 27=some (.agg ⟨[.int .i64 0,.int .i64 0,.string (bs []),.slice none 0 0,.slice none 0 0]⟩):=by kernel_rfl
theorem tf27_0:tF Tryz.prog 27 0=some (0,3):=by kernel_rfl
theorem tf27_1:tF Tryz.prog 27 1=some (1,3):=by kernel_rfl
theorem tf27_2:tF Tryz.prog 27 2=some (2,9):=by kernel_rfl
theorem tf27_3:tF Tryz.prog 27 3=some (3,23):=by kernel_rfl
theorem tf27_4:tF Tryz.prog 27 4=some (4,22):=by kernel_rfl
theorem tp27:tP Tryz.prog 27=some (.inl [(0,1),(1,1),(2,1),(3,1),(4,1)]):=by kernel_rfl
theorem tc27:Tryz.prog.concrete 27=true:=by kernel_rfl
theorem tg27:Tryz.prog.eqGuardType Tryz.prog.depth 27=false:=by kernel_rfl
theorem ts28:tS Tryz.prog 28=some 1:=by kernel_rfl
theorem tb28:tB Tryz.prog 28=some 8:=by kernel_rfl
theorem ta28:tA Tryz.prog 28=some false:=by kernel_rfl
theorem tz28:tZ Tryz.prog 28=some [.nilFunc]:=by kernel_rfl
theorem tv28:tV Tryz.prog 28=some (.nilFunc):=by kernel_rfl
theorem tc28:Tryz.prog.concrete 28=true:=by kernel_rfl
theorem ts29:tS Tryz.prog 29=some 1:=by kernel_rfl
theorem tb29:tB Tryz.prog 29=some 8:=by kernel_rfl
theorem ta29:tA Tryz.prog 29=some false:=by kernel_rfl
theorem tz29:tZ Tryz.prog 29=some [.int .i64 0]:=by kernel_rfl
theorem tv29:tV Tryz.prog 29=some (.int .i64 0):=by kernel_rfl
theorem tc29:Tryz.prog.concrete 29=true:=by kernel_rfl
theorem ts47:tS Tryz.prog 47=some 1:=by kernel_rfl
theorem tb47:tB Tryz.prog 47=some 8:=by kernel_rfl
theorem ta47:tA Tryz.prog 47=some false:=by kernel_rfl
theorem tz47:tZ Tryz.prog 47=some [.pointer none]:=by kernel_rfl
theorem tv47:tV Tryz.prog 47=some (.pointer none):=by kernel_rfl
theorem tc47:Tryz.prog.concrete 47=true:=by kernel_rfl
theorem ts54:tS Tryz.prog 54=some 2:=by kernel_rfl
theorem tb54:tB Tryz.prog 54=some 16:=by kernel_rfl
theorem ta54:tA Tryz.prog 54=some true:=by kernel_rfl
theorem tz54:tZ Tryz.prog 54=some [.int .i64 0,.int .i64 0]:=by kernel_rfl
theorem tv54:tV Tryz.prog 54=some (.agg ⟨[.int .i64 0,.int .i64 0]⟩):=by kernel_rfl
theorem tf54_0:tF Tryz.prog 54 0=some (0,3):=by kernel_rfl
theorem tf54_1:tF Tryz.prog 54 1=some (1,3):=by kernel_rfl
theorem tp54:tP Tryz.prog 54=some (.inl [(0,1),(1,1)]):=by kernel_rfl
theorem tc54:Tryz.prog.concrete 54=true:=by kernel_rfl
theorem tg54:Tryz.prog.eqGuardType Tryz.prog.depth 54=false:=by kernel_rfl
theorem ts56:tS Tryz.prog 56=some 1:=by kernel_rfl
theorem tb56:tB Tryz.prog 56=some 8:=by kernel_rfl
theorem ta56:tA Tryz.prog 56=some false:=by kernel_rfl
theorem tz56:tZ Tryz.prog 56=some [.nilFunc]:=by kernel_rfl
theorem tv56:tV Tryz.prog 56=some (.nilFunc):=by kernel_rfl
theorem tc56:Tryz.prog.concrete 56=true:=by kernel_rfl
theorem ts59:tS Tryz.prog 59=some 1:=by kernel_rfl
theorem tb59:tB Tryz.prog 59=some 8:=by kernel_rfl
theorem ta59:tA Tryz.prog 59=some false:=by kernel_rfl
theorem tz59:tZ Tryz.prog 59=some [.pointer none]:=by kernel_rfl
theorem tv59:tV Tryz.prog 59=some (.pointer none):=by kernel_rfl
theorem tc59:Tryz.prog.concrete 59=true:=by kernel_rfl
theorem ts61:tS Tryz.prog 61=some 1:=by kernel_rfl
theorem tb61:tB Tryz.prog 61=some 8:=by kernel_rfl
theorem ta61:tA Tryz.prog 61=some false:=by kernel_rfl
theorem tz61:tZ Tryz.prog 61=some [.nilFunc]:=by kernel_rfl
theorem tv61:tV Tryz.prog 61=some (.nilFunc):=by kernel_rfl
theorem tc61:Tryz.prog.concrete 61=true:=by kernel_rfl
theorem ts67:tS Tryz.prog 67=some 1:=by kernel_rfl
theorem tb67:tB Tryz.prog 67=some 8:=by kernel_rfl
theorem ta67:tA Tryz.prog 67=some false:=by kernel_rfl
theorem tz67:tZ Tryz.prog 67=some [.int .u64 0]:=by kernel_rfl
theorem tv67:tV Tryz.prog 67=some (.int .u64 0):=by kernel_rfl
theorem tc67:Tryz.prog.concrete 67=true:=by kernel_rfl
theorem ts75:tS Tryz.prog 75=some 1:=by kernel_rfl
theorem tb75:tB Tryz.prog 75=some 8:=by kernel_rfl
theorem ta75:tA Tryz.prog 75=some false:=by kernel_rfl
theorem tz75:tZ Tryz.prog 75=some [.pointer none]:=by kernel_rfl
theorem tv75:tV Tryz.prog 75=some (.pointer none):=by kernel_rfl
theorem tc75:Tryz.prog.concrete 75=true:=by kernel_rfl
theorem ts76:tS Tryz.prog 76=some 5:=by kernel_rfl
theorem tb76:tB Tryz.prog 76=some 40:=by kernel_rfl
theorem ta76:tA Tryz.prog 76=some true:=by kernel_rfl
theorem tz76:tZ Tryz.prog 76=some [.nilFunc,.nilFunc,.nilFunc,.nilFunc,.nilFunc]:=by kernel_rfl
theorem tv76:tV Tryz.prog 76=some (.agg ⟨[.nilFunc,.nilFunc,.nilFunc,.nilFunc,.nilFunc]⟩):=by kernel_rfl
theorem tp76:tP Tryz.prog 76=some (.inr 1):=by kernel_rfl
theorem tc76:Tryz.prog.concrete 76=true:=by kernel_rfl
theorem tg76:Tryz.prog.eqGuardType Tryz.prog.depth 76=false:=by kernel_rfl
theorem ts80:tS Tryz.prog 80=some 1:=by kernel_rfl
theorem tb80:tB Tryz.prog 80=some 16:=by kernel_rfl
theorem ta80:tA Tryz.prog 80=some false:=by kernel_rfl
theorem tz80:tZ Tryz.prog 80=some [.nilIface]:=by kernel_rfl
theorem tv80:tV Tryz.prog 80=some (.nilIface):=by kernel_rfl
theorem ts83:tS Tryz.prog 83=some 1:=by kernel_rfl
theorem tb83:tB Tryz.prog 83=some 8:=by kernel_rfl
theorem ta83:tA Tryz.prog 83=some false:=by kernel_rfl
theorem tz83:tZ Tryz.prog 83=some [.nilFunc]:=by kernel_rfl
theorem tv83:tV Tryz.prog 83=some (.nilFunc):=by kernel_rfl
theorem tc83:Tryz.prog.concrete 83=true:=by kernel_rfl
theorem ts85:tS Tryz.prog 85=some 2:=by kernel_rfl
theorem tb85:tB Tryz.prog 85=some 16:=by kernel_rfl
theorem ta85:tA Tryz.prog 85=some true:=by kernel_rfl
theorem tz85:tZ Tryz.prog 85=some [.int .i64 0,.int .i64 0]:=by kernel_rfl
theorem tv85:tV Tryz.prog 85=some (.agg ⟨[.int .i64 0,.int .i64 0]⟩):=by kernel_rfl
theorem tf85_0:tF Tryz.prog 85 0=some (0,3):=by kernel_rfl
theorem tf85_1:tF Tryz.prog 85 1=some (1,29):=by kernel_rfl
theorem tp85:tP Tryz.prog 85=some (.inl [(0,1),(1,1)]):=by kernel_rfl
theorem tc85:Tryz.prog.concrete 85=true:=by kernel_rfl
theorem tg85:Tryz.prog.eqGuardType Tryz.prog.depth 85=false:=by kernel_rfl
theorem ts87:tS Tryz.prog 87=some 1:=by kernel_rfl
theorem tb87:tB Tryz.prog 87=some 8:=by kernel_rfl
theorem ta87:tA Tryz.prog 87=some false:=by kernel_rfl
theorem tz87:tZ Tryz.prog 87=some [.pointer none]:=by kernel_rfl
theorem tv87:tV Tryz.prog 87=some (.pointer none):=by kernel_rfl
theorem tc87:Tryz.prog.concrete 87=true:=by kernel_rfl
theorem ts89:tS Tryz.prog 89=some 3:=by kernel_rfl
theorem tb89:tB Tryz.prog 89=some 32:=by kernel_rfl
theorem ta89:tA Tryz.prog 89=some true:=by kernel_rfl
theorem tz89:tZ Tryz.prog 89=some [.string (bs []),.int .i64 0,.int .i64 0]:=by kernel_rfl
theorem tv89:tV Tryz.prog 89=some (.agg ⟨[.string (bs []),.int .i64 0,.int .i64 0]⟩):=by kernel_rfl
theorem tf89_0:tF Tryz.prog 89 0=some (0,9):=by kernel_rfl
theorem tf89_1:tF Tryz.prog 89 1=some (1,3):=by kernel_rfl
theorem tf89_2:tF Tryz.prog 89 2=some (2,3):=by kernel_rfl
theorem tp89:tP Tryz.prog 89=some (.inl [(0,1),(1,1),(2,1)]):=by kernel_rfl
theorem tc89:Tryz.prog.concrete 89=true:=by kernel_rfl
theorem tg89:Tryz.prog.eqGuardType Tryz.prog.depth 89=false:=by kernel_rfl
theorem ts90:tS Tryz.prog 90=some 1:=by kernel_rfl
theorem tb90:tB Tryz.prog 90=some 8:=by kernel_rfl
theorem ta90:tA Tryz.prog 90=some false:=by kernel_rfl
theorem tz90:tZ Tryz.prog 90=some [.pointer none]:=by kernel_rfl
theorem tv90:tV Tryz.prog 90=some (.pointer none):=by kernel_rfl
theorem tc90:Tryz.prog.concrete 90=true:=by kernel_rfl
theorem ts91:tS Tryz.prog 91=some 1:=by kernel_rfl
theorem tb91:tB Tryz.prog 91=some 24:=by kernel_rfl
theorem ta91:tA Tryz.prog 91=some false:=by kernel_rfl
theorem tz91:tZ Tryz.prog 91=some [.slice none 0 0]:=by kernel_rfl
theorem tv91:tV Tryz.prog 91=some (.slice none 0 0):=by kernel_rfl
theorem tc91:Tryz.prog.concrete 91=true:=by kernel_rfl
theorem ts93:tS Tryz.prog 93=some 2:=by kernel_rfl
theorem tb93:tB Tryz.prog 93=some 32:=by kernel_rfl
theorem ta93:tA Tryz.prog 93=some true:=by kernel_rfl
theorem tz93:tZ Tryz.prog 93=some [.pointer none,.slice none 0 0]:=by kernel_rfl
theorem tv93:tV Tryz.prog 93=some (.agg ⟨[.pointer none,.slice none 0 0]⟩):=by kernel_rfl
theorem tf93_0:tF Tryz.prog 93 0=some (0,90):=by kernel_rfl
theorem tf93_1:tF Tryz.prog 93 1=some (1,91):=by kernel_rfl
theorem tp93:tP Tryz.prog 93=some (.inl [(0,1),(1,1)]):=by kernel_rfl
theorem tc93:Tryz.prog.concrete 93=true:=by kernel_rfl
theorem tg93:Tryz.prog.eqGuardType Tryz.prog.depth 93=false:=by kernel_rfl
theorem ts94:tS Tryz.prog 94=some 1:=by kernel_rfl
theorem tb94:tB Tryz.prog 94=some 8:=by kernel_rfl
theorem ta94:tA Tryz.prog 94=some false:=by kernel_rfl
theorem tz94:tZ Tryz.prog 94=some [.nilFunc]:=by kernel_rfl
theorem tv94:tV Tryz.prog 94=some (.nilFunc):=by kernel_rfl
theorem tc94:Tryz.prog.concrete 94=true:=by kernel_rfl
theorem ts95:tS Tryz.prog 95=some 5:=by kernel_rfl
theorem tb95:tB Tryz.prog 95=some 40:=by kernel_rfl
theorem ta95:tA Tryz.prog 95=some true:=by kernel_rfl
theorem tz95:tZ Tryz.prog 95=some [.nilFunc,.nilFunc,.nilFunc,.nilFunc,.nilFunc]:=by kernel_rfl
theorem tv95:tV Tryz.prog 95=some (.agg ⟨[.nilFunc,.nilFunc,.nilFunc,.nilFunc,.nilFunc]⟩):=by kernel_rfl
theorem tp95:tP Tryz.prog 95=some (.inr 1):=by kernel_rfl
theorem tc95:Tryz.prog.concrete 95=true:=by kernel_rfl
theorem tg95:Tryz.prog.eqGuardType Tryz.prog.depth 95=false:=by kernel_rfl
theorem ts108:tS Tryz.prog 108=some 1:=by kernel_rfl
theorem tb108:tB Tryz.prog 108=some 8:=by kernel_rfl
theorem ta108:tA Tryz.prog 108=some false:=by kernel_rfl
theorem tz108:tZ Tryz.prog 108=some [.pointer none]:=by kernel_rfl
theorem tv108:tV Tryz.prog 108=some (.pointer none):=by kernel_rfl
theorem tc108:Tryz.prog.concrete 108=true:=by kernel_rfl
attribute [go_sem] ts3 tb3 ta3 tz3 tv3 tc3 ts4 tb4 ta4 tz4 tv4 tc4 ts5 tb5 ta5 tz5 tv5 tc5 ts9 tb9 ta9 tz9 tv9 tc9 ts20 tb20 ta20 tz20 tv20 ts22 tb22 ta22 tz22 tv22 tc22 ts23 tb23 ta23 tz23 tv23 tc23 ts27 tb27 ta27 tz27 tv27 tf27_0 tf27_1 tf27_2 tf27_3 tf27_4 tp27 tc27 tg27 ts28 tb28 ta28 tz28 tv28 tc28 ts29 tb29 ta29 tz29 tv29 tc29 ts47 tb47 ta47 tz47 tv47 tc47 ts54 tb54 ta54 tz54 tv54 tf54_0 tf54_1 tp54 tc54 tg54 ts56 tb56 ta56 tz56 tv56 tc56 ts59 tb59 ta59 tz59 tv59 tc59 ts61 tb61 ta61 tz61 tv61 tc61 ts67 tb67 ta67 tz67 tv67 tc67 ts75 tb75 ta75 tz75 tv75 tc75 ts76 tb76 ta76 tz76 tv76 tp76 tc76 tg76 ts80 tb80 ta80 tz80 tv80 ts83 tb83 ta83 tz83 tv83 tc83 ts85 tb85 ta85 tz85 tv85 tf85_0 tf85_1 tp85 tc85 tg85 ts87 tb87 ta87 tz87 tv87 tc87 ts89 tb89 ta89 tz89 tv89 tf89_0 tf89_1 tf89_2 tp89 tc89 tg89 ts90 tb90 ta90 tz90 tv90 tc90 ts91 tb91 ta91 tz91 tv91 tc91 ts93 tb93 ta93 tz93 tv93 tf93_0 tf93_1 tp93 tc93 tg93 ts94 tb94 ta94 tz94 tv94 tc94 ts95 tb95 ta95 tz95 tv95 tp95 tc95 tg95 ts108 tb108 ta108 tz108 tv108 tc108
attribute [go_sem] Tryz.underlying3 Tryz.underlying4 Tryz.underlying5 Tryz.underlying9 Tryz.underlying20 Tryz.underlying22 Tryz.underlying23 Tryz.underlying27 Tryz.underlying28 Tryz.underlying29 Tryz.underlying47 Tryz.underlying54 Tryz.underlying56 Tryz.underlying59 Tryz.underlying61 Tryz.underlying67 Tryz.underlying75 Tryz.underlying76 Tryz.underlying80 Tryz.underlying83 Tryz.underlying85 Tryz.underlying87 Tryz.underlying89 Tryz.underlying90 Tryz.underlying91 Tryz.underlying93 Tryz.underlying94 Tryz.underlying95 Tryz.underlying108
end Go.Proofs.YthcdjconlfdidaaGreatDoor
