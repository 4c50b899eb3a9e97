/-
 The facts on the types of the translation:sizes,zero values,fields. Written by a program.
-/
import Derived.Test.YtdgmcckfdgnicaaAwB
import Derived.Test.YtdgmcckfdgnicaaProg
import Derived.KernelRfl
namespace Go.Proofs.Ytdgmcckfdgnicaa
open Go.Aw Go.Proofs
theorem ts1:tS Try.prog 1=some 1:=by kernel_rfl
theorem tb1:tB Try.prog 1=some 8:=by kernel_rfl
theorem ta1:tA Try.prog 1=some false:=by kernel_rfl
theorem tz1:tZ Try.prog 1=some [.nilFunc]:=by kernel_rfl
theorem tv1:tV Try.prog 1=some (.nilFunc):=by kernel_rfl
theorem tc1:Try.prog.concrete 1=true:=by kernel_rfl
theorem ts2:tS Try.prog 2=some 1:=by kernel_rfl
theorem tb2:tB Try.prog 2=some 8:=by kernel_rfl
theorem ta2:tA Try.prog 2=some false:=by kernel_rfl
theorem tz2:tZ Try.prog 2=some [.int .i64 0]:=by kernel_rfl
theorem tv2:tV Try.prog 2=some (.int .i64 0):=by kernel_rfl
theorem tc2:Try.prog.concrete 2=true:=by kernel_rfl
theorem ts3:tS Try.prog 3=some 1:=by kernel_rfl
theorem tb3:tB Try.prog 3=some 8:=by kernel_rfl
theorem ta3:tA Try.prog 3=some false:=by kernel_rfl
theorem tz3:tZ Try.prog 3=some [.int .i64 0]:=by kernel_rfl
theorem tv3:tV Try.prog 3=some (.int .i64 0):=by kernel_rfl
theorem tc3:Try.prog.concrete 3=true:=by kernel_rfl
theorem ts4:tS Try.prog 4=some 1:=by kernel_rfl
theorem tb4:tB Try.prog 4=some 1:=by kernel_rfl
theorem ta4:tA Try.prog 4=some false:=by kernel_rfl
theorem tz4:tZ Try.prog 4=some [.bool false]:=by kernel_rfl
theorem tv4:tV Try.prog 4=some (.bool false):=by kernel_rfl
theorem tc4:Try.prog.concrete 4=true:=by kernel_rfl
theorem ts5:tS Try.prog 5=some 1:=by kernel_rfl
theorem tb5:tB Try.prog 5=some 1:=by kernel_rfl
theorem ta5:tA Try.prog 5=some false:=by kernel_rfl
theorem tz5:tZ Try.prog 5=some [.int .u8 0]:=by kernel_rfl
theorem tv5:tV Try.prog 5=some (.int .u8 0):=by kernel_rfl
theorem tc5:Try.prog.concrete 5=true:=by kernel_rfl
theorem ts6:tS Try.prog 6=some 1:=by kernel_rfl
theorem tb6:tB Try.prog 6=some 1:=by kernel_rfl
theorem ta6:tA Try.prog 6=some false:=by kernel_rfl
theorem tz6:tZ Try.prog 6=some [.int .u8 0]:=by kernel_rfl
theorem tv6:tV Try.prog 6=some (.int .u8 0):=by kernel_rfl
theorem tc6:Try.prog.concrete 6=true:=by kernel_rfl
theorem ts7:tS Try.prog 7=some 4:=by kernel_rfl
theorem tb7:tB Try.prog 7=some 24:=by kernel_rfl
theorem ta7:tA Try.prog 7=some true:=by kernel_rfl
theorem tz7:tZ Try.prog 7=some [.int .i64 0,.int .i64 0,.bool false,.int .u8 0]:=by kernel_rfl
theorem tv7:tV Try.prog 7=some (.agg ⟨[.int .i64 0,.int .i64 0,.bool false,.int .u8 0]⟩):=by kernel_rfl
theorem tf7_0:tF Try.prog 7 0=some (0,2):=by kernel_rfl
theorem tf7_1:tF Try.prog 7 1=some (1,3):=by kernel_rfl
theorem tf7_2:tF Try.prog 7 2=some (2,4):=by kernel_rfl
theorem tf7_3:tF Try.prog 7 3=some (3,6):=by kernel_rfl
theorem tp7:tP Try.prog 7=some (.inl [(0,1),(1,1),(2,1),(3,1)]):=by kernel_rfl
theorem tc7:Try.prog.concrete 7=true:=by kernel_rfl
theorem tg7:Try.prog.eqGuardType Try.prog.depth 7=false:=by kernel_rfl
theorem ts8:tS Try.prog 8=some 4:=by kernel_rfl
theorem tb8:tB Try.prog 8=some 24:=by kernel_rfl
theorem ta8:tA Try.prog 8=some true:=by kernel_rfl
theorem tz8:tZ Try.prog 8=some [.int .i64 0,.int .i64 0,.bool false,.int .u8 0]:=by kernel_rfl
theorem tv8:tV Try.prog 8=some (.agg ⟨[.int .i64 0,.int .i64 0,.bool false,.int .u8 0]⟩):=by kernel_rfl
theorem tf8_0:tF Try.prog 8 0=some (0,2):=by kernel_rfl
theorem tf8_1:tF Try.prog 8 1=some (1,3):=by kernel_rfl
theorem tf8_2:tF Try.prog 8 2=some (2,4):=by kernel_rfl
theorem tf8_3:tF Try.prog 8 3=some (3,6):=by kernel_rfl
theorem tp8:tP Try.prog 8=some (.inl [(0,1),(1,1),(2,1),(3,1)]):=by kernel_rfl
theorem tc8:Try.prog.concrete 8=true:=by kernel_rfl
theorem tg8:Try.prog.eqGuardType Try.prog.depth 8=false:=by kernel_rfl
theorem ts9:tS Try.prog 9=some 1:=by kernel_rfl
theorem tb9:tB Try.prog 9=some 16:=by kernel_rfl
theorem ta9:tA Try.prog 9=some false:=by kernel_rfl
theorem tz9:tZ Try.prog 9=some [.string (bs [])]:=by kernel_rfl
theorem tv9:tV Try.prog 9=some (.string (bs [])):=by kernel_rfl
theorem tc9:Try.prog.concrete 9=true:=by kernel_rfl
theorem ts10:tS Try.prog 10=some 1:=by kernel_rfl
theorem tb10:tB Try.prog 10=some 16:=by kernel_rfl
theorem ta10:tA Try.prog 10=some false:=by kernel_rfl
theorem tz10:tZ Try.prog 10=some [.string (bs [])]:=by kernel_rfl
theorem tv10:tV Try.prog 10=some (.string (bs [])):=by kernel_rfl
theorem tc10:Try.prog.concrete 10=true:=by kernel_rfl
theorem ts11:tS Try.prog 11=some 1:=by kernel_rfl
theorem tb11:tB Try.prog 11=some 16:=by kernel_rfl
theorem ta11:tA Try.prog 11=some false:=by kernel_rfl
theorem tz11:tZ Try.prog 11=some [.string (bs [])]:=by kernel_rfl
theorem tv11:tV Try.prog 11=some (.string (bs [])):=by kernel_rfl
theorem tc11:Try.prog.concrete 11=true:=by kernel_rfl
theorem ts12:tS Try.prog 12=some 1:=by kernel_rfl
theorem tb12:tB Try.prog 12=some 8:=by kernel_rfl
theorem ta12:tA Try.prog 12=some false:=by kernel_rfl
theorem tz12:tZ Try.prog 12=some [.int .u64 0]:=by kernel_rfl
theorem tv12:tV Try.prog 12=some (.int .u64 0):=by kernel_rfl
theorem tc12:Try.prog.concrete 12=true:=by kernel_rfl
theorem ts13:tS Try.prog 13=some 2:=by kernel_rfl
theorem tb13:tB Try.prog 13=some 24:=by kernel_rfl
theorem ta13:tA Try.prog 13=some true:=by kernel_rfl
theorem tz13:tZ Try.prog 13=some [.string (bs []),.int .u64 0]:=by kernel_rfl
theorem tv13:tV Try.prog 13=some (.agg ⟨[.string (bs []),.int .u64 0]⟩):=by kernel_rfl
theorem tf13_0:tF Try.prog 13 0=some (0,9):=by kernel_rfl
theorem tf13_1:tF Try.prog 13 1=some (1,12):=by kernel_rfl
theorem tp13:tP Try.prog 13=some (.inl [(0,1),(1,1)]):=by kernel_rfl
theorem tc13:Try.prog.concrete 13=true:=by kernel_rfl
theorem tg13:Try.prog.eqGuardType Try.prog.depth 13=false:=by kernel_rfl
theorem ts14:tS Try.prog 14=some 2:=by kernel_rfl
theorem tb14:tB Try.prog 14=some 24:=by kernel_rfl
theorem ta14:tA Try.prog 14=some true:=by kernel_rfl
theorem tz14:tZ Try.prog 14=some [.string (bs []),.int .u64 0]:=by kernel_rfl
theorem tv14:tV Try.prog 14=some (.agg ⟨[.string (bs []),.int .u64 0]⟩):=by kernel_rfl
theorem tf14_0:tF Try.prog 14 0=some (0,9):=by kernel_rfl
theorem tf14_1:tF Try.prog 14 1=some (1,12):=by kernel_rfl
theorem tp14:tP Try.prog 14=some (.inl [(0,1),(1,1)]):=by kernel_rfl
theorem tc14:Try.prog.concrete 14=true:=by kernel_rfl
theorem tg14:Try.prog.eqGuardType Try.prog.depth 14=false:=by kernel_rfl
theorem ts15:tS Try.prog 15=some 1:=by kernel_rfl
theorem tb15:tB Try.prog 15=some 8:=by kernel_rfl
theorem ta15:tA Try.prog 15=some false:=by kernel_rfl
theorem tz15:tZ Try.prog 15=some [.pointer none]:=by kernel_rfl
theorem tv15:tV Try.prog 15=some (.pointer none):=by kernel_rfl
theorem tc15:Try.prog.concrete 15=true:=by kernel_rfl
theorem ts16:tS Try.prog 16=some 1:=by kernel_rfl
theorem tb16:tB Try.prog 16=some 8:=by kernel_rfl
theorem ta16:tA Try.prog 16=some false:=by kernel_rfl
theorem tz16:tZ Try.prog 16=some [.pointer none]:=by kernel_rfl
theorem tv16:tV Try.prog 16=some (.pointer none):=by kernel_rfl
theorem tc16:Try.prog.concrete 16=true:=by kernel_rfl
theorem ts17:tS Try.prog 17=some 1:=by kernel_rfl
theorem tb17:tB Try.prog 17=some 8:=by kernel_rfl
theorem ta17:tA Try.prog 17=some false:=by kernel_rfl
theorem tz17:tZ Try.prog 17=some [.pointer none]:=by kernel_rfl
theorem tv17:tV Try.prog 17=some (.pointer none):=by kernel_rfl
theorem tc17:Try.prog.concrete 17=true:=by kernel_rfl
theorem ts18:tS Try.prog 18=some 1:=by kernel_rfl
theorem tb18:tB Try.prog 18=some 8:=by kernel_rfl
theorem ta18:tA Try.prog 18=some true:=by kernel_rfl
theorem tz18:tZ Try.prog 18=some [.pointer none]:=by kernel_rfl
theorem tv18:tV Try.prog 18=some (.agg ⟨[.pointer none]⟩):=by kernel_rfl
theorem tf18_0:tF Try.prog 18 0=some (0,17):=by kernel_rfl
theorem tp18:tP Try.prog 18=some (.inl [(0,1)]):=by kernel_rfl
theorem tc18:Try.prog.concrete 18=true:=by kernel_rfl
theorem tg18:Try.prog.eqGuardType Try.prog.depth 18=false:=by kernel_rfl
theorem ts19:tS Try.prog 19=some 1:=by kernel_rfl
theorem tb19:tB Try.prog 19=some 8:=by kernel_rfl
theorem ta19:tA Try.prog 19=some true:=by kernel_rfl
theorem tz19:tZ Try.prog 19=some [.pointer none]:=by kernel_rfl
theorem tv19:tV Try.prog 19=some (.agg ⟨[.pointer none]⟩):=by kernel_rfl
theorem tf19_0:tF Try.prog 19 0=some (0,17):=by kernel_rfl
theorem tp19:tP Try.prog 19=some (.inl [(0,1)]):=by kernel_rfl
theorem tc19:Try.prog.concrete 19=true:=by kernel_rfl
theorem tg19:Try.prog.eqGuardType Try.prog.depth 19=false:=by kernel_rfl
theorem ts20:tS Try.prog 20=some 1:=by kernel_rfl
theorem tb20:tB Try.prog 20=some 16:=by kernel_rfl
theorem ta20:tA Try.prog 20=some false:=by kernel_rfl
theorem tz20:tZ Try.prog 20=some [.nilIface]:=by kernel_rfl
theorem tv20:tV Try.prog 20=some (.nilIface):=by kernel_rfl
theorem ts21:tS Try.prog 21=some 1:=by kernel_rfl
theorem tb21:tB Try.prog 21=some 4:=by kernel_rfl
theorem ta21:tA Try.prog 21=some false:=by kernel_rfl
theorem tz21:tZ Try.prog 21=some [.int .i32 0]:=by kernel_rfl
theorem tv21:tV Try.prog 21=some (.int .i32 0):=by kernel_rfl
theorem tc21:Try.prog.concrete 21=true:=by kernel_rfl
theorem ts22:tS Try.prog 22=some 1:=by kernel_rfl
theorem tb22:tB Try.prog 22=some 8:=by kernel_rfl
theorem ta22:tA Try.prog 22=some false:=by kernel_rfl
theorem tz22:tZ Try.prog 22=some [.nilFunc]:=by kernel_rfl
theorem tv22:tV Try.prog 22=some (.nilFunc):=by kernel_rfl
theorem tc22:Try.prog.concrete 22=true:=by kernel_rfl
theorem ts23:tS Try.prog 23=some 1:=by kernel_rfl
theorem tb23:tB Try.prog 23=some 8:=by kernel_rfl
theorem ta23:tA Try.prog 23=some false:=by kernel_rfl
theorem tz23:tZ Try.prog 23=some [.nilFunc]:=by kernel_rfl
theorem tv23:tV Try.prog 23=some (.nilFunc):=by kernel_rfl
theorem tc23:Try.prog.concrete 23=true:=by kernel_rfl
theorem ts24:tS Try.prog 24=some 1:=by kernel_rfl
theorem tb24:tB Try.prog 24=some 8:=by kernel_rfl
theorem ta24:tA Try.prog 24=some false:=by kernel_rfl
theorem tz24:tZ Try.prog 24=some [.pointer none]:=by kernel_rfl
theorem tv24:tV Try.prog 24=some (.pointer none):=by kernel_rfl
theorem tc24:Try.prog.concrete 24=true:=by kernel_rfl
theorem ts26:tS Try.prog 26=some 1:=by kernel_rfl
theorem tb26:tB Try.prog 26=some 8:=by kernel_rfl
theorem ta26:tA Try.prog 26=some false:=by kernel_rfl
theorem tz26:tZ Try.prog 26=some [.nilFunc]:=by kernel_rfl
theorem tv26:tV Try.prog 26=some (.nilFunc):=by kernel_rfl
theorem tc26:Try.prog.concrete 26=true:=by kernel_rfl
theorem ts27:tS Try.prog 27=some 1:=by kernel_rfl
theorem tb27:tB Try.prog 27=some 8:=by kernel_rfl
theorem ta27:tA Try.prog 27=some false:=by kernel_rfl
theorem tz27:tZ Try.prog 27=some [.nilFunc]:=by kernel_rfl
theorem tv27:tV Try.prog 27=some (.nilFunc):=by kernel_rfl
theorem tc27:Try.prog.concrete 27=true:=by kernel_rfl
theorem ts28:tS Try.prog 28=some 1:=by kernel_rfl
theorem tb28:tB Try.prog 28=some 8:=by kernel_rfl
theorem ta28:tA Try.prog 28=some false:=by kernel_rfl
theorem tz28:tZ Try.prog 28=some [.nilFunc]:=by kernel_rfl
theorem tv28:tV Try.prog 28=some (.nilFunc):=by kernel_rfl
theorem tc28:Try.prog.concrete 28=true:=by kernel_rfl
theorem ts29:tS Try.prog 29=some 1:=by kernel_rfl
theorem tb29:tB Try.prog 29=some 8:=by kernel_rfl
theorem ta29:tA Try.prog 29=some false:=by kernel_rfl
theorem tz29:tZ Try.prog 29=some [.pointer none]:=by kernel_rfl
theorem tv29:tV Try.prog 29=some (.pointer none):=by kernel_rfl
theorem tc29:Try.prog.concrete 29=true:=by kernel_rfl
theorem ts30:tS Try.prog 30=some 2:=by kernel_rfl
theorem tb30:tB Try.prog 30=some 16:=by kernel_rfl
theorem ta30:tA Try.prog 30=some true:=by kernel_rfl
theorem tz30:tZ Try.prog 30=some [.pointer none,.pointer none]:=by kernel_rfl
theorem tv30:tV Try.prog 30=some (.agg ⟨[.pointer none,.pointer none]⟩):=by kernel_rfl
theorem tp30:tP Try.prog 30=some (.inr 1):=by kernel_rfl
theorem tc30:Try.prog.concrete 30=true:=by kernel_rfl
theorem tg30:Try.prog.eqGuardType Try.prog.depth 30=false:=by kernel_rfl
theorem ts31:tS Try.prog 31=some 1:=by kernel_rfl
theorem tb31:tB Try.prog 31=some 24:=by kernel_rfl
theorem ta31:tA Try.prog 31=some false:=by kernel_rfl
theorem tz31:tZ Try.prog 31=some [.slice none 0 0]:=by kernel_rfl
theorem tv31:tV Try.prog 31=some (.slice none 0 0):=by kernel_rfl
theorem tc31:Try.prog.concrete 31=true:=by kernel_rfl
theorem ts32:tS Try.prog 32=some 2:=by kernel_rfl
theorem tb32:tB Try.prog 32=some 48:=by kernel_rfl
theorem ta32:tA Try.prog 32=some true:=by kernel_rfl
theorem tz32:tZ Try.prog 32=some [.slice none 0 0,.slice none 0 0]:=by kernel_rfl
theorem tv32:tV Try.prog 32=some (.agg ⟨[.slice none 0 0,.slice none 0 0]⟩):=by kernel_rfl
theorem tp32:tP Try.prog 32=some (.inr 1):=by kernel_rfl
theorem tc32:Try.prog.concrete 32=true:=by kernel_rfl
theorem tg32:Try.prog.eqGuardType Try.prog.depth 32=false:=by kernel_rfl
theorem ts33:tS Try.prog 33=some 2:=by kernel_rfl
theorem tb33:tB Try.prog 33=some 32:=by kernel_rfl
theorem ta33:tA Try.prog 33=some true:=by kernel_rfl
theorem tz33:tZ Try.prog 33=some [.string (bs []),.string (bs [])]:=by kernel_rfl
theorem tv33:tV Try.prog 33=some (.agg ⟨[.string (bs []),.string (bs [])]⟩):=by kernel_rfl
theorem tp33:tP Try.prog 33=some (.inr 1):=by kernel_rfl
theorem tc33:Try.prog.concrete 33=true:=by kernel_rfl
theorem tg33:Try.prog.eqGuardType Try.prog.depth 33=false:=by kernel_rfl
theorem ts34:tS Try.prog 34=some 1:=by kernel_rfl
theorem tb34:tB Try.prog 34=some 24:=by kernel_rfl
theorem ta34:tA Try.prog 34=some false:=by kernel_rfl
theorem tz34:tZ Try.prog 34=some [.slice none 0 0]:=by kernel_rfl
theorem tv34:tV Try.prog 34=some (.slice none 0 0):=by kernel_rfl
theorem tc34:Try.prog.concrete 34=true:=by kernel_rfl
theorem ts35:tS Try.prog 35=some 11:=by kernel_rfl
theorem tb35:tB Try.prog 35=some 168:=by kernel_rfl
theorem ta35:tA Try.prog 35=some true:=by kernel_rfl
theorem tz35:tZ Try.prog 35=some [.pointer none,.pointer none,.slice none 0 0,.slice none 0 0,.string (bs []),.string (bs []),.string (bs []),.string (bs []),.int .i64 0,.slice none 0 0,.int .i64 0]:=by kernel_rfl
theorem tv35:tV Try.prog 35=some (.agg ⟨[.pointer none,.pointer none,.slice none 0 0,.slice none 0 0,.string (bs []),.string (bs []),.string (bs []),.string (bs []),.int .i64 0,.slice none 0 0,.int .i64 0]⟩):=by kernel_rfl
theorem tf35_0:tF Try.prog 35 0=some (0,30):=by kernel_rfl
theorem tf35_1:tF Try.prog 35 1=some (2,32):=by kernel_rfl
theorem tf35_2:tF Try.prog 35 2=some (4,33):=by kernel_rfl
theorem tf35_3:tF Try.prog 35 3=some (6,33):=by kernel_rfl
theorem tf35_4:tF Try.prog 35 4=some (8,3):=by kernel_rfl
theorem tf35_5:tF Try.prog 35 5=some (9,34):=by kernel_rfl
theorem tf35_6:tF Try.prog 35 6=some (10,3):=by kernel_rfl
theorem tp35:tP Try.prog 35=some (.inl [(0,2),(2,2),(4,2),(6,2),(8,1),(9,1),(10,1)]):=by kernel_rfl
theorem tc35:Try.prog.concrete 35=true:=by kernel_rfl
theorem tg35:Try.prog.eqGuardType Try.prog.depth 35=false:=by kernel_rfl
theorem ts36:tS Try.prog 36=some 11:=by kernel_rfl
theorem tb36:tB Try.prog 36=some 168:=by kernel_rfl
theorem ta36:tA Try.prog 36=some true:=by kernel_rfl
theorem tz36:tZ Try.prog 36=some [.pointer none,.pointer none,.slice none 0 0,.slice none 0 0,.string (bs []),.string (bs []),.string (bs []),.string (bs []),.int .i64 0,.slice none 0 0,.int .i64 0]:=by kernel_rfl
theorem tv36:tV Try.prog 36=some (.agg ⟨[.pointer none,.pointer none,.slice none 0 0,.slice none 0 0,.string (bs []),.string (bs []),.string (bs []),.string (bs []),.int .i64 0,.slice none 0 0,.int .i64 0]⟩):=by kernel_rfl
theorem tf36_0:tF Try.prog 36 0=some (0,30):=by kernel_rfl
theorem tf36_1:tF Try.prog 36 1=some (2,32):=by kernel_rfl
theorem tf36_2:tF Try.prog 36 2=some (4,33):=by kernel_rfl
theorem tf36_3:tF Try.prog 36 3=some (6,33):=by kernel_rfl
theorem tf36_4:tF Try.prog 36 4=some (8,3):=by kernel_rfl
theorem tf36_5:tF Try.prog 36 5=some (9,34):=by kernel_rfl
theorem tf36_6:tF Try.prog 36 6=some (10,3):=by kernel_rfl
theorem tp36:tP Try.prog 36=some (.inl [(0,2),(2,2),(4,2),(6,2),(8,1),(9,1),(10,1)]):=by kernel_rfl
theorem tc36:Try.prog.concrete 36=true:=by kernel_rfl
theorem tg36:Try.prog.eqGuardType Try.prog.depth 36=false:=by kernel_rfl
theorem ts37:tS Try.prog 37=some 1:=by kernel_rfl
theorem tb37:tB Try.prog 37=some 8:=by kernel_rfl
theorem ta37:tA Try.prog 37=some false:=by kernel_rfl
theorem tz37:tZ Try.prog 37=some [.nilFunc]:=by kernel_rfl
theorem tv37:tV Try.prog 37=some (.nilFunc):=by kernel_rfl
theorem tc37:Try.prog.concrete 37=true:=by kernel_rfl
theorem ts38:tS Try.prog 38=some 1:=by kernel_rfl
theorem tb38:tB Try.prog 38=some 8:=by kernel_rfl
theorem ta38:tA Try.prog 38=some false:=by kernel_rfl
theorem tz38:tZ Try.prog 38=some [.int .i64 0]:=by kernel_rfl
theorem tv38:tV Try.prog 38=some (.int .i64 0):=by kernel_rfl
theorem tc38:Try.prog.concrete 38=true:=by kernel_rfl
theorem ts39:tS Try.prog 39=some 1:=by kernel_rfl
theorem tb39:tB Try.prog 39=some 8:=by kernel_rfl
theorem ta39:tA Try.prog 39=some false:=by kernel_rfl
theorem tz39:tZ Try.prog 39=some [.nilFunc]:=by kernel_rfl
theorem tv39:tV Try.prog 39=some (.nilFunc):=by kernel_rfl
theorem tc39:Try.prog.concrete 39=true:=by kernel_rfl
theorem ts40:tS Try.prog 40=some 1:=by kernel_rfl
theorem tb40:tB Try.prog 40=some 8:=by kernel_rfl
theorem ta40:tA Try.prog 40=some false:=by kernel_rfl
theorem tz40:tZ Try.prog 40=some [.nilFunc]:=by kernel_rfl
theorem tv40:tV Try.prog 40=some (.nilFunc):=by kernel_rfl
theorem tc40:Try.prog.concrete 40=true:=by kernel_rfl
theorem ts42:tS Try.prog 42=some 1:=by kernel_rfl
theorem tb42:tB Try.prog 42=some 8:=by kernel_rfl
theorem ta42:tA Try.prog 42=some false:=by kernel_rfl
theorem tz42:tZ Try.prog 42=some [.nilFunc]:=by kernel_rfl
theorem tv42:tV Try.prog 42=some (.nilFunc):=by kernel_rfl
theorem tc42:Try.prog.concrete 42=true:=by kernel_rfl
theorem ts43:tS Try.prog 43=some 9:=by kernel_rfl
theorem tb43:tB Try.prog 43=some 88:=by kernel_rfl
theorem ta43:tA Try.prog 43=some true:=by kernel_rfl
theorem tz43:tZ Try.prog 43=some [.int .i64 0,.int .i64 0,.int .i64 0,.int .i64 0,.int .i64 0,.string (bs []),.string (bs []),.int .i64 0,.int .i64 0]:=by kernel_rfl
theorem tv43:tV Try.prog 43=some (.agg ⟨[.int .i64 0,.int .i64 0,.int .i64 0,.int .i64 0,.int .i64 0,.string (bs []),.string (bs []),.int .i64 0,.int .i64 0]⟩):=by kernel_rfl
theorem tf43_0:tF Try.prog 43 0=some (0,3):=by kernel_rfl
theorem tf43_1:tF Try.prog 43 1=some (1,3):=by kernel_rfl
theorem tf43_2:tF Try.prog 43 2=some (2,3):=by kernel_rfl
theorem tf43_3:tF Try.prog 43 3=some (3,3):=by kernel_rfl
theorem tf43_4:tF Try.prog 43 4=some (4,3):=by kernel_rfl
theorem tf43_5:tF Try.prog 43 5=some (5,9):=by kernel_rfl
theorem tf43_6:tF Try.prog 43 6=some (6,9):=by kernel_rfl
theorem tf43_7:tF Try.prog 43 7=some (7,3):=by kernel_rfl
theorem tf43_8:tF Try.prog 43 8=some (8,3):=by kernel_rfl
theorem tp43:tP Try.prog 43=some (.inl [(0,1),(1,1),(2,1),(3,1),(4,1),(5,1),(6,1),(7,1),(8,1)]):=by kernel_rfl
theorem tc43:Try.prog.concrete 43=true:=by kernel_rfl
theorem tg43:Try.prog.eqGuardType Try.prog.depth 43=false:=by kernel_rfl
theorem ts44:tS Try.prog 44=some 9:=by kernel_rfl
theorem tb44:tB Try.prog 44=some 88:=by kernel_rfl
theorem ta44:tA Try.prog 44=some true:=by kernel_rfl
theorem tz44:tZ Try.prog 44=some [.int .i64 0,.int .i64 0,.int .i64 0,.int .i64 0,.int .i64 0,.string (bs []),.string (bs []),.int .i64 0,.int .i64 0]:=by kernel_rfl
theorem tv44:tV Try.prog 44=some (.agg ⟨[.int .i64 0,.int .i64 0,.int .i64 0,.int .i64 0,.int .i64 0,.string (bs []),.string (bs []),.int .i64 0,.int .i64 0]⟩):=by kernel_rfl
theorem tf44_0:tF Try.prog 44 0=some (0,3):=by kernel_rfl
theorem tf44_1:tF Try.prog 44 1=some (1,3):=by kernel_rfl
theorem tf44_2:tF Try.prog 44 2=some (2,3):=by kernel_rfl
theorem tf44_3:tF Try.prog 44 3=some (3,3):=by kernel_rfl
theorem tf44_4:tF Try.prog 44 4=some (4,3):=by kernel_rfl
theorem tf44_5:tF Try.prog 44 5=some (5,9):=by kernel_rfl
theorem tf44_6:tF Try.prog 44 6=some (6,9):=by kernel_rfl
theorem tf44_7:tF Try.prog 44 7=some (7,3):=by kernel_rfl
theorem tf44_8:tF Try.prog 44 8=some (8,3):=by kernel_rfl
theorem tp44:tP Try.prog 44=some (.inl [(0,1),(1,1),(2,1),(3,1),(4,1),(5,1),(6,1),(7,1),(8,1)]):=by kernel_rfl
theorem tc44:Try.prog.concrete 44=true:=by kernel_rfl
theorem tg44:Try.prog.eqGuardType Try.prog.depth 44=false:=by kernel_rfl
theorem ts45:tS Try.prog 45=some 1:=by kernel_rfl
theorem tb45:tB Try.prog 45=some 8:=by kernel_rfl
theorem ta45:tA Try.prog 45=some false:=by kernel_rfl
theorem tz45:tZ Try.prog 45=some [.nilFunc]:=by kernel_rfl
theorem tv45:tV Try.prog 45=some (.nilFunc):=by kernel_rfl
theorem tc45:Try.prog.concrete 45=true:=by kernel_rfl
theorem ts47:tS Try.prog 47=some 1:=by kernel_rfl
theorem tb47:tB Try.prog 47=some 8:=by kernel_rfl
theorem ta47:tA Try.prog 47=some false:=by kernel_rfl
theorem tz47:tZ Try.prog 47=some [.nilFunc]:=by kernel_rfl
theorem tv47:tV Try.prog 47=some (.nilFunc):=by kernel_rfl
theorem tc47:Try.prog.concrete 47=true:=by kernel_rfl
theorem ts48:tS Try.prog 48=some 1:=by kernel_rfl
theorem tb48:tB Try.prog 48=some 8:=by kernel_rfl
theorem ta48:tA Try.prog 48=some false:=by kernel_rfl
theorem tz48:tZ Try.prog 48=some [.nilFunc]:=by kernel_rfl
theorem tv48:tV Try.prog 48=some (.nilFunc):=by kernel_rfl
theorem tc48:Try.prog.concrete 48=true:=by kernel_rfl
theorem ts49:tS Try.prog 49=some 1:=by kernel_rfl
theorem tb49:tB Try.prog 49=some 24:=by kernel_rfl
theorem ta49:tA Try.prog 49=some false:=by kernel_rfl
theorem tz49:tZ Try.prog 49=some [.slice none 0 0]:=by kernel_rfl
theorem tv49:tV Try.prog 49=some (.slice none 0 0):=by kernel_rfl
theorem tc49:Try.prog.concrete 49=true:=by kernel_rfl
theorem ts50:tS Try.prog 50=some 5:=by kernel_rfl
theorem tb50:tB Try.prog 50=some 48:=by kernel_rfl
theorem ta50:tA Try.prog 50=some true:=by kernel_rfl
theorem tz50:tZ Try.prog 50=some [.int .i64 0,.int .i64 0,.int .i64 0,.int .i64 0,.string (bs [])]:=by kernel_rfl
theorem tv50:tV Try.prog 50=some (.agg ⟨[.int .i64 0,.int .i64 0,.int .i64 0,.int .i64 0,.string (bs [])]⟩):=by kernel_rfl
theorem tf50_0:tF Try.prog 50 0=some (0,3):=by kernel_rfl
theorem tf50_1:tF Try.prog 50 1=some (1,3):=by kernel_rfl
theorem tf50_2:tF Try.prog 50 2=some (2,3):=by kernel_rfl
theorem tf50_3:tF Try.prog 50 3=some (3,3):=by kernel_rfl
theorem tf50_4:tF Try.prog 50 4=some (4,9):=by kernel_rfl
theorem tp50:tP Try.prog 50=some (.inl [(0,1),(1,1),(2,1),(3,1),(4,1)]):=by kernel_rfl
theorem tc50:Try.prog.concrete 50=true:=by kernel_rfl
theorem tg50:Try.prog.eqGuardType Try.prog.depth 50=false:=by kernel_rfl
theorem ts51:tS Try.prog 51=some 5:=by kernel_rfl
theorem tb51:tB Try.prog 51=some 48:=by kernel_rfl
theorem ta51:tA Try.prog 51=some true:=by kernel_rfl
theorem tz51:tZ Try.prog 51=some [.int .i64 0,.int .i64 0,.int .i64 0,.int .i64 0,.string (bs [])]:=by kernel_rfl
theorem tv51:tV Try.prog 51=some (.agg ⟨[.int .i64 0,.int .i64 0,.int .i64 0,.int .i64 0,.string (bs [])]⟩):=by kernel_rfl
theorem tf51_0:tF Try.prog 51 0=some (0,3):=by kernel_rfl
theorem tf51_1:tF Try.prog 51 1=some (1,3):=by kernel_rfl
theorem tf51_2:tF Try.prog 51 2=some (2,3):=by kernel_rfl
theorem tf51_3:tF Try.prog 51 3=some (3,3):=by kernel_rfl
theorem tf51_4:tF Try.prog 51 4=some (4,9):=by kernel_rfl
theorem tp51:tP Try.prog 51=some (.inl [(0,1),(1,1),(2,1),(3,1),(4,1)]):=by kernel_rfl
theorem tc51:Try.prog.concrete 51=true:=by kernel_rfl
theorem tg51:Try.prog.eqGuardType Try.prog.depth 51=false:=by kernel_rfl
theorem ts52:tS Try.prog 52=some 1:=by kernel_rfl
theorem tb52:tB Try.prog 52=some 8:=by kernel_rfl
theorem ta52:tA Try.prog 52=some false:=by kernel_rfl
theorem tz52:tZ Try.prog 52=some [.nilFunc]:=by kernel_rfl
theorem tv52:tV Try.prog 52=some (.nilFunc):=by kernel_rfl
theorem tc52:Try.prog.concrete 52=true:=by kernel_rfl
theorem ts53:tS Try.prog 53=some 1:=by kernel_rfl
theorem tb53:tB Try.prog 53=some 8:=by kernel_rfl
theorem ta53:tA Try.prog 53=some false:=by kernel_rfl
theorem tz53:tZ Try.prog 53=some [.nilFunc]:=by kernel_rfl
theorem tv53:tV Try.prog 53=some (.nilFunc):=by kernel_rfl
theorem tc53:Try.prog.concrete 53=true:=by kernel_rfl
theorem ts55:tS Try.prog 55=some 1:=by kernel_rfl
theorem tb55:tB Try.prog 55=some 8:=by kernel_rfl
theorem ta55:tA Try.prog 55=some false:=by kernel_rfl
theorem tz55:tZ Try.prog 55=some [.nilFunc]:=by kernel_rfl
theorem tv55:tV Try.prog 55=some (.nilFunc):=by kernel_rfl
theorem tc55:Try.prog.concrete 55=true:=by kernel_rfl
theorem ts57:tS Try.prog 57=some 1:=by kernel_rfl
theorem tb57:tB Try.prog 57=some 8:=by kernel_rfl
theorem ta57:tA Try.prog 57=some false:=by kernel_rfl
theorem tz57:tZ Try.prog 57=some [.nilFunc]:=by kernel_rfl
theorem tv57:tV Try.prog 57=some (.nilFunc):=by kernel_rfl
theorem tc57:Try.prog.concrete 57=true:=by kernel_rfl
theorem ts58:tS Try.prog 58=some 1:=by kernel_rfl
theorem tb58:tB Try.prog 58=some 8:=by kernel_rfl
theorem ta58:tA Try.prog 58=some false:=by kernel_rfl
theorem tz58:tZ Try.prog 58=some [.nilFunc]:=by kernel_rfl
theorem tv58:tV Try.prog 58=some (.nilFunc):=by kernel_rfl
theorem tc58:Try.prog.concrete 58=true:=by kernel_rfl
theorem ts59:tS Try.prog 59=some 1:=by kernel_rfl
theorem tb59:tB Try.prog 59=some 8:=by kernel_rfl
theorem ta59:tA Try.prog 59=some false:=by kernel_rfl
theorem tz59:tZ Try.prog 59=some [.nilFunc]:=by kernel_rfl
theorem tv59:tV Try.prog 59=some (.nilFunc):=by kernel_rfl
theorem tc59:Try.prog.concrete 59=true:=by kernel_rfl
theorem ts60:tS Try.prog 60=some 1:=by kernel_rfl
theorem tb60:tB Try.prog 60=some 8:=by kernel_rfl
theorem ta60:tA Try.prog 60=some false:=by kernel_rfl
theorem tz60:tZ Try.prog 60=some [.nilFunc]:=by kernel_rfl
theorem tv60:tV Try.prog 60=some (.nilFunc):=by kernel_rfl
theorem tc60:Try.prog.concrete 60=true:=by kernel_rfl
theorem ts61:tS Try.prog 61=some 1:=by kernel_rfl
theorem tb61:tB Try.prog 61=some 8:=by kernel_rfl
theorem ta61:tA Try.prog 61=some false:=by kernel_rfl
theorem tz61:tZ Try.prog 61=some [.nilFunc]:=by kernel_rfl
theorem tv61:tV Try.prog 61=some (.nilFunc):=by kernel_rfl
theorem tc61:Try.prog.concrete 61=true:=by kernel_rfl
theorem ts63:tS Try.prog 63=some 1:=by kernel_rfl
theorem tb63:tB Try.prog 63=some 8:=by kernel_rfl
theorem ta63:tA Try.prog 63=some false:=by kernel_rfl
theorem tz63:tZ Try.prog 63=some [.nilFunc]:=by kernel_rfl
theorem tv63:tV Try.prog 63=some (.nilFunc):=by kernel_rfl
theorem tc63:Try.prog.concrete 63=true:=by kernel_rfl
theorem ts65:tS Try.prog 65=some 1:=by kernel_rfl
theorem tb65:tB Try.prog 65=some 8:=by kernel_rfl
theorem ta65:tA Try.prog 65=some false:=by kernel_rfl
theorem tz65:tZ Try.prog 65=some [.nilFunc]:=by kernel_rfl
theorem tv65:tV Try.prog 65=some (.nilFunc):=by kernel_rfl
theorem tc65:Try.prog.concrete 65=true:=by kernel_rfl
theorem ts66:tS Try.prog 66=some 1:=by kernel_rfl
theorem tb66:tB Try.prog 66=some 24:=by kernel_rfl
theorem ta66:tA Try.prog 66=some false:=by kernel_rfl
theorem tz66:tZ Try.prog 66=some [.slice none 0 0]:=by kernel_rfl
theorem tv66:tV Try.prog 66=some (.slice none 0 0):=by kernel_rfl
theorem tc66:Try.prog.concrete 66=true:=by kernel_rfl
theorem ts67:tS Try.prog 67=some 1:=by kernel_rfl
theorem tb67:tB Try.prog 67=some 8:=by kernel_rfl
theorem ta67:tA Try.prog 67=some false:=by kernel_rfl
theorem tz67:tZ Try.prog 67=some [.nilFunc]:=by kernel_rfl
theorem tv67:tV Try.prog 67=some (.nilFunc):=by kernel_rfl
theorem tc67:Try.prog.concrete 67=true:=by kernel_rfl
theorem ts68:tS Try.prog 68=some 1:=by kernel_rfl
theorem tb68:tB Try.prog 68=some 8:=by kernel_rfl
theorem ta68:tA Try.prog 68=some false:=by kernel_rfl
theorem tz68:tZ Try.prog 68=some [.nilFunc]:=by kernel_rfl
theorem tv68:tV Try.prog 68=some (.nilFunc):=by kernel_rfl
theorem tc68:Try.prog.concrete 68=true:=by kernel_rfl
theorem ts69:tS Try.prog 69=some 1:=by kernel_rfl
theorem tb69:tB Try.prog 69=some 24:=by kernel_rfl
theorem ta69:tA Try.prog 69=some false:=by kernel_rfl
theorem tz69:tZ Try.prog 69=some [.slice none 0 0]:=by kernel_rfl
theorem tv69:tV Try.prog 69=some (.slice none 0 0):=by kernel_rfl
theorem tc69:Try.prog.concrete 69=true:=by kernel_rfl
theorem ts70:tS Try.prog 70=some 11:=by kernel_rfl
theorem tb70:tB Try.prog 70=some 112:=by kernel_rfl
theorem ta70:tA Try.prog 70=some true:=by kernel_rfl
theorem tz70:tZ Try.prog 70=some [.slice none 0 0,.slice none 0 0,.int .i64 0,.int .i64 0,.int .i64 0,.int .i64 0,.int .i64 0,.int .i64 0,.int .i64 0,.bool false,.bool false]:=by kernel_rfl
theorem tv70:tV Try.prog 70=some (.agg ⟨[.slice none 0 0,.slice none 0 0,.int .i64 0,.int .i64 0,.int .i64 0,.int .i64 0,.int .i64 0,.int .i64 0,.int .i64 0,.bool false,.bool false]⟩):=by kernel_rfl
theorem tf70_0:tF Try.prog 70 0=some (0,69):=by kernel_rfl
theorem tf70_1:tF Try.prog 70 1=some (1,69):=by kernel_rfl
theorem tf70_2:tF Try.prog 70 2=some (2,3):=by kernel_rfl
theorem tf70_3:tF Try.prog 70 3=some (3,3):=by kernel_rfl
theorem tf70_4:tF Try.prog 70 4=some (4,3):=by kernel_rfl
theorem tf70_5:tF Try.prog 70 5=some (5,3):=by kernel_rfl
theorem tf70_6:tF Try.prog 70 6=some (6,3):=by kernel_rfl
theorem tf70_7:tF Try.prog 70 7=some (7,3):=by kernel_rfl
theorem tf70_8:tF Try.prog 70 8=some (8,3):=by kernel_rfl
theorem tf70_9:tF Try.prog 70 9=some (9,4):=by kernel_rfl
theorem tf70_10:tF Try.prog 70 10=some (10,4):=by kernel_rfl
theorem tp70:tP Try.prog 70=some (.inl [(0,1),(1,1),(2,1),(3,1),(4,1),(5,1),(6,1),(7,1),(8,1),(9,1),(10,1)]):=by kernel_rfl
theorem tc70:Try.prog.concrete 70=true:=by kernel_rfl
theorem tg70:Try.prog.eqGuardType Try.prog.depth 70=false:=by kernel_rfl
theorem ts71:tS Try.prog 71=some 11:=by kernel_rfl
theorem tb71:tB Try.prog 71=some 112:=by kernel_rfl
theorem ta71:tA Try.prog 71=some true:=by kernel_rfl
theorem tz71:tZ Try.prog 71=some [.slice none 0 0,.slice none 0 0,.int .i64 0,.int .i64 0,.int .i64 0,.int .i64 0,.int .i64 0,.int .i64 0,.int .i64 0,.bool false,.bool false]:=by kernel_rfl
theorem tv71:tV Try.prog 71=some (.agg ⟨[.slice none 0 0,.slice none 0 0,.int .i64 0,.int .i64 0,.int .i64 0,.int .i64 0,.int .i64 0,.int .i64 0,.int .i64 0,.bool false,.bool false]⟩):=by kernel_rfl
theorem tf71_0:tF Try.prog 71 0=some (0,69):=by kernel_rfl
theorem tf71_1:tF Try.prog 71 1=some (1,69):=by kernel_rfl
theorem tf71_2:tF Try.prog 71 2=some (2,3):=by kernel_rfl
theorem tf71_3:tF Try.prog 71 3=some (3,3):=by kernel_rfl
theorem tf71_4:tF Try.prog 71 4=some (4,3):=by kernel_rfl
theorem tf71_5:tF Try.prog 71 5=some (5,3):=by kernel_rfl
theorem tf71_6:tF Try.prog 71 6=some (6,3):=by kernel_rfl
theorem tf71_7:tF Try.prog 71 7=some (7,3):=by kernel_rfl
theorem tf71_8:tF Try.prog 71 8=some (8,3):=by kernel_rfl
theorem tf71_9:tF Try.prog 71 9=some (9,4):=by kernel_rfl
theorem tf71_10:tF Try.prog 71 10=some (10,4):=by kernel_rfl
theorem tp71:tP Try.prog 71=some (.inl [(0,1),(1,1),(2,1),(3,1),(4,1),(5,1),(6,1),(7,1),(8,1),(9,1),(10,1)]):=by kernel_rfl
theorem tc71:Try.prog.concrete 71=true:=by kernel_rfl
theorem tg71:Try.prog.eqGuardType Try.prog.depth 71=false:=by kernel_rfl
theorem ts72:tS Try.prog 72=some 1:=by kernel_rfl
theorem tb72:tB Try.prog 72=some 8:=by kernel_rfl
theorem ta72:tA Try.prog 72=some false:=by kernel_rfl
theorem tz72:tZ Try.prog 72=some [.map none]:=by kernel_rfl
theorem tv72:tV Try.prog 72=some (.map none):=by kernel_rfl
theorem tc72:Try.prog.concrete 72=true:=by kernel_rfl
theorem ts73:tS Try.prog 73=some 10:=by kernel_rfl
theorem tb73:tB Try.prog 73=some 72:=by kernel_rfl
theorem ta73:tA Try.prog 73=some true:=by kernel_rfl
theorem tz73:tZ Try.prog 73=some [.int .i64 0,.int .i64 0,.bool false,.map none,.string (bs []),.bool false,.bool false,.int .i64 0,.bool false,.bool false]:=by kernel_rfl
theorem tv73:tV Try.prog 73=some (.agg ⟨[.int .i64 0,.int .i64 0,.bool false,.map none,.string (bs []),.bool false,.bool false,.int .i64 0,.bool false,.bool false]⟩):=by kernel_rfl
theorem tf73_0:tF Try.prog 73 0=some (0,3):=by kernel_rfl
theorem tf73_1:tF Try.prog 73 1=some (1,3):=by kernel_rfl
theorem tf73_2:tF Try.prog 73 2=some (2,4):=by kernel_rfl
theorem tf73_3:tF Try.prog 73 3=some (3,72):=by kernel_rfl
theorem tf73_4:tF Try.prog 73 4=some (4,9):=by kernel_rfl
theorem tf73_5:tF Try.prog 73 5=some (5,4):=by kernel_rfl
theorem tf73_6:tF Try.prog 73 6=some (6,4):=by kernel_rfl
theorem tf73_7:tF Try.prog 73 7=some (7,3):=by kernel_rfl
theorem tf73_8:tF Try.prog 73 8=some (8,4):=by kernel_rfl
theorem tf73_9:tF Try.prog 73 9=some (9,4):=by kernel_rfl
theorem tp73:tP Try.prog 73=some (.inl [(0,1),(1,1),(2,1),(3,1),(4,1),(5,1),(6,1),(7,1),(8,1),(9,1)]):=by kernel_rfl
theorem tc73:Try.prog.concrete 73=true:=by kernel_rfl
theorem tg73:Try.prog.eqGuardType Try.prog.depth 73=false:=by kernel_rfl
theorem ts74:tS Try.prog 74=some 10:=by kernel_rfl
theorem tb74:tB Try.prog 74=some 72:=by kernel_rfl
theorem ta74:tA Try.prog 74=some true:=by kernel_rfl
theorem tz74:tZ Try.prog 74=some [.int .i64 0,.int .i64 0,.bool false,.map none,.string (bs []),.bool false,.bool false,.int .i64 0,.bool false,.bool false]:=by kernel_rfl
theorem tv74:tV Try.prog 74=some (.agg ⟨[.int .i64 0,.int .i64 0,.bool false,.map none,.string (bs []),.bool false,.bool false,.int .i64 0,.bool false,.bool false]⟩):=by kernel_rfl
theorem tf74_0:tF Try.prog 74 0=some (0,3):=by kernel_rfl
theorem tf74_1:tF Try.prog 74 1=some (1,3):=by kernel_rfl
theorem tf74_2:tF Try.prog 74 2=some (2,4):=by kernel_rfl
theorem tf74_3:tF Try.prog 74 3=some (3,72):=by kernel_rfl
theorem tf74_4:tF Try.prog 74 4=some (4,9):=by kernel_rfl
theorem tf74_5:tF Try.prog 74 5=some (5,4):=by kernel_rfl
theorem tf74_6:tF Try.prog 74 6=some (6,4):=by kernel_rfl
theorem tf74_7:tF Try.prog 74 7=some (7,3):=by kernel_rfl
theorem tf74_8:tF Try.prog 74 8=some (8,4):=by kernel_rfl
theorem tf74_9:tF Try.prog 74 9=some (9,4):=by kernel_rfl
theorem tp74:tP Try.prog 74=some (.inl [(0,1),(1,1),(2,1),(3,1),(4,1),(5,1),(6,1),(7,1),(8,1),(9,1)]):=by kernel_rfl
theorem tc74:Try.prog.concrete 74=true:=by kernel_rfl
theorem tg74:Try.prog.eqGuardType Try.prog.depth 74=false:=by kernel_rfl
theorem ts75:tS Try.prog 75=some 6:=by kernel_rfl
theorem tb75:tB Try.prog 75=some 48:=by kernel_rfl
theorem ta75:tA Try.prog 75=some true:=by kernel_rfl
theorem tz75:tZ Try.prog 75=some [.int .i64 0,.int .i64 0,.int .i64 0,.int .i64 0,.int .i64 0,.bool false]:=by kernel_rfl
theorem tv75:tV Try.prog 75=some (.agg ⟨[.int .i64 0,.int .i64 0,.int .i64 0,.int .i64 0,.int .i64 0,.bool false]⟩):=by kernel_rfl
theorem tf75_0:tF Try.prog 75 0=some (0,3):=by kernel_rfl
theorem tf75_1:tF Try.prog 75 1=some (1,3):=by kernel_rfl
theorem tf75_2:tF Try.prog 75 2=some (2,3):=by kernel_rfl
theorem tf75_3:tF Try.prog 75 3=some (3,3):=by kernel_rfl
theorem tf75_4:tF Try.prog 75 4=some (4,3):=by kernel_rfl
theorem tf75_5:tF Try.prog 75 5=some (5,4):=by kernel_rfl
theorem tp75:tP Try.prog 75=some (.inl [(0,1),(1,1),(2,1),(3,1),(4,1),(5,1)]):=by kernel_rfl
theorem tc75:Try.prog.concrete 75=true:=by kernel_rfl
theorem tg75:Try.prog.eqGuardType Try.prog.depth 75=false:=by kernel_rfl
theorem ts76:tS Try.prog 76=some 6:=by kernel_rfl
theorem tb76:tB Try.prog 76=some 48:=by kernel_rfl
theorem ta76:tA Try.prog 76=some true:=by kernel_rfl
theorem tz76:tZ Try.prog 76=some [.int .i64 0,.int .i64 0,.int .i64 0,.int .i64 0,.int .i64 0,.bool false]:=by kernel_rfl
theorem tv76:tV Try.prog 76=some (.agg ⟨[.int .i64 0,.int .i64 0,.int .i64 0,.int .i64 0,.int .i64 0,.bool false]⟩):=by kernel_rfl
theorem tf76_0:tF Try.prog 76 0=some (0,3):=by kernel_rfl
theorem tf76_1:tF Try.prog 76 1=some (1,3):=by kernel_rfl
theorem tf76_2:tF Try.prog 76 2=some (2,3):=by kernel_rfl
theorem tf76_3:tF Try.prog 76 3=some (3,3):=by kernel_rfl
theorem tf76_4:tF Try.prog 76 4=some (4,3):=by kernel_rfl
theorem tf76_5:tF Try.prog 76 5=some (5,4):=by kernel_rfl
theorem tp76:tP Try.prog 76=some (.inl [(0,1),(1,1),(2,1),(3,1),(4,1),(5,1)]):=by kernel_rfl
theorem tc76:Try.prog.concrete 76=true:=by kernel_rfl
theorem tg76:Try.prog.eqGuardType Try.prog.depth 76=false:=by kernel_rfl
theorem ts77:tS Try.prog 77=some 34:=by kernel_rfl
theorem tb77:tB Try.prog 77=some 288:=by kernel_rfl
theorem ta77:tA Try.prog 77=some true:=by kernel_rfl
theorem tz77:tZ Try.prog 77=some [.slice none 0 0,.slice none 0 0,.int .i64 0,.int .i64 0,.int .i64 0,.int .i64 0,.int .i64 0,.int .i64 0,.int .i64 0,.bool false,.bool false,.int .i64 0,.int .i64 0,.bool false,.map none,.string (bs []),.bool false,.bool false,.int .i64 0,.bool false,.bool false,.bool false,.int .i64 0,.int .i64 0,.int .i64 0,.int .i64 0,.int .i64 0,.int .i64 0,.int .i64 0,.int .i64 0,.bool false,.int .i64 0,.int .i64 0,.int .i64 0]:=by kernel_rfl
theorem tv77:tV Try.prog 77=some (.agg ⟨[.slice none 0 0,.slice none 0 0,.int .i64 0,.int .i64 0,.int .i64 0,.int .i64 0,.int .i64 0,.int .i64 0,.int .i64 0,.bool false,.bool false,.int .i64 0,.int .i64 0,.bool false,.map none,.string (bs []),.bool false,.bool false,.int .i64 0,.bool false,.bool false,.bool false,.int .i64 0,.int .i64 0,.int .i64 0,.int .i64 0,.int .i64 0,.int .i64 0,.int .i64 0,.int .i64 0,.bool false,.int .i64 0,.int .i64 0,.int .i64 0]⟩):=by kernel_rfl
theorem tf77_0:tF Try.prog 77 0=some (0,71):=by kernel_rfl
theorem tf77_1:tF Try.prog 77 1=some (11,74):=by kernel_rfl
theorem tf77_2:tF Try.prog 77 2=some (21,4):=by kernel_rfl
theorem tf77_3:tF Try.prog 77 3=some (22,3):=by kernel_rfl
theorem tf77_4:tF Try.prog 77 4=some (23,3):=by kernel_rfl
theorem tf77_5:tF Try.prog 77 5=some (24,3):=by kernel_rfl
theorem tf77_6:tF Try.prog 77 6=some (25,76):=by kernel_rfl
theorem tf77_7:tF Try.prog 77 7=some (31,3):=by kernel_rfl
theorem tf77_8:tF Try.prog 77 8=some (32,3):=by kernel_rfl
theorem tf77_9:tF Try.prog 77 9=some (33,3):=by kernel_rfl
theorem tp77:tP Try.prog 77=some (.inl [(0,11),(11,10),(21,1),(22,1),(23,1),(24,1),(25,6),(31,1),(32,1),(33,1)]):=by kernel_rfl
theorem tc77:Try.prog.concrete 77=true:=by kernel_rfl
theorem tg77:Try.prog.eqGuardType Try.prog.depth 77=false:=by kernel_rfl
theorem ts78:tS Try.prog 78=some 34:=by kernel_rfl
theorem tb78:tB Try.prog 78=some 288:=by kernel_rfl
theorem ta78:tA Try.prog 78=some true:=by kernel_rfl
theorem tz78:tZ Try.prog 78=some [.slice none 0 0,.slice none 0 0,.int .i64 0,.int .i64 0,.int .i64 0,.int .i64 0,.int .i64 0,.int .i64 0,.int .i64 0,.bool false,.bool false,.int .i64 0,.int .i64 0,.bool false,.map none,.string (bs []),.bool false,.bool false,.int .i64 0,.bool false,.bool false,.bool false,.int .i64 0,.int .i64 0,.int .i64 0,.int .i64 0,.int .i64 0,.int .i64 0,.int .i64 0,.int .i64 0,.bool false,.int .i64 0,.int .i64 0,.int .i64 0]:=by kernel_rfl
theorem tv78:tV Try.prog 78=some (.agg ⟨[.slice none 0 0,.slice none 0 0,.int .i64 0,.int .i64 0,.int .i64 0,.int .i64 0,.int .i64 0,.int .i64 0,.int .i64 0,.bool false,.bool false,.int .i64 0,.int .i64 0,.bool false,.map none,.string (bs []),.bool false,.bool false,.int .i64 0,.bool false,.bool false,.bool false,.int .i64 0,.int .i64 0,.int .i64 0,.int .i64 0,.int .i64 0,.int .i64 0,.int .i64 0,.int .i64 0,.bool false,.int .i64 0,.int .i64 0,.int .i64 0]⟩):=by kernel_rfl
theorem tf78_0:tF Try.prog 78 0=some (0,71):=by kernel_rfl
theorem tf78_1:tF Try.prog 78 1=some (11,74):=by kernel_rfl
theorem tf78_2:tF Try.prog 78 2=some (21,4):=by kernel_rfl
theorem tf78_3:tF Try.prog 78 3=some (22,3):=by kernel_rfl
theorem tf78_4:tF Try.prog 78 4=some (23,3):=by kernel_rfl
theorem tf78_5:tF Try.prog 78 5=some (24,3):=by kernel_rfl
theorem tf78_6:tF Try.prog 78 6=some (25,76):=by kernel_rfl
theorem tf78_7:tF Try.prog 78 7=some (31,3):=by kernel_rfl
theorem tf78_8:tF Try.prog 78 8=some (32,3):=by kernel_rfl
theorem tf78_9:tF Try.prog 78 9=some (33,3):=by kernel_rfl
theorem tp78:tP Try.prog 78=some (.inl [(0,11),(11,10),(21,1),(22,1),(23,1),(24,1),(25,6),(31,1),(32,1),(33,1)]):=by kernel_rfl
theorem tc78:Try.prog.concrete 78=true:=by kernel_rfl
theorem tg78:Try.prog.eqGuardType Try.prog.depth 78=false:=by kernel_rfl
theorem ts79:tS Try.prog 79=some 1:=by kernel_rfl
theorem tb79:tB Try.prog 79=some 8:=by kernel_rfl
theorem ta79:tA Try.prog 79=some false:=by kernel_rfl
theorem tz79:tZ Try.prog 79=some [.pointer none]:=by kernel_rfl
theorem tv79:tV Try.prog 79=some (.pointer none):=by kernel_rfl
theorem tc79:Try.prog.concrete 79=true:=by kernel_rfl
theorem ts80:tS Try.prog 80=some 8:=by kernel_rfl
theorem tb80:tB Try.prog 80=some 64:=by kernel_rfl
theorem ta80:tA Try.prog 80=some true:=by kernel_rfl
theorem tz80:tZ Try.prog 80=some [.int .i64 0,.int .i64 0,.string (bs []),.int .i64 0,.int .i64 0,.int .i64 0,.bool false,.bool false]:=by kernel_rfl
theorem tv80:tV Try.prog 80=some (.agg ⟨[.int .i64 0,.int .i64 0,.string (bs []),.int .i64 0,.int .i64 0,.int .i64 0,.bool false,.bool false]⟩):=by kernel_rfl
theorem tf80_0:tF Try.prog 80 0=some (0,3):=by kernel_rfl
theorem tf80_1:tF Try.prog 80 1=some (1,3):=by kernel_rfl
theorem tf80_2:tF Try.prog 80 2=some (2,9):=by kernel_rfl
theorem tf80_3:tF Try.prog 80 3=some (3,3):=by kernel_rfl
theorem tf80_4:tF Try.prog 80 4=some (4,3):=by kernel_rfl
theorem tf80_5:tF Try.prog 80 5=some (5,3):=by kernel_rfl
theorem tf80_6:tF Try.prog 80 6=some (6,4):=by kernel_rfl
theorem tf80_7:tF Try.prog 80 7=some (7,4):=by kernel_rfl
theorem tp80:tP Try.prog 80=some (.inl [(0,1),(1,1),(2,1),(3,1),(4,1),(5,1),(6,1),(7,1)]):=by kernel_rfl
theorem tc80:Try.prog.concrete 80=true:=by kernel_rfl
theorem tg80:Try.prog.eqGuardType Try.prog.depth 80=false:=by kernel_rfl
theorem ts81:tS Try.prog 81=some 8:=by kernel_rfl
theorem tb81:tB Try.prog 81=some 64:=by kernel_rfl
theorem ta81:tA Try.prog 81=some true:=by kernel_rfl
theorem tz81:tZ Try.prog 81=some [.int .i64 0,.int .i64 0,.string (bs []),.int .i64 0,.int .i64 0,.int .i64 0,.bool false,.bool false]:=by kernel_rfl
theorem tv81:tV Try.prog 81=some (.agg ⟨[.int .i64 0,.int .i64 0,.string (bs []),.int .i64 0,.int .i64 0,.int .i64 0,.bool false,.bool false]⟩):=by kernel_rfl
theorem tf81_0:tF Try.prog 81 0=some (0,3):=by kernel_rfl
theorem tf81_1:tF Try.prog 81 1=some (1,3):=by kernel_rfl
theorem tf81_2:tF Try.prog 81 2=some (2,9):=by kernel_rfl
theorem tf81_3:tF Try.prog 81 3=some (3,3):=by kernel_rfl
theorem tf81_4:tF Try.prog 81 4=some (4,3):=by kernel_rfl
theorem tf81_5:tF Try.prog 81 5=some (5,3):=by kernel_rfl
theorem tf81_6:tF Try.prog 81 6=some (6,4):=by kernel_rfl
theorem tf81_7:tF Try.prog 81 7=some (7,4):=by kernel_rfl
theorem tp81:tP Try.prog 81=some (.inl [(0,1),(1,1),(2,1),(3,1),(4,1),(5,1),(6,1),(7,1)]):=by kernel_rfl
theorem tc81:Try.prog.concrete 81=true:=by kernel_rfl
theorem tg81:Try.prog.eqGuardType Try.prog.depth 81=false:=by kernel_rfl
theorem ts82:tS Try.prog 82=some 1:=by kernel_rfl
theorem tb82:tB Try.prog 82=some 8:=by kernel_rfl
theorem ta82:tA Try.prog 82=some false:=by kernel_rfl
theorem tz82:tZ Try.prog 82=some [.nilFunc]:=by kernel_rfl
theorem tv82:tV Try.prog 82=some (.nilFunc):=by kernel_rfl
theorem tc82:Try.prog.concrete 82=true:=by kernel_rfl
theorem ts83:tS Try.prog 83=some 1:=by kernel_rfl
theorem tb83:tB Try.prog 83=some 8:=by kernel_rfl
theorem ta83:tA Try.prog 83=some false:=by kernel_rfl
theorem tz83:tZ Try.prog 83=some [.nilFunc]:=by kernel_rfl
theorem tv83:tV Try.prog 83=some (.nilFunc):=by kernel_rfl
theorem tc83:Try.prog.concrete 83=true:=by kernel_rfl
theorem ts84:tS Try.prog 84=some 1:=by kernel_rfl
theorem tb84:tB Try.prog 84=some 8:=by kernel_rfl
theorem ta84:tA Try.prog 84=some false:=by kernel_rfl
theorem tz84:tZ Try.prog 84=some [.nilFunc]:=by kernel_rfl
theorem tv84:tV Try.prog 84=some (.nilFunc):=by kernel_rfl
theorem tc84:Try.prog.concrete 84=true:=by kernel_rfl
theorem ts85:tS Try.prog 85=some 1:=by kernel_rfl
theorem tb85:tB Try.prog 85=some 8:=by kernel_rfl
theorem ta85:tA Try.prog 85=some false:=by kernel_rfl
theorem tz85:tZ Try.prog 85=some [.nilFunc]:=by kernel_rfl
theorem tv85:tV Try.prog 85=some (.nilFunc):=by kernel_rfl
theorem tc85:Try.prog.concrete 85=true:=by kernel_rfl
theorem ts86:tS Try.prog 86=some 1:=by kernel_rfl
theorem tb86:tB Try.prog 86=some 8:=by kernel_rfl
theorem ta86:tA Try.prog 86=some false:=by kernel_rfl
theorem tz86:tZ Try.prog 86=some [.nilFunc]:=by kernel_rfl
theorem tv86:tV Try.prog 86=some (.nilFunc):=by kernel_rfl
theorem tc86:Try.prog.concrete 86=true:=by kernel_rfl
theorem ts87:tS Try.prog 87=some 1:=by kernel_rfl
theorem tb87:tB Try.prog 87=some 8:=by kernel_rfl
theorem ta87:tA Try.prog 87=some false:=by kernel_rfl
theorem tz87:tZ Try.prog 87=some [.nilFunc]:=by kernel_rfl
theorem tv87:tV Try.prog 87=some (.nilFunc):=by kernel_rfl
theorem tc87:Try.prog.concrete 87=true:=by kernel_rfl
theorem ts88:tS Try.prog 88=some 5:=by kernel_rfl
theorem tb88:tB Try.prog 88=some 40:=by kernel_rfl
theorem ta88:tA Try.prog 88=some true:=by kernel_rfl
theorem tz88:tZ Try.prog 88=some [.nilFunc,.nilFunc,.nilFunc,.nilFunc,.nilFunc]:=by kernel_rfl
theorem tv88:tV Try.prog 88=some (.agg ⟨[.nilFunc,.nilFunc,.nilFunc,.nilFunc,.nilFunc]⟩):=by kernel_rfl
theorem tp88:tP Try.prog 88=some (.inr 1):=by kernel_rfl
theorem tc88:Try.prog.concrete 88=true:=by kernel_rfl
theorem tg88:Try.prog.eqGuardType Try.prog.depth 88=false:=by kernel_rfl
theorem ts89:tS Try.prog 89=some 1:=by kernel_rfl
theorem tb89:tB Try.prog 89=some 8:=by kernel_rfl
theorem ta89:tA Try.prog 89=some false:=by kernel_rfl
theorem tz89:tZ Try.prog 89=some [.nilFunc]:=by kernel_rfl
theorem tv89:tV Try.prog 89=some (.nilFunc):=by kernel_rfl
theorem tc89:Try.prog.concrete 89=true:=by kernel_rfl
theorem ts90:tS Try.prog 90=some 1:=by kernel_rfl
theorem tb90:tB Try.prog 90=some 8:=by kernel_rfl
theorem ta90:tA Try.prog 90=some false:=by kernel_rfl
theorem tz90:tZ Try.prog 90=some [.nilFunc]:=by kernel_rfl
theorem tv90:tV Try.prog 90=some (.nilFunc):=by kernel_rfl
theorem tc90:Try.prog.concrete 90=true:=by kernel_rfl
theorem ts91:tS Try.prog 91=some 1:=by kernel_rfl
theorem tb91:tB Try.prog 91=some 8:=by kernel_rfl
theorem ta91:tA Try.prog 91=some false:=by kernel_rfl
theorem tz91:tZ Try.prog 91=some [.nilFunc]:=by kernel_rfl
theorem tv91:tV Try.prog 91=some (.nilFunc):=by kernel_rfl
theorem tc91:Try.prog.concrete 91=true:=by kernel_rfl
theorem ts92:tS Try.prog 92=some 1:=by kernel_rfl
theorem tb92:tB Try.prog 92=some 8:=by kernel_rfl
theorem ta92:tA Try.prog 92=some false:=by kernel_rfl
theorem tz92:tZ Try.prog 92=some [.nilFunc]:=by kernel_rfl
theorem tv92:tV Try.prog 92=some (.nilFunc):=by kernel_rfl
theorem tc92:Try.prog.concrete 92=true:=by kernel_rfl
theorem ts93:tS Try.prog 93=some 1:=by kernel_rfl
theorem tb93:tB Try.prog 93=some 8:=by kernel_rfl
theorem ta93:tA Try.prog 93=some false:=by kernel_rfl
theorem tz93:tZ Try.prog 93=some [.pointer none]:=by kernel_rfl
theorem tv93:tV Try.prog 93=some (.pointer none):=by kernel_rfl
theorem tc93:Try.prog.concrete 93=true:=by kernel_rfl
theorem ts94:tS Try.prog 94=some 1:=by kernel_rfl
theorem tb94:tB Try.prog 94=some 8:=by kernel_rfl
theorem ta94:tA Try.prog 94=some false:=by kernel_rfl
theorem tz94:tZ Try.prog 94=some [.nilFunc]:=by kernel_rfl
theorem tv94:tV Try.prog 94=some (.nilFunc):=by kernel_rfl
theorem tc94:Try.prog.concrete 94=true:=by kernel_rfl
theorem ts96:tS Try.prog 96=some 1:=by kernel_rfl
theorem tb96:tB Try.prog 96=some 8:=by kernel_rfl
theorem ta96:tA Try.prog 96=some false:=by kernel_rfl
theorem tz96:tZ Try.prog 96=some [.nilFunc]:=by kernel_rfl
theorem tv96:tV Try.prog 96=some (.nilFunc):=by kernel_rfl
theorem tc96:Try.prog.concrete 96=true:=by kernel_rfl
theorem ts97:tS Try.prog 97=some 1:=by kernel_rfl
theorem tb97:tB Try.prog 97=some 8:=by kernel_rfl
theorem ta97:tA Try.prog 97=some false:=by kernel_rfl
theorem tz97:tZ Try.prog 97=some [.nilFunc]:=by kernel_rfl
theorem tv97:tV Try.prog 97=some (.nilFunc):=by kernel_rfl
theorem tc97:Try.prog.concrete 97=true:=by kernel_rfl
theorem ts98:tS Try.prog 98=some 1:=by kernel_rfl
theorem tb98:tB Try.prog 98=some 8:=by kernel_rfl
theorem ta98:tA Try.prog 98=some false:=by kernel_rfl
theorem tz98:tZ Try.prog 98=some [.nilFunc]:=by kernel_rfl
theorem tv98:tV Try.prog 98=some (.nilFunc):=by kernel_rfl
theorem tc98:Try.prog.concrete 98=true:=by kernel_rfl
theorem ts99:tS Try.prog 99=some 1:=by kernel_rfl
theorem tb99:tB Try.prog 99=some 8:=by kernel_rfl
theorem ta99:tA Try.prog 99=some false:=by kernel_rfl
theorem tz99:tZ Try.prog 99=some [.nilFunc]:=by kernel_rfl
theorem tv99:tV Try.prog 99=some (.nilFunc):=by kernel_rfl
theorem tc99:Try.prog.concrete 99=true:=by kernel_rfl
theorem ts100:tS Try.prog 100=some 1:=by kernel_rfl
theorem tb100:tB Try.prog 100=some 8:=by kernel_rfl
theorem ta100:tA Try.prog 100=some false:=by kernel_rfl
theorem tz100:tZ Try.prog 100=some [.pointer none]:=by kernel_rfl
theorem tv100:tV Try.prog 100=some (.pointer none):=by kernel_rfl
theorem tc100:Try.prog.concrete 100=true:=by kernel_rfl
theorem ts101:tS Try.prog 101=some 1:=by kernel_rfl
theorem tb101:tB Try.prog 101=some 24:=by kernel_rfl
theorem ta101:tA Try.prog 101=some false:=by kernel_rfl
theorem tz101:tZ Try.prog 101=some [.slice none 0 0]:=by kernel_rfl
theorem tv101:tV Try.prog 101=some (.slice none 0 0):=by kernel_rfl
theorem tc101:Try.prog.concrete 101=true:=by kernel_rfl
theorem ts102:tS Try.prog 102=some 1:=by kernel_rfl
theorem tb102:tB Try.prog 102=some 8:=by kernel_rfl
theorem ta102:tA Try.prog 102=some false:=by kernel_rfl
theorem tz102:tZ Try.prog 102=some [.nilFunc]:=by kernel_rfl
theorem tv102:tV Try.prog 102=some (.nilFunc):=by kernel_rfl
theorem tc102:Try.prog.concrete 102=true:=by kernel_rfl
theorem ts103:tS Try.prog 103=some 1:=by kernel_rfl
theorem tb103:tB Try.prog 103=some 8:=by kernel_rfl
theorem ta103:tA Try.prog 103=some false:=by kernel_rfl
theorem tz103:tZ Try.prog 103=some [.nilFunc]:=by kernel_rfl
theorem tv103:tV Try.prog 103=some (.nilFunc):=by kernel_rfl
theorem tc103:Try.prog.concrete 103=true:=by kernel_rfl
theorem ts104:tS Try.prog 104=some 1:=by kernel_rfl
theorem tb104:tB Try.prog 104=some 8:=by kernel_rfl
theorem ta104:tA Try.prog 104=some false:=by kernel_rfl
theorem tz104:tZ Try.prog 104=some [.nilFunc]:=by kernel_rfl
theorem tv104:tV Try.prog 104=some (.nilFunc):=by kernel_rfl
theorem tc104:Try.prog.concrete 104=true:=by kernel_rfl
theorem ts105:tS Try.prog 105=some 1:=by kernel_rfl
theorem tb105:tB Try.prog 105=some 8:=by kernel_rfl
theorem ta105:tA Try.prog 105=some false:=by kernel_rfl
theorem tz105:tZ Try.prog 105=some [.nilFunc]:=by kernel_rfl
theorem tv105:tV Try.prog 105=some (.nilFunc):=by kernel_rfl
theorem tc105:Try.prog.concrete 105=true:=by kernel_rfl
theorem ts106:tS Try.prog 106=some 1:=by kernel_rfl
theorem tb106:tB Try.prog 106=some 8:=by kernel_rfl
theorem ta106:tA Try.prog 106=some false:=by kernel_rfl
theorem tz106:tZ Try.prog 106=some [.nilFunc]:=by kernel_rfl
theorem tv106:tV Try.prog 106=some (.nilFunc):=by kernel_rfl
theorem tc106:Try.prog.concrete 106=true:=by kernel_rfl
theorem ts108:tS Try.prog 108=some 1:=by kernel_rfl
theorem tb108:tB Try.prog 108=some 8:=by kernel_rfl
theorem ta108:tA Try.prog 108=some false:=by kernel_rfl
theorem tz108:tZ Try.prog 108=some [.nilFunc]:=by kernel_rfl
theorem tv108:tV Try.prog 108=some (.nilFunc):=by kernel_rfl
theorem tc108:Try.prog.concrete 108=true:=by kernel_rfl
theorem ts109:tS Try.prog 109=some 1:=by kernel_rfl
theorem tb109:tB Try.prog 109=some 8:=by kernel_rfl
theorem ta109:tA Try.prog 109=some false:=by kernel_rfl
theorem tz109:tZ Try.prog 109=some [.nilFunc]:=by kernel_rfl
theorem tv109:tV Try.prog 109=some (.nilFunc):=by kernel_rfl
theorem tc109:Try.prog.concrete 109=true:=by kernel_rfl
theorem ts110:tS Try.prog 110=some 1:=by kernel_rfl
theorem tb110:tB Try.prog 110=some 8:=by kernel_rfl
theorem ta110:tA Try.prog 110=some false:=by kernel_rfl
theorem tz110:tZ Try.prog 110=some [.nilFunc]:=by kernel_rfl
theorem tv110:tV Try.prog 110=some (.nilFunc):=by kernel_rfl
theorem tc110:Try.prog.concrete 110=true:=by kernel_rfl
theorem ts111:tS Try.prog 111=some 4:=by kernel_rfl
theorem tb111:tB Try.prog 111=some 40:=by kernel_rfl
theorem ta111:tA Try.prog 111=some true:=by kernel_rfl
theorem tz111:tZ Try.prog 111=some [.pointer none,.pointer none,.pointer none,.string (bs [])]:=by kernel_rfl
theorem tv111:tV Try.prog 111=some (.agg ⟨[.pointer none,.pointer none,.pointer none,.string (bs [])]⟩):=by kernel_rfl
theorem tf111_0:tF Try.prog 111 0=some (0,17):=by kernel_rfl
theorem tf111_1:tF Try.prog 111 1=some (1,17):=by kernel_rfl
theorem tf111_2:tF Try.prog 111 2=some (2,17):=by kernel_rfl
theorem tf111_3:tF Try.prog 111 3=some (3,9):=by kernel_rfl
theorem tp111:tP Try.prog 111=some (.inl [(0,1),(1,1),(2,1),(3,1)]):=by kernel_rfl
theorem tc111:Try.prog.concrete 111=true:=by kernel_rfl
theorem tg111:Try.prog.eqGuardType Try.prog.depth 111=false:=by kernel_rfl
theorem ts112:tS Try.prog 112=some 4:=by kernel_rfl
theorem tb112:tB Try.prog 112=some 40:=by kernel_rfl
theorem ta112:tA Try.prog 112=some true:=by kernel_rfl
theorem tz112:tZ Try.prog 112=some [.pointer none,.pointer none,.pointer none,.string (bs [])]:=by kernel_rfl
theorem tv112:tV Try.prog 112=some (.agg ⟨[.pointer none,.pointer none,.pointer none,.string (bs [])]⟩):=by kernel_rfl
theorem tf112_0:tF Try.prog 112 0=some (0,17):=by kernel_rfl
theorem tf112_1:tF Try.prog 112 1=some (1,17):=by kernel_rfl
theorem tf112_2:tF Try.prog 112 2=some (2,17):=by kernel_rfl
theorem tf112_3:tF Try.prog 112 3=some (3,9):=by kernel_rfl
theorem tp112:tP Try.prog 112=some (.inl [(0,1),(1,1),(2,1),(3,1)]):=by kernel_rfl
theorem tc112:Try.prog.concrete 112=true:=by kernel_rfl
theorem tg112:Try.prog.eqGuardType Try.prog.depth 112=false:=by kernel_rfl
theorem ts113:tS Try.prog 113=some 0:=by kernel_rfl
theorem tb113:tB Try.prog 113=some 0:=by kernel_rfl
theorem ta113:tA Try.prog 113=some true:=by kernel_rfl
theorem tz113:tZ Try.prog 113=some []:=by kernel_rfl
theorem tv113:tV Try.prog 113=some (.agg ⟨[]⟩):=by kernel_rfl
theorem tp113:tP Try.prog 113=some (.inr 1):=by kernel_rfl
theorem tc113:Try.prog.concrete 113=true:=by kernel_rfl
theorem tg113:Try.prog.eqGuardType Try.prog.depth 113=false:=by kernel_rfl
theorem ts114:tS Try.prog 114=some 0:=by kernel_rfl
theorem tb114:tB Try.prog 114=some 0:=by kernel_rfl
theorem ta114:tA Try.prog 114=some true:=by kernel_rfl
theorem tz114:tZ Try.prog 114=some []:=by kernel_rfl
theorem tv114:tV Try.prog 114=some (.agg ⟨[]⟩):=by kernel_rfl
theorem tf114_0:tF Try.prog 114 0=some (0,113):=by kernel_rfl
theorem tp114:tP Try.prog 114=some (.inl [(0,0)]):=by kernel_rfl
theorem tc114:Try.prog.concrete 114=true:=by kernel_rfl
theorem tg114:Try.prog.eqGuardType Try.prog.depth 114=false:=by kernel_rfl
theorem ts115:tS Try.prog 115=some 0:=by kernel_rfl
theorem tb115:tB Try.prog 115=some 0:=by kernel_rfl
theorem ta115:tA Try.prog 115=some true:=by kernel_rfl
theorem tz115:tZ Try.prog 115=some []:=by kernel_rfl
theorem tv115:tV Try.prog 115=some (.agg ⟨[]⟩):=by kernel_rfl
theorem tf115_0:tF Try.prog 115 0=some (0,113):=by kernel_rfl
theorem tp115:tP Try.prog 115=some (.inl [(0,0)]):=by kernel_rfl
theorem tc115:Try.prog.concrete 115=true:=by kernel_rfl
theorem tg115:Try.prog.eqGuardType Try.prog.depth 115=false:=by kernel_rfl
theorem ts116:tS Try.prog 116=some 1:=by kernel_rfl
theorem tb116:tB Try.prog 116=some 4:=by kernel_rfl
theorem ta116:tA Try.prog 116=some false:=by kernel_rfl
theorem tz116:tZ Try.prog 116=some [.int .u32 0]:=by kernel_rfl
theorem tv116:tV Try.prog 116=some (.int .u32 0):=by kernel_rfl
theorem tc116:Try.prog.concrete 116=true:=by kernel_rfl
theorem ts117:tS Try.prog 117=some 1:=by kernel_rfl
theorem tb117:tB Try.prog 117=some 1:=by kernel_rfl
theorem ta117:tA Try.prog 117=some false:=by kernel_rfl
theorem tz117:tZ Try.prog 117=some [.int .u8 0]:=by kernel_rfl
theorem tv117:tV Try.prog 117=some (.int .u8 0):=by kernel_rfl
theorem tc117:Try.prog.concrete 117=true:=by kernel_rfl
theorem ts118:tS Try.prog 118=some 1:=by kernel_rfl
theorem tb118:tB Try.prog 118=some 1:=by kernel_rfl
theorem ta118:tA Try.prog 118=some false:=by kernel_rfl
theorem tz118:tZ Try.prog 118=some [.int .u8 0]:=by kernel_rfl
theorem tv118:tV Try.prog 118=some (.int .u8 0):=by kernel_rfl
theorem tc118:Try.prog.concrete 118=true:=by kernel_rfl
theorem ts119:tS Try.prog 119=some 1:=by kernel_rfl
theorem tb119:tB Try.prog 119=some 8:=by kernel_rfl
theorem ta119:tA Try.prog 119=some false:=by kernel_rfl
theorem tz119:tZ Try.prog 119=some [.nilFunc]:=by kernel_rfl
theorem tv119:tV Try.prog 119=some (.nilFunc):=by kernel_rfl
theorem tc119:Try.prog.concrete 119=true:=by kernel_rfl
theorem ts120:tS Try.prog 120=some 1:=by kernel_rfl
theorem tb120:tB Try.prog 120=some 8:=by kernel_rfl
theorem ta120:tA Try.prog 120=some false:=by kernel_rfl
theorem tz120:tZ Try.prog 120=some [.pointer none]:=by kernel_rfl
theorem tv120:tV Try.prog 120=some (.pointer none):=by kernel_rfl
theorem tc120:Try.prog.concrete 120=true:=by kernel_rfl
theorem ts121:tS Try.prog 121=some 1:=by kernel_rfl
theorem tb121:tB Try.prog 121=some 4:=by kernel_rfl
theorem ta121:tA Try.prog 121=some false:=by kernel_rfl
theorem tz121:tZ Try.prog 121=some [.int .i32 0]:=by kernel_rfl
theorem tv121:tV Try.prog 121=some (.int .i32 0):=by kernel_rfl
theorem tc121:Try.prog.concrete 121=true:=by kernel_rfl
theorem ts122:tS Try.prog 122=some 1:=by kernel_rfl
theorem tb122:tB Try.prog 122=some 4:=by kernel_rfl
theorem ta122:tA Try.prog 122=some false:=by kernel_rfl
theorem tz122:tZ Try.prog 122=some [.int .i32 0]:=by kernel_rfl
theorem tv122:tV Try.prog 122=some (.int .i32 0):=by kernel_rfl
theorem tc122:Try.prog.concrete 122=true:=by kernel_rfl
theorem ts123:tS Try.prog 123=some 11:=by kernel_rfl
theorem tb123:tB Try.prog 123=some 48:=by kernel_rfl
theorem ta123:tA Try.prog 123=some true:=by kernel_rfl
theorem tz123:tZ Try.prog 123=some [.int .u64 0,.int .u64 0,.int .u32 0,.int .u8 0,.int .u8 0,.int .u8 0,.int .u8 0,.nilFunc,.pointer none,.int .i32 0,.int .i32 0]:=by kernel_rfl
theorem tv123:tV Try.prog 123=some (.agg ⟨[.int .u64 0,.int .u64 0,.int .u32 0,.int .u8 0,.int .u8 0,.int .u8 0,.int .u8 0,.nilFunc,.pointer none,.int .i32 0,.int .i32 0]⟩):=by kernel_rfl
theorem tf123_0:tF Try.prog 123 0=some (0,12):=by kernel_rfl
theorem tf123_1:tF Try.prog 123 1=some (1,12):=by kernel_rfl
theorem tf123_2:tF Try.prog 123 2=some (2,116):=by kernel_rfl
theorem tf123_3:tF Try.prog 123 3=some (3,117):=by kernel_rfl
theorem tf123_4:tF Try.prog 123 4=some (4,5):=by kernel_rfl
theorem tf123_5:tF Try.prog 123 5=some (5,5):=by kernel_rfl
theorem tf123_6:tF Try.prog 123 6=some (6,118):=by kernel_rfl
theorem tf123_7:tF Try.prog 123 7=some (7,119):=by kernel_rfl
theorem tf123_8:tF Try.prog 123 8=some (8,120):=by kernel_rfl
theorem tf123_9:tF Try.prog 123 9=some (9,121):=by kernel_rfl
theorem tf123_10:tF Try.prog 123 10=some (10,122):=by kernel_rfl
theorem tp123:tP Try.prog 123=some (.inl [(0,1),(1,1),(2,1),(3,1),(4,1),(5,1),(6,1),(7,1),(8,1),(9,1),(10,1)]):=by kernel_rfl
theorem tc123:Try.prog.concrete 123=true:=by kernel_rfl
theorem tg123:Try.prog.eqGuardType Try.prog.depth 123=false:=by kernel_rfl
theorem ts124:tS Try.prog 124=some 11:=by kernel_rfl
theorem tb124:tB Try.prog 124=some 48:=by kernel_rfl
theorem ta124:tA Try.prog 124=some true:=by kernel_rfl
theorem tz124:tZ Try.prog 124=some [.int .u64 0,.int .u64 0,.int .u32 0,.int .u8 0,.int .u8 0,.int .u8 0,.int .u8 0,.nilFunc,.pointer none,.int .i32 0,.int .i32 0]:=by kernel_rfl
theorem tv124:tV Try.prog 124=some (.agg ⟨[.int .u64 0,.int .u64 0,.int .u32 0,.int .u8 0,.int .u8 0,.int .u8 0,.int .u8 0,.nilFunc,.pointer none,.int .i32 0,.int .i32 0]⟩):=by kernel_rfl
theorem tf124_0:tF Try.prog 124 0=some (0,12):=by kernel_rfl
theorem tf124_1:tF Try.prog 124 1=some (1,12):=by kernel_rfl
theorem tf124_2:tF Try.prog 124 2=some (2,116):=by kernel_rfl
theorem tf124_3:tF Try.prog 124 3=some (3,117):=by kernel_rfl
theorem tf124_4:tF Try.prog 124 4=some (4,5):=by kernel_rfl
theorem tf124_5:tF Try.prog 124 5=some (5,5):=by kernel_rfl
theorem tf124_6:tF Try.prog 124 6=some (6,118):=by kernel_rfl
theorem tf124_7:tF Try.prog 124 7=some (7,119):=by kernel_rfl
theorem tf124_8:tF Try.prog 124 8=some (8,120):=by kernel_rfl
theorem tf124_9:tF Try.prog 124 9=some (9,121):=by kernel_rfl
theorem tf124_10:tF Try.prog 124 10=some (10,122):=by kernel_rfl
theorem tp124:tP Try.prog 124=some (.inl [(0,1),(1,1),(2,1),(3,1),(4,1),(5,1),(6,1),(7,1),(8,1),(9,1),(10,1)]):=by kernel_rfl
theorem tc124:Try.prog.concrete 124=true:=by kernel_rfl
theorem tg124:Try.prog.eqGuardType Try.prog.depth 124=false:=by kernel_rfl
theorem ts125:tS Try.prog 125=some 1:=by kernel_rfl
theorem tb125:tB Try.prog 125=some 8:=by kernel_rfl
theorem ta125:tA Try.prog 125=some false:=by kernel_rfl
theorem tz125:tZ Try.prog 125=some [.pointer none]:=by kernel_rfl
theorem tv125:tV Try.prog 125=some (.pointer none):=by kernel_rfl
theorem tc125:Try.prog.concrete 125=true:=by kernel_rfl
attribute [go_sem] ts1 tb1 ta1 tz1 tv1 tc1 ts2 tb2 ta2 tz2 tv2 tc2 ts3 tb3 ta3 tz3 tv3 tc3 ts4 tb4 ta4 tz4 tv4 tc4 ts5 tb5 ta5 tz5 tv5 tc5 ts6 tb6 ta6 tz6 tv6 tc6 ts7 tb7 ta7 tz7 tv7 tf7_0 tf7_1 tf7_2 tf7_3 tp7 tc7 tg7 ts8 tb8 ta8 tz8 tv8 tf8_0 tf8_1 tf8_2 tf8_3 tp8 tc8 tg8 ts9 tb9 ta9 tz9 tv9 tc9 ts10 tb10 ta10 tz10 tv10 tc10 ts11 tb11 ta11 tz11 tv11 tc11 ts12 tb12 ta12 tz12 tv12 tc12 ts13 tb13 ta13 tz13 tv13 tf13_0 tf13_1 tp13 tc13 tg13 ts14 tb14 ta14 tz14 tv14 tf14_0 tf14_1 tp14 tc14 tg14 ts15 tb15 ta15 tz15 tv15 tc15 ts16 tb16 ta16 tz16 tv16 tc16 ts17 tb17 ta17 tz17 tv17 tc17 ts18 tb18 ta18 tz18 tv18 tf18_0 tp18 tc18 tg18 ts19 tb19 ta19 tz19 tv19 tf19_0 tp19 tc19 tg19 ts20 tb20 ta20 tz20 tv20 ts21 tb21 ta21 tz21 tv21 tc21 ts22 tb22 ta22 tz22 tv22 tc22 ts23 tb23 ta23 tz23 tv23 tc23 ts24 tb24 ta24 tz24 tv24 tc24 ts26 tb26 ta26 tz26 tv26 tc26 ts27 tb27 ta27 tz27 tv27 tc27 ts28 tb28 ta28 tz28 tv28 tc28 ts29 tb29 ta29 tz29 tv29 tc29 ts30 tb30 ta30 tz30 tv30 tp30 tc30 tg30 ts31 tb31 ta31 tz31 tv31 tc31 ts32 tb32 ta32 tz32 tv32 tp32 tc32 tg32 ts33 tb33 ta33 tz33 tv33 tp33 tc33 tg33 ts34 tb34 ta34 tz34 tv34 tc34 ts35 tb35 ta35 tz35 tv35 tf35_0 tf35_1 tf35_2 tf35_3 tf35_4 tf35_5 tf35_6 tp35 tc35 tg35 ts36 tb36 ta36 tz36 tv36 tf36_0 tf36_1 tf36_2 tf36_3 tf36_4 tf36_5 tf36_6 tp36 tc36 tg36 ts37 tb37 ta37 tz37 tv37 tc37 ts38 tb38 ta38 tz38 tv38 tc38 ts39 tb39 ta39 tz39 tv39 tc39 ts40 tb40 ta40 tz40 tv40 tc40 ts42 tb42 ta42 tz42 tv42 tc42 ts43 tb43 ta43 tz43 tv43 tf43_0 tf43_1 tf43_2 tf43_3 tf43_4 tf43_5 tf43_6 tf43_7 tf43_8 tp43 tc43 tg43 ts44 tb44 ta44 tz44 tv44 tf44_0 tf44_1 tf44_2 tf44_3 tf44_4 tf44_5 tf44_6 tf44_7 tf44_8 tp44 tc44 tg44 ts45 tb45 ta45 tz45 tv45 tc45 ts47 tb47 ta47 tz47 tv47 tc47 ts48 tb48 ta48 tz48 tv48 tc48 ts49 tb49 ta49 tz49 tv49 tc49 ts50 tb50 ta50 tz50 tv50 tf50_0 tf50_1 tf50_2 tf50_3 tf50_4 tp50 tc50 tg50 ts51 tb51 ta51 tz51 tv51 tf51_0 tf51_1 tf51_2 tf51_3 tf51_4 tp51 tc51 tg51 ts52 tb52 ta52 tz52 tv52 tc52 ts53 tb53 ta53 tz53 tv53 tc53 ts55 tb55 ta55 tz55 tv55 tc55 ts57 tb57 ta57 tz57 tv57 tc57 ts58 tb58 ta58 tz58 tv58 tc58 ts59 tb59 ta59 tz59 tv59 tc59 ts60 tb60 ta60 tz60 tv60 tc60 ts61 tb61 ta61 tz61 tv61 tc61 ts63 tb63 ta63 tz63 tv63 tc63 ts65 tb65 ta65 tz65 tv65 tc65 ts66 tb66 ta66 tz66 tv66 tc66 ts67 tb67 ta67 tz67 tv67 tc67 ts68 tb68 ta68 tz68 tv68 tc68 ts69 tb69 ta69 tz69 tv69 tc69 ts70 tb70 ta70 tz70 tv70 tf70_0 tf70_1 tf70_2 tf70_3 tf70_4 tf70_5 tf70_6 tf70_7 tf70_8 tf70_9 tf70_10 tp70 tc70 tg70 ts71 tb71 ta71 tz71 tv71 tf71_0 tf71_1 tf71_2 tf71_3 tf71_4 tf71_5 tf71_6 tf71_7 tf71_8 tf71_9 tf71_10 tp71 tc71 tg71 ts72 tb72 ta72 tz72 tv72 tc72 ts73 tb73 ta73 tz73 tv73 tf73_0 tf73_1 tf73_2 tf73_3 tf73_4 tf73_5 tf73_6 tf73_7 tf73_8 tf73_9 tp73 tc73 tg73 ts74 tb74 ta74 tz74 tv74 tf74_0 tf74_1 tf74_2 tf74_3 tf74_4 tf74_5 tf74_6 tf74_7 tf74_8 tf74_9 tp74 tc74 tg74 ts75 tb75 ta75 tz75 tv75 tf75_0 tf75_1 tf75_2 tf75_3 tf75_4 tf75_5 tp75 tc75 tg75 ts76 tb76 ta76 tz76 tv76 tf76_0 tf76_1 tf76_2 tf76_3 tf76_4 tf76_5 tp76 tc76 tg76 ts77 tb77 ta77 tz77 tv77 tf77_0 tf77_1 tf77_2 tf77_3 tf77_4 tf77_5 tf77_6 tf77_7 tf77_8 tf77_9 tp77 tc77 tg77 ts78 tb78 ta78 tz78 tv78 tf78_0 tf78_1 tf78_2 tf78_3 tf78_4 tf78_5 tf78_6 tf78_7 tf78_8 tf78_9 tp78 tc78 tg78 ts79 tb79 ta79 tz79 tv79 tc79 ts80 tb80 ta80 tz80 tv80 tf80_0 tf80_1 tf80_2 tf80_3 tf80_4 tf80_5 tf80_6 tf80_7 tp80 tc80 tg80 ts81 tb81 ta81 tz81 tv81 tf81_0 tf81_1 tf81_2 tf81_3 tf81_4 tf81_5 tf81_6 tf81_7 tp81 tc81 tg81 ts82 tb82 ta82 tz82 tv82 tc82 ts83 tb83 ta83 tz83 tv83 tc83 ts84 tb84 ta84 tz84 tv84 tc84 ts85 tb85 ta85 tz85 tv85 tc85 ts86 tb86 ta86 tz86 tv86 tc86 ts87 tb87 ta87 tz87 tv87 tc87 ts88 tb88 ta88 tz88 tv88 tp88 tc88 tg88 ts89 tb89 ta89 tz89 tv89 tc89 ts90 tb90 ta90 tz90 tv90 tc90 ts91 tb91 ta91 tz91 tv91 tc91 ts92 tb92 ta92 tz92 tv92 tc92 ts93 tb93 ta93 tz93 tv93 tc93 ts94 tb94 ta94 tz94 tv94 tc94 ts96 tb96 ta96 tz96 tv96 tc96 ts97 tb97 ta97 tz97 tv97 tc97 ts98 tb98 ta98 tz98 tv98 tc98 ts99 tb99 ta99 tz99 tv99 tc99 ts100 tb100 ta100 tz100 tv100 tc100 ts101 tb101 ta101 tz101 tv101 tc101 ts102 tb102 ta102 tz102 tv102 tc102 ts103 tb103 ta103 tz103 tv103 tc103 ts104 tb104 ta104 tz104 tv104 tc104 ts105 tb105 ta105 tz105 tv105 tc105 ts106 tb106 ta106 tz106 tv106 tc106 ts108 tb108 ta108 tz108 tv108 tc108 ts109 tb109 ta109 tz109 tv109 tc109 ts110 tb110 ta110 tz110 tv110 tc110 ts111 tb111 ta111 tz111 tv111 tf111_0 tf111_1 tf111_2 tf111_3 tp111 tc111 tg111 ts112 tb112 ta112 tz112 tv112 tf112_0 tf112_1 tf112_2 tf112_3 tp112 tc112 tg112 ts113 tb113 ta113 tz113 tv113 tp113 tc113 tg113 ts114 tb114 ta114 tz114 tv114 tf114_0 tp114 tc114 tg114 ts115 tb115 ta115 tz115 tv115 tf115_0 tp115 tc115 tg115 ts116 tb116 ta116 tz116 tv116 tc116 ts117 tb117 ta117 tz117 tv117 tc117 ts118 tb118 ta118 tz118 tv118 tc118 ts119 tb119 ta119 tz119 tv119 tc119 ts120 tb120 ta120 tz120 tv120 tc120 ts121 tb121 ta121 tz121 tv121 tc121 ts122 tb122 ta122 tz122 tv122 tc122 ts123 tb123 ta123 tz123 tv123 tf123_0 tf123_1 tf123_2 tf123_3 tf123_4 tf123_5 tf123_6 tf123_7 tf123_8 tf123_9 tf123_10 tp123 tc123 tg123 ts124 tb124 ta124 tz124 tv124 tf124_0 tf124_1 tf124_2 tf124_3 tf124_4 tf124_5 tf124_6 tf124_7 tf124_8 tf124_9 tf124_10 tp124 tc124 tg124 ts125 tb125 ta125 tz125 tv125 tc125
attribute [go_sem] Try.underlying0 Try.underlying1 Try.underlying2 Try.underlying3 Try.underlying4 Try.underlying5 Try.underlying6 Try.underlying7 Try.underlying8 Try.underlying9 Try.underlying10 Try.underlying11 Try.underlying12 Try.underlying13 Try.underlying14 Try.underlying15 Try.underlying16 Try.underlying17 Try.underlying18 Try.underlying19 Try.underlying20 Try.underlying21 Try.underlying22 Try.underlying23 Try.underlying24 Try.underlying25 Try.underlying26 Try.underlying27 Try.underlying28 Try.underlying29 Try.underlying30 Try.underlying31 Try.underlying32 Try.underlying33 Try.underlying34 Try.underlying35 Try.underlying36 Try.underlying37 Try.underlying38 Try.underlying39 Try.underlying40 Try.underlying41 Try.underlying42 Try.underlying43 Try.underlying44 Try.underlying45 Try.underlying46 Try.underlying47 Try.underlying48 Try.underlying49 Try.underlying50 Try.underlying51 Try.underlying52 Try.underlying53 Try.underlying54 Try.underlying55 Try.underlying56 Try.underlying57 Try.underlying58 Try.underlying59 Try.underlying60 Try.underlying61 Try.underlying62 Try.underlying63 Try.underlying64 Try.underlying65 Try.underlying66 Try.underlying67 Try.underlying68 Try.underlying69 Try.underlying70 Try.underlying71 Try.underlying72 Try.underlying73 Try.underlying74 Try.underlying75 Try.underlying76 Try.underlying77 Try.underlying78 Try.underlying79 Try.underlying80 Try.underlying81 Try.underlying82 Try.underlying83 Try.underlying84 Try.underlying85 Try.underlying86 Try.underlying87 Try.underlying88 Try.underlying89 Try.underlying90 Try.underlying91 Try.underlying92 Try.underlying93 Try.underlying94 Try.underlying95 Try.underlying96 Try.underlying97 Try.underlying98 Try.underlying99 Try.underlying100 Try.underlying101 Try.underlying102 Try.underlying103 Try.underlying104 Try.underlying105 Try.underlying106 Try.underlying107 Try.underlying108 Try.underlying109 Try.underlying110 Try.underlying111 Try.underlying112 Try.underlying113 Try.underlying114 Try.underlying115 Try.underlying116 Try.underlying117 Try.underlying118 Try.underlying119 Try.underlying120 Try.underlying121 Try.underlying122 Try.underlying123 Try.underlying124 Try.underlying125
end Go.Proofs.Ytdgmcckfdgnicaa
