/-
  Where functions of the library lie in the translation: laid by the kit's tool.
-/
import Derived.Shelf.Small.Strs
import Derived.Ground.NamesProg
import Derived.Test.YtdbdnknnaekbhaaChecked
namespace Go.Proofs
open Go.Shelf
def Try.laysCompare_ren : Go.Shelf.Ren := ⟨fun | 106 => 62 | 213 => 72 | 265 => 76 | n => n, fun | 9 => 9 | 3 => 3 | n => n, fun | n => n⟩
theorem Try.laysCompare : Go.Proofs.Lays.n106 Try.prog Try.laysCompare_ren where
  mixed := by kernel_rfl
  f106 := Try.func62.trans (congrArg some (by kernel_rfl))
  f213 := Try.func72.trans (congrArg some (by kernel_rfl))
  f265 := Try.func76.trans (congrArg some (by kernel_rfl))
  t3 := Try.underlying3
  a3 := Try.isAgg3
  z3 := Try.sizeOf3
  v3 := Try.zeroValue3
  t9 := Try.underlying9
  a9 := Try.isAgg9
  z9 := Try.sizeOf9
  v9 := Try.zeroValue9
end Go.Proofs

