/-
  The walk of the law of reading.
-/
import Derived.Test.YthcdjconlfdidaaDoorQ1M
import Derived.Test.YthcdjconlfdidaaDoorEF
import Derived.Test.YthcdjconlfdidaaDoorEG
set_option linter.unusedVariables false
set_option linter.unusedSimpArgs false
set_option maxRecDepth 20000
set_option maxHeartbeats 8000000
namespace Go.Proofs.YthcdjconlfdidaaDoor
open Go Go.Aw Go.Proofs
theorem take5 (cs : List Value) (h : cs.length = 5) : List.take 5 cs = cs := List.take_of_length_le (by omega)
end Go.Proofs.YthcdjconlfdidaaDoor

