/-
  The walk of nodes: an address' pack, and what it is read as.
-/
import Derived.Test.YtdbdnknnaekbhaaNE
set_option linter.unusedVariables false
set_option linter.unusedSimpArgs false
set_option maxRecDepth 20000
set_option maxHeartbeats 4000000
namespace Go.Proofs.Ytdbdnknnaekbhaa
open Go Go.Aw Go.Proofs
end Go.Proofs.Ytdbdnknnaekbhaa

