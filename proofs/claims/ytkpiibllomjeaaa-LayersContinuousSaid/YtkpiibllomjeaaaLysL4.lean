/- Chapter 41: LayersPushes, the walk. -/
import Derived.Test.YtkpiibllomjeaaaLysDc
import Derived.Test.YtkpiibllomjeaaaLysKb
import Derived.Test.YtkpiibllomjeaaaAbWkS
import Derived.Test.YtkpiibllomjeaaaLysI4
namespace Go.Proofs.Lys
open Go.Ab
set_option maxRecDepth 100000
set_option maxHeartbeats 8000000
set_option linter.unusedSimpArgs false
set_option linter.unusedVariables false
/-! SamePackets (of one list twice) -/
end Go.Proofs.Lys
