/- The small language's text of the functions; printed by ShowI.lean. -/
import Derived.Test.YtkpiibllomjeaaaProg
import Derived.Test.YtkpiibllomjeaaaAbRuns
namespace Go.Proofs.Lys
open Go.Ab
end Go.Proofs.Lys
