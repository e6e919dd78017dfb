/- The small language's text of the functions; printed by ShowI.lean. -/
import Derived.Test.YtlokbfkdgnopeaaGreatDoorProg
import Derived.Test.YtlokbfkdgnopeaaGreatDoorAbRuns
namespace Go.Proofs.Flz
open Go.Ab
end Go.Proofs.Flz
