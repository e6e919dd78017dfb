/- The abstract layer: contracts over frozen values serve as triples, and as memo entries, over live slices of plain cells. -/
import Derived.Test.YtlokbfkdgnopeaaGreatDoorAbFzs
import Derived.Test.YtlokbfkdgnopeaaGreatDoorAbFast
import Derived.Test.YtlokbfkdgnopeaaGreatDoorAbShelf
import Derived.Test.YtlokbfkdgnopeaaGreatDoorAbGvs
namespace Go.Ab
set_option linter.unusedVariables false
set_option linter.unusedSimpArgs false
set_option maxRecDepth 100000
end Go.Ab
