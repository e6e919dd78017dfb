/- The abstract layer, part 29: functions that look at one block, and change it. -/
import Derived.Test.YtndbgcmgjnjnhaaAbExecs
import Derived.Test.YtndbgcmgjnjnhaaAbLoops
namespace Go.Ab
set_option linter.unusedVariables false
end Go.Ab
