/- The abstract layer, part 29: functions that look at one block, and change it. -/
import Derived.Test.YthnmkedknannhaaAbExecs
import Derived.Test.YthnmkedknannhaaAbLoops
namespace Go.Ab
set_option linter.unusedVariables false
end Go.Ab
