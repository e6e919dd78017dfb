/- The abstract layer, part 62: slices.Clone of a frozen slice; slices.DeleteFunc on a grown one. -/
import Derived.Test.YtndbgcmgjnjnhaaAbFzs
import Derived.Test.YtndbgcmgjnjnhaaAbShs
namespace Go.Ab
set_option maxRecDepth 100000
set_option maxHeartbeats 4000000
set_option linter.unusedSimpArgs false
set_option linter.unusedVariables false
section
variable {P : Program} {f : FuncId} {fn : Func} {z bytes : Nat} {zs : List AV}
end
end Go.Ab
