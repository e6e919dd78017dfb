/- Plain facts of the law's buffers: packets that are not huge, numbers in range. -/
import Derived.Test.YtcpgamgkbbckoaaJitDb
namespace Go.Proofs.Jit
open Go.Ab
set_option maxRecDepth 100000
set_option maxHeartbeats 4000000
set_option linter.unusedSimpArgs false
set_option linter.unusedVariables false
/-! numbers in range -/
end Go.Proofs.Jit
