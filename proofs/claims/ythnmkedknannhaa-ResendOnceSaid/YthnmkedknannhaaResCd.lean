/- Texts laid as one: ResC10 ResC11. -/
import Derived.Test.YthnmkedknannhaaResD1
section
/- The contract of the reference's Saw. -/
namespace Go.Proofs.Res
open Go.Ab
set_option maxRecDepth 100000
set_option maxHeartbeats 4000000
set_option linter.unusedSimpArgs false
set_option linter.unusedVariables false
abbrev hR (ti tp : Int) (l q : List Wt) : Hp := (gQ Wt.l 4 q).h 2 ++ [(1, { cells := [.i .i64 0, .b false, .i .i64 0, .ns] }), (0, { cells := [.i .i64 ti, .b true, .i .i64 tp, .fz (rows Wt.l l) l.length] })]
end Go.Proofs.Res
end
section
/- The contract of the reference's Saw, the whole; SameWants. -/
namespace Go.Proofs.Res
open Go.Ab
set_option maxRecDepth 100000
set_option maxHeartbeats 4000000
set_option linter.unusedSimpArgs false
set_option linter.unusedVariables false
end Go.Proofs.Res
end
