/- Texts laid as one: LysC12 LysC13. -/
import Derived.Test.YtkpiibllomjeaaaLysCd
import Derived.Test.YtkpiibllomjeaaaAbShs
import Derived.Test.YtkpiibllomjeaaaAbFzs
import Derived.Test.YtkpiibllomjeaaaLysMb
section
/- Chapter 41: the reference's Told. -/
namespace Go.Proofs.Lys
open Go.Ab
set_option maxRecDepth 100000
set_option maxHeartbeats 4000000
set_option linter.unusedSimpArgs false
set_option linter.unusedVariables false
abbrev h62 (s : Sw) (p : Md) (x : Sh) : Hp := [(3, { cells := [.ns, .i .i64 0, .i .i64 0, .i .i64 0, .i .i64 0, .i .i64 0, .i .i64 0, .i .i64 0, .i .i64 0, .b false, .i .i64 0, .i .i64 0, .i .i64 0, .i .i64 0, .i .i64 0, .i .i64 0, .i .i64 0, .i .i64 0] }), (2, { cells := x.l }), (1, { cells := p.l }), (0, { cells := s.a })]
end Go.Proofs.Lys
end
section
/- Chapter 41: the reference's Push. -/
namespace Go.Proofs.Lys
open Go.Ab
set_option maxRecDepth 100000
set_option maxHeartbeats 4000000
set_option linter.unusedSimpArgs false
set_option linter.unusedVariables false
end Go.Proofs.Lys
end
