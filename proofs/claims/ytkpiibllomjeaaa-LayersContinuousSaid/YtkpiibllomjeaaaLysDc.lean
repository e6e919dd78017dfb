/- Texts laid as one: LysD7 LysD8. -/
import Derived.Test.YtkpiibllomjeaaaLysDb
section
/- Chapter 41: switches with a field changed. -/
namespace Go.Proofs.Lys
open Go.Ab
set_option maxRecDepth 100000
set_option maxHeartbeats 16000000
set_option linter.unusedSimpArgs false
set_option linter.unusedVariables false
structure Bx where
 wh : Int
 at_ : Int
 n : Int
def Bx.a (b : Bx) : List AV := [.i .u8 b.wh, .i .u8 b.at_, .i .i64 b.n]
end Go.Proofs.Lys
end
section
/- Chapter 41: packets with a field changed. -/
namespace Go.Proofs.Lys
open Go.Ab
set_option maxRecDepth 100000
set_option maxHeartbeats 4000000
set_option linter.unusedSimpArgs false
set_option linter.unusedVariables false
structure Tx where
 wh : Int
 at_ : Int
 oc : Int
 n : Int
def Tx.a (b : Tx) : List AV := [.i .u8 b.wh, .i .u8 b.at_, .i .u8 b.oc, .i .i64 b.n]
def bm (l : List UInt8) : List AV := l.map fun b => .i .u8 b.toNat
end Go.Proofs.Lys
end
