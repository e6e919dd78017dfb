/- Chapter 41, plain: a wish for another stream changes nothing until its key frame. -/
import Derived.Test.YtkpiibllomjeaaaLysPa
import Derived.Test.YtkpiibllomjeaaaLysKb
import Derived.Test.YtkpiibllomjeaaaLysL4
namespace Go.Proofs.Lys
open Go.Ab
set_option maxRecDepth 100000
set_option linter.unusedSimpArgs false
set_option linter.unusedVariables false
def toldN (s : Sw) (k : Int) (p : Md) (x : Sh) : Sw × List Md :=
 bif advB s k p then
  bif dropB (frameS (advS s k p) x) x then (dropS (frameS (advS s k p) x) x, [])
  else (sendS (frameS (advS s k p) x) p x, [sendP (frameS (advS s k p) x) p x])
 else (s, [])
theorem told_N (s : Sw) (k : Int) (p : Md) (x : Sh) : toldL s k p x = toldN (takeS s k p x) k p x := rfl
structure Wt (u : Sw) (n : Int) : Prop where
 gd : Gd u
 l : u.l = [10, 20, 30]
 nw : u.nw = n
end Go.Proofs.Lys
