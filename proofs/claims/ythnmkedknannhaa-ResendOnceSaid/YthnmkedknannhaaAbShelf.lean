/- The abstract layer, part 54: contracts of the library's shelf, over plain values. -/
import Derived.Test.YthnmkedknannhaaAbFast
import Derived.Below
namespace Go.Ab
open Go.RowKit
set_option linter.unusedVariables false
theorem MEnt.ok_ext {P : Program} {f : FuncId} {a : List AV} {v : AV} (hc : callable P f = true) (hf : FTL P f a [] 0 v [] 0) : (MEnt.mk f a [] 0 v [] 0).ok P := ⟨hc, hf, Nat.le_refl _, rfl⟩
end Go.Ab
