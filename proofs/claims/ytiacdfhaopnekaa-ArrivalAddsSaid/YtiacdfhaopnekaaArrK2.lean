/- Chapter 29: the chapter's examples hold. -/
import Derived.Test.YtiacdfhaopnekaaArrK
namespace Go.Proofs.Arr
open Go.Ab
theorem tk20 : (xFn (runM kM2 TK 3000) i20 [] ([]) 0).map (·.1) = some (.b true) := by kernel_rfl
theorem w20 : FTL Try.prog 20 [] ([]) 0 (.b true) [] 0 := FTL.of_runM 3000 mo kM2_ok TK_valid Try.func20 i20_eq tk20 rfl
end Go.Proofs.Arr
