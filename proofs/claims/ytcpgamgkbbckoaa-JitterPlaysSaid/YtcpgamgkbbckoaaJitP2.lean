/- JitterEven's plain law: packets that all take the same time. -/
import Derived.Test.YtcpgamgkbbckoaaJitP1
namespace Go.Proofs.Jit
open Go.Ab
set_option maxRecDepth 100000
set_option linter.unusedSimpArgs false
set_option linter.unusedVariables false
def evZ (ck : Int) : Bf := ⟨ck, 0, false, false, 0, 0, 0, 0, 0, 0, []⟩
theorem evZ_good {ck : Int} (hc : 1 ≤ ck ∧ ck ≤ 96) : goodB (evZ ck) = true := by
 have g1 := inI_of hc
 simp only [goodB, headB, emptyB, zerosB, evZ, g1]
 rfl
end Go.Proofs.Jit
