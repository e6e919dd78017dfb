/- Texts laid as one: LysM4 LysM5. -/
import Derived.Test.YtkpiibllomjeaaaLysCa
import Derived.Test.YtkpiibllomjeaaaAbFzs
import Derived.Test.YtkpiibllomjeaaaAbGvs
section
/- The contract of the reference's Right (packets). -/
namespace Go.Proofs.Lys
open Go.Ab
set_option maxRecDepth 100000
set_option maxHeartbeats 4000000
set_option linter.unusedSimpArgs false
set_option linter.unusedVariables false
theorem inI_of {lo hi x : Int} (h : lo ≤ x ∧ x ≤ hi) : inI lo hi x = true := by simp only [inI, Bool.and_eq_true, decide_eq_true_eq]; exact h
theorem inI_t {lo hi x : Int} (h : inI lo hi x = true) : lo ≤ x ∧ x ≤ hi := by simpa only [inI, Bool.and_eq_true, decide_eq_true_eq] using h
theorem csB (j : Nat) (l : List Int) : belL j (rows int1 l) = true := belL_mono0 _ (rows_bel int1_bel)
theorem xsB (j : Nat) (l : List Xt) : belL j (rows xtR l) = true := belL_mono0 _ (rows_bel xtR_bel)
end Go.Proofs.Lys
end
section
/- The contract of the reference's Same: packets with the same data are the same. -/
namespace Go.Proofs.Lys
open Go.Ab
set_option maxRecDepth 100000
set_option maxHeartbeats 8000000
set_option linter.unusedSimpArgs false
set_option linter.unusedVariables false
end Go.Proofs.Lys
end
