/- Texts laid as one: JitM4 JitM5. -/
import Derived.Test.YtcpgamgkbbckoaaJitC1
import Derived.Test.YtcpgamgkbbckoaaAbFzs
import Derived.Test.YtcpgamgkbbckoaaAbGvs
section
/- The contract of the reference's Right (packets). -/
namespace Go.Proofs.Jit
open Go.Ab
set_option maxRecDepth 100000
set_option maxHeartbeats 4000000
set_option linter.unusedSimpArgs false
set_option linter.unusedVariables false
theorem csB (j : Nat) (l : List Int) : belL j (rows int1 l) = true := belL_mono0 _ (rows_bel int1_bel)
theorem xsB (j : Nat) (l : List Xt) : belL j (rows xtR l) = true := belL_mono0 _ (rows_bel xtR_bel)
theorem mdB_sq {p : Md} (h : mdB p = true) : inI 0 65535 p.sq = true := by
 simp only [mdB, mdPre, Bool.and_eq_true] at h
 have := inZ_iff.1 h.1.1.1.1.1.1.2
 exact inI_of this
theorem mdB_tm {p : Md} (h : mdB p = true) : inI 0 4294967295 p.tm = true := by
 simp only [mdB, mdPre, Bool.and_eq_true] at h
 have := inZ_iff.1 h.1.1.1.1.1.2.1
 exact inI_of this
end Go.Proofs.Jit
end
section
/- The contract of the reference's Same: packets with the same data are the same. -/
namespace Go.Proofs.Jit
open Go.Ab
set_option maxRecDepth 100000
set_option maxHeartbeats 8000000
set_option linter.unusedSimpArgs false
set_option linter.unusedVariables false
end Go.Proofs.Jit
end
