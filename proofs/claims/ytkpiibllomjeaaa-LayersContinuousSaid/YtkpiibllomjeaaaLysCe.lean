/- Texts laid as one: LysC12 LysC13. -/
import Derived.Test.YtkpiibllomjeaaaLysCd
import Derived.Test.YtkpiibllomjeaaaAbShs
import Derived.Test.YtkpiibllomjeaaaAbFzs
import Derived.Test.YtkpiibllomjeaaaLysMb
section
/- Chapter 41: the reference's Told. -/
namespace Go.Proofs.Lys
open Go.Ab
set_option maxRecDepth 100000
set_option maxHeartbeats 4000000
set_option linter.unusedSimpArgs false
set_option linter.unusedVariables false
theorem capS_rng {s : Sw} {x : Sh} (h1 : inI 0 3 s.ca = true) (h2 : inI 0 3 s.ai = true) : IntKind.i64.wrap (capS s x + 1) = capS s x + 1 ∧ 0 ≤ capS s x ∧ capS s x ≤ 3 := by
 have h1 := inI_t h1
 have h2 := inI_t h2
 have : 0 ≤ capS s x ∧ capS s x ≤ 3 := by
  unfold capS
  cases x.ky
  · simp only [cond_false]; omega
  · simp only [cond_true]; omega
 exact ⟨wrapL (by omega) (by omega), this⟩
end Go.Proofs.Lys
end
section
/- Chapter 41: the reference's Push. -/
namespace Go.Proofs.Lys
open Go.Ab
set_option maxRecDepth 100000
set_option maxHeartbeats 4000000
set_option linter.unusedSimpArgs false
set_option linter.unusedVariables false
end Go.Proofs.Lys
end
