/- Texts laid as one: JitC13 JitC14. -/
import Derived.Test.YtcpgamgkbbckoaaJitCe
section
/- The reference's Put, the end. -/
namespace Go.Proofs.Jit
open Go.Ab
set_option maxRecDepth 100000
set_option maxHeartbeats 4000000
set_option linter.unusedSimpArgs false
set_option linter.unusedVariables false
end Go.Proofs.Jit
end
section
/- The reference's Put, the whole. -/
namespace Go.Proofs.Jit
open Go.Ab
set_option maxRecDepth 100000
set_option maxHeartbeats 4000000
set_option linter.unusedSimpArgs false
set_option linter.unusedVariables false
theorem heldB_sq : ∀ {l : List Hd} {nx mr last : Int}, heldB nx mr last l = true → sqOK l = true
 | [], _, _, _, _ => rfl
 | x :: r, nx, mr, last, h => by
  simp only [heldB, Bool.and_eq_true] at h
  have := heldB_sq h.2.2.2.2
  simp only [sqOK, List.all_cons, Bool.and_eq_true] at this ⊢
  exact ⟨mdB_sq h.1, this⟩
theorem good_mid {b : Bf} (hg : goodB b = true) (hs : b.sd = true) : sqOK b.l = true ∧ inI 0 65535 b.nx = true ∧ inI 0 1152921504606846976 b.mr = true ∧ (-1152921504606846976 ≤ b.tr ∧ b.tr ≤ 1152921504606846976) := by
 simp only [goodB, hs, cond_true, midB, Bool.and_eq_true, decide_eq_true_eq] at hg
 obtain ⟨_, ⟨g1, g2, g3, g4⟩, g5, _⟩ := hg
 have g3 := inI_t g3
 exact ⟨heldB_sq g5, g1, g2, by omega⟩
theorem good_head {b : Bf} (hg : goodB b = true) : inI 1 96 b.ck = true ∧ inI 0 1099511627776 b.ti = true ∧ inI 0 1048576 b.ji = true := by
 simp only [goodB, headB, Bool.and_eq_true] at hg
 exact ⟨hg.1.1, hg.1.2.1, hg.1.2.2.1⟩
theorem good_zero {b : Bf} (hg : goodB b = true) (hs : b.sd = false) : b.tr = 0 ∧ b.l.length = 0 := by
 simp only [goodB, hs, cond_false, emptyB, zerosB, Bool.and_eq_true, beq_iff_eq] at hg
 exact ⟨hg.2.2.1.2.2.2.1, hg.2.2.2⟩
end Go.Proofs.Jit
end
