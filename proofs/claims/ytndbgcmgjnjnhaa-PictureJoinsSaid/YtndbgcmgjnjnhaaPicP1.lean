/- Plain facts on the descriptor of chapter 40: reading and writing are inverse. -/
import Derived.Test.YtndbgcmgjnjnhaaPicC4
namespace Go.Proofs.Pic
open Go.Ab
set_option maxRecDepth 100000
set_option linter.unusedSimpArgs false
set_option linter.unusedVariables false
theorem draft_good {f i b t s : Int} (hi : 0 ≤ i ∧ i ≤ 65535) (hb : 0 ≤ b ∧ b ≤ 255) (ht : 0 ≤ t ∧ t ≤ 255) (hs : 0 ≤ s ∧ s ≤ 255) : (draftS f i b t s).good = true := by
 have e1 : t.tmod 4 = t % 4 := Int.tmod_eq_emod_of_nonneg ht.1
 have e2 : s.tmod 3 = s % 3 := Int.tmod_eq_emod_of_nonneg hs.1
 have e3 : i.tmod 32768 = i % 32768 := Int.tmod_eq_emod_of_nonneg hi.1
 rw [Sh.good_iff]
 simp only [draftS, e1, e2, e3]
 rw [wrap64 (i % 32768) (by omega) (by omega), wrap64 b (by omega) (by omega), wrap64 (t % 4) (by omega) (by omega), wrap64 (s % 3) (by omega) (by omega)]
 refine ⟨by omega, by omega, by omega, by omega, by omega, by omega, by omega, by omega, fun h => ?_, fun h => ?_⟩
 · by_cases h4 : t % 4 = 0
   · exact h4
   · simp [h4] at h
 · by_cases h4 : t % 4 = 0
   · simp [h4] at h
   · exact h4
end Go.Proofs.Pic
