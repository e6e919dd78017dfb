/- The abstract layer, part 34: laws beside which package variables stand that were laid. -/
import Derived.Test.YtlokbfkdgnopeaaGreatDoorAbOpens
namespace Go.Ab
open Go.ChangeShapes Go.WideShapes Go.RowKit
set_option linter.unusedVariables false
def GlobOK (W : World) (x : Nat × List AV) : Prop := ∃ cs elem fr, W.heap[x.1]? = some (.cells cs elem fr) ∧ ∀ (D : Nat → Prop) (φ : Phi) (i : Nat) v, x.2[i]? = some v → ∃ u, cs[i]? = some u ∧ VRel D φ v u
def glH : Nat → List (Nat × List AV) → Hp
 | _, [] => []
 | j, (g, c) :: r => (j, { cells := c, ro := true, gid := some g }) :: glH (j + 1) r
theorem glH_get : ∀ {Gs : List (Nat × List AV)} {j b : Nat} {k : Blk}, hget (glH j Gs) b = some k → j ≤ b ∧ b < j + Gs.length ∧ ∃ g c, Gs[b - j]? = some (g, c) ∧ k = { cells := c, ro := true, gid := some g }
 | [], j, b, k, h => by simp [glH, hget] at h
 | (g, c) :: r, j, b, k, h => by
  simp only [glH, hget] at h
  by_cases hb : b = j
  · subst hb
    simp at h
    exact ⟨Nat.le_refl _, by simp, g, c, by simp, h.symm⟩
  · rw [beq_ne hb] at h
    obtain ⟨h1, h2, g', c', h3, h4⟩ := glH_get h
    refine ⟨by omega, by simp; omega, g', c', ?_, h4⟩
    rw [show b - j = (b - (j + 1)) + 1 by omega]
    simpa using h3
section
variable {H : Type} {enc : TypeId × Value → H} {P : Program} {W : World}
end
end Go.Ab
