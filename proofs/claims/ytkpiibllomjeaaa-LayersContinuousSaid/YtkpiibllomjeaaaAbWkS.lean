/- The abstract layer: at a seam, values are told by others that they stand for. -/
import Derived.Test.YtkpiibllomjeaaaAbGvs
import Derived.Test.YtkpiibllomjeaaaAbWka
namespace Go.Ab
set_option linter.unusedVariables false
set_option linter.unusedSimpArgs false
def WkE (e : Env) : Env → Prop
 | [] => True
 | (t, v2) :: r => (∃ v, eget e t = some v ∧ Wka v v2) ∧ WkE e r
theorem WkE.get {e : Env} : ∀ {e2 : Env}, WkE e e2 → ∀ t v2, eget e2 t = some v2 → ∃ v, eget e t = some v ∧ Wka v v2
 | [], _, t, v2, h => by simp [eget] at h
 | (s, u) :: r, hf, t, v2, h => by
  simp only [eget] at h
  by_cases hs : t = s
  · subst hs; simp at h; subst h; exact hf.1
  · rw [beq_ne hs] at h; exact WkE.get hf.2 t v2 h
def WkH (h : Hp) : Hp → Prop
 | [] => True
 | (c, k2) :: r => (∃ k, hget h c = some k ∧ k2.ro = k.ro ∧ k2.gr = k.gr ∧ k2.gid = k.gid ∧ WkaL k.cells k2.cells) ∧ WkH h r
theorem WkH.get {h : Hp} : ∀ {h2 : Hp}, WkH h h2 → ∀ c k2, hget h2 c = some k2 → ∃ k, hget h c = some k ∧ k2.ro = k.ro ∧ k2.gr = k.gr ∧ k2.gid = k.gid ∧ WkaL k.cells k2.cells
 | [], _, c, k2, h => by simp [hget] at h
 | (s, u) :: r, hf, c, k2, h => by
  simp only [hget] at h
  by_cases hs : c = s
  · subst hs; simp at h; subst h; exact hf.1
  · rw [beq_ne hs] at h; exact WkH.get hf.2 c k2 h
end Go.Ab
