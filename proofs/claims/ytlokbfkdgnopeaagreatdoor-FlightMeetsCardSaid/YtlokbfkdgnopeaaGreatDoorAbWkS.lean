/- The abstract layer: at a seam, values are told by others that they stand for. -/
import Derived.Test.YtlokbfkdgnopeaaGreatDoorAbGvs
import Derived.Test.YtlokbfkdgnopeaaGreatDoorAbWka
namespace Go.Ab
set_option linter.unusedVariables false
set_option linter.unusedSimpArgs false
def WkE (e : Env) : Env → Prop
 | [] => True
 | (t, v2) :: r => (∃ v, eget e t = some v ∧ Wka v v2) ∧ WkE e r
theorem WkE.get {e : Env} : ∀ {e2 : Env}, WkE e e2 → ∀ t v2, eget e2 t = some v2 → ∃ v, eget e t = some v ∧ Wka v v2
 | [], _, t, v2, h => by simp [eget] at h
 | (s, u) :: r, hf, t, v2, h => by
  simp only [eget] at h
  by_cases hs : t = s
  · subst hs; simp at h; subst h; exact hf.1
  · rw [beq_ne hs] at h; exact WkE.get hf.2 t v2 h
def WkH (h : Hp) : Hp → Prop
 | [] => True
 | (c, k2) :: r => (∃ k, hget h c = some k ∧ k2.ro = k.ro ∧ k2.gr = k.gr ∧ k2.gid = k.gid ∧ WkaL k.cells k2.cells) ∧ WkH h r
theorem WkH.get {h : Hp} : ∀ {h2 : Hp}, WkH h h2 → ∀ c k2, hget h2 c = some k2 → ∃ k, hget h c = some k ∧ k2.ro = k.ro ∧ k2.gr = k.gr ∧ k2.gid = k.gid ∧ WkaL k.cells k2.cells
 | [], _, c, k2, h => by simp [hget] at h
 | (s, u) :: r, hf, c, k2, h => by
  simp only [hget] at h
  by_cases hs : c = s
  · subst hs; simp at h; subst h; exact hf.1
  · rw [beq_ne hs] at h; exact WkH.get hf.2 c k2 h
theorem Seam.wk {F : Fx} {c : ICode} {K : Kont} {e e2 : Env} {h h2 : Hp} {n : Nat} (hs : Seam F c K e2 h2 n) (he : WkE e e2) (hh : WkH h h2) : Seam F c K e h n := by
 intro c' hc' ro hro0 Bd D0 φ0 H0 w0 g1 g2 D φ a w hR hS
 have hH := hR.heap
 have hH1 : HR D φ (hget h2) w := by
  refine ⟨⟨fun c kk2 hc => ?_, fun b1 b2 k1 k2 hne h1 h2' hr => ?_⟩, hH.fz, hH.lp, fun c kk B vs' hc hr hB => ?_⟩
  · obtain ⟨kk, h3, e1, e2', e3, hv⟩ := hh.get c kk2 hc
    obtain ⟨d1, ⟨⟨vs', elem', fr', r1, r2, r3, r4⟩, r5⟩⟩ := hH.at_ c kk h3
    refine ⟨d1, ⟨⟨vs', elem', fr', r1, fun i v2 hi => ?_, by rw [e1, e2']; exact r3, by rw [e1, e2']; exact r4⟩, by rw [e3]; exact r5⟩⟩
    obtain ⟨v, hv1, hv2⟩ := hv.get hi
    obtain ⟨u, hu, hur⟩ := r2 i v hv1
    exact ⟨u, hu, hv2 D φ u hur⟩
  · obtain ⟨kk1, a1, a2, _⟩ := hh.get _ _ h1
    obtain ⟨kk2, b1', b2', _⟩ := hh.get _ _ h2'
    exact hH.sep b1 b2 kk1 kk2 hne a1 b1' (by rw [← a2]; exact hr)
  · obtain ⟨kk1, a1, a2, _⟩ := hh.get _ _ hc
    exact hH.fsep c kk1 B vs' a1 (by rw [← a2]; exact hr) hB
 refine hs c' hc' ro hro0 Bd D0 φ0 H0 w0 g1 g2 D φ a w ⟨hR.lt, fun t v2 ht => ?_, hH1, hR.size, hR.defers⟩ ⟨hS.sub, hS.agree, hH1, hS.frm, fun c kk hc hr => ?_, hS.fnew⟩
 · obtain ⟨v, hv1, hv2⟩ := he.get t v2 ht
   exact hv2 D φ _ (hR.env t v hv1)
 · obtain ⟨kk1, a1, a2, _⟩ := hh.get _ _ hc
   exact hS.img c kk1 a1 (by rw [← a2]; exact hr)
end Go.Ab
