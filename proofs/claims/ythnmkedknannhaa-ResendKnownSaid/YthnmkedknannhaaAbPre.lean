/- A body's first parts, computed: the state behind them is checked, and a walk goes on from there. -/
import Derived.Test.YthnmkedknannhaaAbFast
import Derived.Test.YthnmkedknannhaaAbShs
namespace Go.Ab
open Go
noncomputable def runPre (run : XR) (k : Nat) : ICode → Env → Hp → Nat → Option XO :=
  Nat.rec (fun _ e h n => some (.n, e, h, n)) (fun _ ih c e h n => match c with
    | .seq a b => (run a e h n).bind fun o => match o with
      | (.n, e, h, n) => ih b e h n
      | _ => none
    | _ => none) k
def dropS : Nat → ICode → ICode
  | 0, c => c
  | k + 1, .seq _ b => dropS k b
  | _, c => c
section
variable {F : Fx} {run : XR} {K : Kont}
theorem Seam.comp (hr : RunOK F.P run) {c : ICode} {e : Env} {h : Hp} {n : Nat} {out : XO} (hx : run c e h n = some out) (hk : K out.1.toExit out.2.1 out.2.2.1 out.2.2.2) : Seam F c K e h n := fun c' hc' => by
  refine WP.mono (fun ex e h n hx => ?_) (hr F.ct F.N F.n0 c e h n out hx c' hc')
  obtain ⟨rfl, rfl, rfl, rfl⟩ := hx
  exact hk
theorem Seam.pre (hr : RunOK F.P run) : ∀ (k : Nat) (c : ICode) (e : Env) (h : Hp) (n : Nat) (e' : Env) (h' : Hp) (n' : Nat), runPre run k c e h n = some (.n, e', h', n') → Seam F (dropS k c) K e' h' n' → Seam F c K e h n
  | 0, c, e, h, n, e', h', n', hx, hs => by cases hx; exact hs
  | k + 1, c, e, h, n, e', h', n', hx, hs => by
    cases c with
    | seq a b =>
      have hx : ((run a e h n).bind fun o => match o with
        | (.n, e, h, n) => runPre run k b e h n
        | _ => none) = some (.n, e', h', n') := hx
      simp only [Option.bind_eq_some_iff] at hx
      obtain ⟨⟨x, e1, h1, n1⟩, h2, h3⟩ := hx
      cases x with
      | n => exact Seam.seq (Seam.comp hr h2 (Seam.pre hr k b e1 h1 n1 e' h' n' h3 hs))
      | _ => cases h3
    | _ => cases hx
noncomputable def envC (m : Nat) (e : Env) : Env → Bool
  | [] => true
  | (t, v) :: r => (match egetF e t with
    | some u => u.same v
    | none => false) && (v.bel m && envC m e r)
noncomputable def hpC (m : Nat) (h : Hp) : Hp → Bool
  | [] => true
  | (b, k) :: r => (match hget h b with
    | some j => blkSame j k
    | none => false) && (belL m k.cells && (Nat.blt b m && hpC m h r))
noncomputable def stC (m : Nat) (o : Option XO) (E : Env) (H : Hp) : Bool := match o with
  | some (.n, e, h, _) => envC m e E && hpC m h H
  | _ => false
theorem envC_in {m : Nat} {e : Env} : ∀ {E : Env}, envC m e E = true → EnvIn m e E
  | [], _ => trivial
  | (t, v) :: r, h => by
    simp only [envC, Bool.and_eq_true] at h
    obtain ⟨h1, h2, h3⟩ := h
    rw [egetF_eq] at h1
    refine ⟨?_, h2, envC_in h3⟩
    cases hg : eget e t with
    | none => rw [hg] at h1; cases h1
    | some u => rw [hg] at h1; rw [AV.same_eq h1]
theorem hpC_in {m : Nat} {h : Hp} : ∀ {H : Hp}, hpC m h H = true → HpIn m h H
  | [], _ => trivial
  | (b, k) :: r, hh => by
    simp only [hpC, Bool.and_eq_true] at hh
    obtain ⟨h1, h2, h4, h3⟩ := hh
    refine ⟨?_, h2, blt_lt h4, hpC_in h3⟩
    cases hg : hget h b with
    | none => rw [hg] at h1; cases h1
    | some u => rw [hg] at h1; rw [blkSame_eq h1]
/-- The first k parts, computed; m: the next name behind them, as the walk goes on. -/
theorem Seam.start (hr : RunOK F.P run) (k m : Nat) (E : Env) (H : Hp) {c : ICode} {e : Env} {h : Hp} {n : Nat} (hx : stC m (runPre run k c e h n) E H = true) (hs : ∀ e' h' n', EnvIn m e' E → HpIn m h' H → Seam F (dropS k c) K e' h' n') : Seam F c K e h n := by
  unfold stC at hx
  split at hx
  · rename_i e' h' n' hq
    simp only [Bool.and_eq_true] at hx
    exact Seam.pre hr k c e h n e' h' n' hq (hs e' h' n' (envC_in hx.1) (hpC_in hx.2))
  · cases hx
/-- What is left, computed, up to the return. -/
theorem Seam.stop (hr : RunOK F.P run) {c : ICode} {e : Env} {h : Hp} {n : Nat} {res : List IRes} {Q : AV → Hp → Nat → Prop} {v : AV} (hx : ((run c e h n).bind fun o => match o with
    | (.r, e', h', _) => retV res e' h'
    | _ => none) = some (true, v)) (hQ : ∀ h' n', Q v h' n') : Seam F c (retK res Q) e h n := by
  simp only [Option.bind_eq_some_iff] at hx
  obtain ⟨⟨x, e1, h1, n1⟩, h2, h3⟩ := hx
  cases x with
  | r =>
    refine Seam.comp hr h2 ?_
    show gd (retV res e1 h1) _
    have h3 : retV res e1 h1 = some (true, v) := h3
    rw [h3]
    exact ⟨rfl, hQ _ _⟩
  | _ => cases h3
end
end Go.Ab
