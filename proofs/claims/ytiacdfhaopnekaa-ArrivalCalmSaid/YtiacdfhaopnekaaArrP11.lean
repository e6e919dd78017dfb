/- Chapter 29: what ArrivalCalm asks. -/
import Derived.Test.YtiacdfhaopnekaaArrP10
namespace Go.Proofs.Arr
open Go.Ab
set_option linter.unusedVariables false
/-- When the packets of the law are sent: m of the draft, then one each 100 milliseconds. -/
def cS (d : Dr) (pk : List Pk) (m : Nat) : Nat → Int
  | 0 => d.f
  | k + 1 => cS d pk m k + (if k < m then d.e % 40 + (pk.getD k default).g else 100)
theorem cS_up {d : Dr} {pk : List Pk} {m : Nat} (hd : d.ok = true) (h : pk.all Pk.ok = true) (hm : m ≤ pk.length) (k : Nat) : cS d pk m k ≤ cS d pk m (k + 1) ∧ cS d pk m (k + 1) ≤ cS d pk m k + 300 := by
  simp only [Dr.ok, Bool.and_eq_true, inI_iff] at hd
  simp only [cS]
  split
  · have := pk_at h (show k < pk.length by omega); omega
  · omega
theorem cS_rng {d : Dr} {pk : List Pk} {m : Nat} (hd : d.ok = true) (h : pk.all Pk.ok = true) (hm : m ≤ pk.length) : ∀ k : Nat, 0 ≤ cS d pk m k ∧ cS d pk m k ≤ 65535 + 300 * k
  | 0 => by simp only [Dr.ok, Bool.and_eq_true, inI_iff] at hd; simp only [cS]; omega
  | k + 1 => by
    have h1 := cS_rng hd h hm k
    have h2 := cS_up hd h hm k
    omega
theorem cS_times {d : Dr} {pk : List Pk} {m : Nat} {T : Int} (hd : d.ok = true) (h : pk.all Pk.ok = true) (hm : m ≤ pk.length) (hT : 0 ≤ T ∧ T ≤ 65535) (n : Nat) (hn : n ≤ 100) : Times (fun k => cS d pk m (k + 1)) (fun k => cS d pk m (k + 1) + T) n :=
  ⟨fun k hk => by have := cS_rng hd h hm (k + 1); omega, fun k hk => by have := cS_rng hd h hm (k + 1); omega, fun k hk => by have := cS_up hd h hm (k + 1); omega⟩
section
variable {d : Dr} {pk : List Pk} {m : Nat} {T : Int}
/-- The states of the law. -/
abbrev cR (d : Dr) (pk : List Pk) (m : Nat) (T : Int) : Nat → Tr × List Pt := runS (fun k => cS d pk m (k + 1)) (fun k => cS d pk m (k + 1) + T)
theorem newT_calm (T : Int) : Calm T newT [] := ⟨rfl, rfl, rfl, rfl, rfl, by decide, fun i hi => absurd hi (by simp), fun h => (by cases h), fun h => (by cases h)⟩
theorem calm_run (hd : d.ok = true) (h : pk.all Pk.ok = true) (hm : m ≤ pk.length) (hT : 0 ≤ T ∧ T ≤ 65535) : ∀ k, k ≤ 100 → Calm T (cR d pk m T k).1 (cR d pk m T k).2 ∧ ((cR d pk m T k).1.st = true → (cR d pk m T k).1.lst = cS d pk m k) ∧ (0 < k → (cR d pk m T k).1.st = true)
  | 0, _ => ⟨newT_calm T, fun h => (by cases h), fun h => absurd h (by omega)⟩
  | k + 1, hk => by
    obtain ⟨h1, h2, h3⟩ := calm_run hd h hm hT k (by omega)
    have hE := (run_good (cS_times hd h hm hT 100 (Nat.le_refl _)) k (by omega)).2 (by omega)
    have hu := cS_up hd h hm k
    obtain ⟨c1, c2, c3, c4, c5, c6⟩ := calm_add h1 hE (fun hs => by rw [h2 hs]; exact hu.1)
    exact ⟨c1, fun _ => c3, fun _ => c4⟩
theorem calm_step (hd : d.ok = true) (h : pk.all Pk.ok = true) (hm : m ≤ pk.length) (hT : 0 ≤ T ∧ T ≤ 65535) (k : Nat) (hk : k < 100) : (cR d pk m T (k + 1)).1.thr ≤ (cR d pk m T k).1.thr := by
  obtain ⟨h1, h2, h3⟩ := calm_run hd h hm hT k (by omega)
  have hE := (run_good (cS_times hd h hm hT 100 (Nat.le_refl _)) k (by omega)).2 (by omega)
  have hu := cS_up hd h hm k
  exact (calm_add h1 hE (fun hs => by rw [h2 hs]; exact hu.1)).2.1
theorem calm_late (hd : d.ok = true) (h : pk.all Pk.ok = true) (hm : m ≤ pk.length) (hT : 0 ≤ T ∧ T ≤ 65535) (k : Nat) (hk : k < 100) (h0 : 0 < k) (hmk : m ≤ k) : (cR d pk m T (k + 1)).1.past = true ∧ (cR d pk m T (k + 1)).1.plst = cS d pk m k ∧ (cR d pk m T (k + 1)).1.lst = cS d pk m k + 100 ∧
    ((cR d pk m T k).1.past = true → (cR d pk m T k).1.plst + 100 = cS d pk m k → (cR d pk m T (k + 1)).1.thr = 6144) := by
  obtain ⟨h1, h2, h3⟩ := calm_run hd h hm hT k (by omega)
  obtain ⟨hg, hE⟩ := run_good (cS_times hd h hm hT 100 (Nat.le_refl _)) k (by omega)
  have hE := hE (by omega)
  have hu := cS_up hd h hm k
  have es : cS d pk m (k + 1) = cS d pk m k + 100 := by simp only [cS]; rw [if_neg (by omega)]
  have hs := h3 h0
  have hl := h2 hs
  have q := ((good_iff.1 hg).s1 hs).1
  obtain ⟨c1, c2, c3, c4, c5, c6⟩ := calm_add h1 hE (fun hs => by rw [h2 hs]; exact hu.1)
  have hl' : (cR d pk m T k).1.fst + 4 < cS d pk m (k + 1) := by
    have q' : (cR d pk m T k).1.fst ≤ (cR d pk m T k).1.lst := q
    rw [hl] at q'; omega
  obtain ⟨d1, d2, d3⟩ := c5 hs hl'
  exact ⟨d1, d2.trans hl, c3.trans es, fun hp hx => c6 hs hp hl' (by rw [hl]; omega) (by rw [hl]; omega)⟩
theorem calm_end (hd : d.ok = true) (h : pk.all Pk.ok = true) (hm : m ≤ pk.length) (hm60 : m ≤ 60) (hT : 0 ≤ T ∧ T ≤ 65535) : (cR d pk m T (m + 30)).1.thr = 6144 := by
  have e1 := calm_late hd h hm hT (m + 1) (by omega) (by omega) (by omega)
  have e2 := calm_late hd h hm hT (m + 2) (by omega) (by omega) (by omega)
  have es : cS d pk m (m + 2) = cS d pk m (m + 1) + 100 := by
    show cS d pk m (m + 1) + (if m + 1 < m then _ else _) = _
    rw [if_neg (by omega)]
  have e3 : (cR d pk m T (m + 3)).1.thr = 6144 := e2.2.2.2 e1.1 (by rw [e1.2.1, es])
  have : ∀ j, j ≤ 27 → (cR d pk m T (m + 3 + j)).1.thr = 6144 := by
    intro j
    induction j with
    | zero => exact fun _ => e3
    | succ j ih =>
      intro hj
      have a := ih (by omega)
      have b := calm_step hd h hm hT (m + 3 + j) (by omega)
      have c := (calm_run hd h hm hT (m + 3 + j + 1) (by omega)).1.th
      show (cR d pk m T (m + 3 + j + 1)).1.thr = 6144
      omega
  have e := this 27 (Nat.le_refl _)
  rwa [show m + 3 + 27 = m + 30 by omega] at e
end
end Go.Proofs.Arr
