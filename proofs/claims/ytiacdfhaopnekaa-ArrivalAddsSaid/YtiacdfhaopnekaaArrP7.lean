/- Chapter 29: runs of packets. -/
import Derived.Test.YtiacdfhaopnekaaArrC13
import Derived.Test.YtiacdfhaopnekaaArrP6
namespace Go.Proofs.Arr
open Go.Ab
set_option linter.unusedVariables false

/-- The state behind k packets, and the program's slice. -/
def runS (s g : Nat → Int) : Nat → Tr × List Pt
  | 0 => (newT, [])
  | k + 1 => addS (runS s g k).1 (runS s g k).2 (s k) (g k)
def runQ (s g : Nat → Int) : Nat → Sh
  | 0 => .nil
  | k + 1 => addQ (runS s g k).1 (runQ s g k) (runS s g k).2 (s k) (g k)
theorem runQ_pts (s g : Nat → Int) : ∀ k, Sh.pts (runQ s g k) (runS s g k).2
  | 0 => nil_pts
  | k + 1 => addQ_pts (runQ_pts s g k)
theorem runS_len (s g : Nat → Int) : ∀ k, (runS s g k).2.length ≤ 20
  | 0 => by simp [runS]
  | k + 1 => add_lenA (runS_len s g k)
theorem add_head {t : Tr} {l : List Pt} {s g : Int} (h : addE t l s g = 0) : (addS t l s g).1.att = g ∧ (addS t l s g).1.st = true := by
  unfold addS
  rw [if_pos h]
  unfold addT
  obtain ⟨att, st, past, fst, lst, got, plst, pgot, cnt, sum, smo, thr, ovr, ovs, bef, sta⟩ := t
  cases st
  · simp [beginT]
  · simp only [Bool.not_true, Bool.false_eq_true, if_false]
    split
    · exact ⟨rfl, rfl⟩
    · split
      · exact ⟨rfl, rfl⟩
      · cases past
        · simp [beginT]
        · obtain ⟨c, su, sm, th, o, s', b, a, ek⟩ := weigh_keep ⟨g, true, true, fst, lst, got, plst, pgot, cnt, sum, smo, thr, ovr, ovs, bef, sta⟩ l
          simp [beginT, ek]
/-- Times that may come one after the other. -/
structure Times (s g : Nat → Int) (m : Nat) : Prop where
  rs : ∀ k, k < m → 0 ≤ s k ∧ s k ≤ 1099511627776
  rg : ∀ k, k < m → 0 ≤ g k ∧ g k ≤ 1099511627776
  up : ∀ k, k + 1 < m → g k ≤ g (k + 1)
theorem newT_good : good newT [] = true := by decide
theorem run_good {s g : Nat → Int} {m : Nat} (h : Times s g m) : ∀ k, k ≤ m → good (runS s g k).1 (runS s g k).2 = true ∧ (k < m → addE (runS s g k).1 (runS s g k).2 (s k) (g k) = 0)
  | 0, _ => ⟨newT_good, fun h0 => addE_of newT_good (h.rs 0 h0) (h.rg 0 h0) (h.rg 0 h0).1⟩
  | k + 1, hk => by
    obtain ⟨h1, h2⟩ := run_good h k (by omega)
    have h3 := h2 (by omega)
    have h4 := good_add h3
    refine ⟨h4, fun h5 => addE_of h4 (h.rs _ h5) (h.rg _ h5) ?_⟩
    show (addS _ _ _ _).1.att ≤ _
    rw [(add_head h3).1]
    exact h.up k h5
theorem run_ok {s g : Nat → Int} {m : Nat} (h : Times s g m) {k : Nat} (hk : k < m) : adOK (runS s g k).1 (runS s g k).2 (s k) (g k) = true := by
  have h1 := (run_good h k (by omega)).2 hk
  simp only [adOK, Bool.and_eq_true, decide_eq_true_eq]
  exact ⟨⟨h1, good_add h1⟩, runS_len s g k⟩
theorem run_mv {s g : Nat → Int} {m : Nat} {p q : Int} (h : Times s g m) (h' : Times (fun k => s k + p) (fun k => g k + q) m) : ∀ k, k ≤ m → Mv p q (runS s g k).1 (runS (fun k => s k + p) (fun k => g k + q) k).1 ∧ (runS (fun k => s k + p) (fun k => g k + q) k).2 = shP q (runS s g k).2
  | 0, _ => ⟨⟨rfl, rfl, rfl, rfl, rfl, rfl, rfl, rfl, rfl, rfl, fun hh => (by cases hh), fun hh => (by cases hh)⟩, rfl⟩
  | k + 1, hk => by
    obtain ⟨h1, h2⟩ := run_mv h h' k (by omega)
    have e1 := (run_good h k (by omega)).2 (by omega)
    have e2 := (run_good h' k (by omega)).2 (by omega)
    rw [h2] at e2
    have := mv_add h1 e1 e2
    show Mv p q (addS _ _ _ _).1 (addS _ _ _ _).1 ∧ _
    rw [show (runS (fun k => s k + p) (fun k => g k + q) (k + 1)) = addS (runS (fun k => s k + p) (fun k => g k + q) k).1 (runS (fun k => s k + p) (fun k => g k + q) k).2 (s k + p) (g k + q) from rfl, h2]
    exact this
theorem run_att {s g : Nat → Int} {m : Nat} {c : Int} (h : Times s g m) (hc : 0 ≤ c) (hg : ∀ k, k < m → g k ≤ c) : ∀ k, k ≤ m → (runS s g k).1.att ≤ c
  | 0, _ => hc
  | k + 1, hk => by
    show (addS _ _ _ _).1.att ≤ c
    rw [(add_head ((run_good h k (by omega)).2 (by omega))).1]
    exact hg k (by omega)
/-- A packet that was sent ahead of its group. -/
theorem early {t : Tr} {l : List Pt} {r : Int} (hg : good t l = true) (hl : l.length ≤ 20) (hr : 0 ≤ r ∧ r < t.fst) (ha : t.att + 7 ≤ 1099511627776) : adOK t l r (t.att + 7) = true ∧ addS t l r (t.att + 7) = ({ t with att := t.att + 7 }, l) := by
  have G := good_iff.1 hg
  have hE : addE t l r (t.att + 7) = 0 := addE_of hg (by have := G.f; omega) (by have := G.a; omega) (by omega)
  have hst : t.st = true := by
    cases h : t.st
    · have := (G.s0 h).2.1; omega
    · rfl
  refine ⟨?_, ?_⟩
  · simp only [adOK, Bool.and_eq_true, decide_eq_true_eq]
    exact ⟨⟨hE, good_add hE⟩, hl⟩
  · unfold addS addT
    rw [if_pos hE, hst]
    simp only [Bool.not_true, Bool.false_eq_true, if_false]
    rw [if_pos hr.2]
    first | done | (cases t; simp at hst; subst hst; rfl)
theorem early_q {t : Tr} {s : Sh} {l : List Pt} {r g : Int} (hE : addE t l r g = 0) (hr : r < t.fst) : addQ t s l r g = cloneQ s l := by
  unfold addQ
  rw [if_neg (by simp [hE]), decide_eq_true hr]
  simp
/-- The times of a draft. -/
theorem pk_at {pk : List Pk} (h : pk.all Pk.ok = true) {k : Nat} (hk : k < pk.length) : (-128 ≤ (pk.getD k default).s ∧ (pk.getD k default).s ≤ 127) ∧ 0 ≤ (pk.getD k default).g ∧ (pk.getD k default).g ≤ 255 := by
  rw [List.all_eq_true] at h
  have h1 := h (pk.getD k default) (by rw [List.getD_eq_getElem?_getD, List.getElem?_eq_getElem hk]; exact List.getElem_mem hk)
  simp only [Pk.ok, Bool.and_eq_true, inI_iff] at h1
  exact h1
theorem sN_rng {d : Dr} {pk : List Pk} (hd : d.ok = true) (h : pk.all Pk.ok = true) : ∀ k : Nat, k ≤ pk.length → 0 ≤ sN d pk k ∧ sN d pk k ≤ 66535 + 167 * k
  | 0, _ => by simp only [Dr.ok, Bool.and_eq_true, inI_iff] at hd; simp only [sN]; omega
  | k + 1, hk => by
    have h1 := sN_rng hd h k (by omega)
    have h2 := pk_at h (show k < pk.length by omega)
    simp only [Dr.ok, Bool.and_eq_true, inI_iff] at hd
    simp only [sN]
    omega
theorem gN_rng {d : Dr} {pk : List Pk} (hd : d.ok = true) (h : pk.all Pk.ok = true) : ∀ k : Nat, k ≤ pk.length → 0 ≤ gN d pk k ∧ gN d pk k ≤ 67535 + 313 * k
  | 0, _ => by simp only [Dr.ok, Bool.and_eq_true, inI_iff] at hd; simp only [gN]; omega
  | k + 1, hk => by
    have h1 := gN_rng hd h k (by omega)
    have h2 := pk_at h (show k < pk.length by omega)
    simp only [Dr.ok, Bool.and_eq_true, inI_iff] at hd
    simp only [gN]
    omega
theorem gN_up {d : Dr} {pk : List Pk} (hd : d.ok = true) (h : pk.all Pk.ok = true) {k : Nat} (hk : k < pk.length) : gN d pk k ≤ gN d pk (k + 1) := by
  have h2 := pk_at h hk
  simp only [Dr.ok, Bool.and_eq_true, inI_iff] at hd
  simp only [gN]
  omega
theorem dr_times {d : Dr} {pk : List Pk} {p q : Int} {m : Nat} (hd : d.ok = true) (h : pk.all Pk.ok = true) (hp : 0 ≤ p ∧ p ≤ 65535) (hq : 0 ≤ q ∧ q ≤ 65535) (hm : m ≤ pk.length) (hm60 : m ≤ 60) : Times (fun k => sN d pk (k + 1) + p) (fun k => gN d pk (k + 1) + q) m :=
  ⟨fun k hk => by have := sN_rng hd h (k + 1) (by omega); omega, fun k hk => by have := gN_rng hd h (k + 1) (by omega); omega, fun k hk => by have := gN_up hd h (show k + 1 < pk.length by omega); omega⟩
end Go.Proofs.Arr
