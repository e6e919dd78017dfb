/- The plain law of drafts: the states behind events are valid. -/
import Derived.Test.YtbnmgcfipgfllaaDoorRatP1
namespace Go.Proofs.Rate
open Go.Ab
set_option linter.unusedVariables false

theorem ev_facts {x : Ev} (h : x.ok = true) : (0 ≤ x.what ∧ x.what ≤ 255) ∧ (0 ≤ x.small ∧ x.small ≤ 255) ∧ (0 ≤ x.wait ∧ x.wait ≤ 65535) ∧ (0 ≤ x.a ∧ x.a ≤ 4294967295) ∧ (0 ≤ x.b ∧ x.b ≤ 4294967295) := of_decide_eq_true h
theorem rate_of {n : Int} (h1 : 1000 ≤ n) (h2 : n ≤ 100000000) : isRate n = true := by
  unfold isRate
  rw [decide_eq_true h1, decide_eq_true h2]; rfl
theorem evA_rate {x : Ev} (h : x.ok = true) : isRate (evA x) = true := by
  obtain ⟨g1, g2, g3, g4, g5⟩ := ev_facts h
  exact rate_of (by unfold evA; omega) (by unfold evA; omega)
theorem evB_rate {x : Ev} (h : x.ok = true) : isRate (evB x) = true := by
  obtain ⟨g1, g2, g3, g4, g5⟩ := ev_facts h
  exact rate_of (by unfold evB; omega) (by unfold evB; omega)
theorem evT_eq {r : Rt} {x : Ev} (h : x.ok = true) (h1 : 0 ≤ r.att) (h2 : r.att ≤ 1000000) : evT r x = r.att + x.wait % 2000 := by
  obtain ⟨g1, g2, g3, g4, g5⟩ := ev_facts h
  exact wrapL (by omega) (by omega)
theorem step_good {r : Rt} {x : Ev} (hx : x.ok = true) (hg : r.good = true) (h2 : r.att ≤ 1000000) : (stepS r x).good = true ∧ (stepS r x).att = r.att + x.wait % 2000 := by
  have gg := good_to hg
  have ht := evT_eq (r := r) hx gg.a1 h2
  obtain ⟨g1, g2, g3, g4, g5⟩ := ev_facts hx
  have t1 : r.att ≤ evT r x := by omega
  have t2 : evT r x ≤ 1099511627776 := by omega
  have ha := evA_rate hx
  have hb := evB_rate hx
  rw [← ht]
  unfold stepS
  split
  · obtain ⟨_, k, _⟩ := lossy_keeps hg t1 t2 g2
    exact ⟨k.good, k.att⟩
  · split
    · obtain ⟨_, k, _⟩ := probe_keeps hg t1 t2 ha hb
      exact ⟨k.good, k.att⟩
    · have ha' := ha
      have hb' := hb
      simp only [isRate, Bool.and_eq_true, decide_eq_true_eq] at ha' hb'
      split
      · obtain ⟨_, k, _⟩ := bound_keeps (a := min (evA x) (evB x)) (b := max (evA x) (evB x)) hg t1 t2 (rate_of (by omega) (by omega)) (rate_of (by omega) (by omega)) (by omega)
        exact ⟨k.good, k.att⟩
      · split
        · obtain ⟨_, k, _⟩ := report_keeps (t := x.small % 3) (a := 0) hg t1 t2 (by omega) (by omega)
          exact ⟨k.good, k.att⟩
        · obtain ⟨_, k, _⟩ := report_keeps (t := x.small % 3) (a := evA x) hg t1 t2 (by omega) (by omega)
          exact ⟨k.good, k.att⟩
theorem start_ok {a b c : Int} (ha : u32B a = true) (hb : u32B b = true) (hc : u32B c = true) : newS (stN a) (stL a b) (stM a c) = (⟨stN a, stL a b, stM a c, 1, 0, 0, 0, 0⟩, 0) := by
  simp only [u32B, decide_eq_true_eq] at ha hb hc
  unfold newS
  have e1 : isRate (stL a b) = true := rate_of (by simp only [stN, stL]; omega) (by simp only [stN, stL]; omega)
  have e2 : isRate (stN a) = true := rate_of (by simp only [stN]; omega) (by simp only [stN]; omega)
  have e3 : isRate (stM a c) = true := rate_of (by simp only [stN, stM]; omega) (by simp only [stN, stM]; omega)
  have e4 : decide (stL a b ≤ stN a) = true := decide_eq_true (by simp only [stN, stL]; omega)
  have e5 : decide (stN a ≤ stM a c) = true := decide_eq_true (by simp only [stN, stM]; omega)
  rw [e1, e2, e3, e4, e5]
  rfl
theorem r0_good {a b c : Int} (ha : u32B a = true) (hb : u32B b = true) (hc : u32B c = true) : (r0S a b c).good = true ∧ (r0S a b c).att = 0 := by
  unfold r0S
  rw [start_ok ha hb hc]
  simp only [u32B, decide_eq_true_eq] at ha hb hc
  refine ⟨good_of ⟨?_, ?_, ?_, ?_, ?_, ?_, ?_, ?_, ?_, ?_, ?_, ?_, .inl rfl⟩, rfl⟩ <;> simp only [stN, stL, stM] <;> omega
theorem behind_good {a b c : Int} {l : List Ev} (ha : u32B a = true) (hb : u32B b = true) (hc : u32B c = true) (hl : l.all Ev.ok = true) : ∀ k, k ≤ 40 → (behind a b c l k).good = true ∧ (behind a b c l k).att ≤ 2000 * k
  | 0, _ => by
    rw [behind_zero]
    obtain ⟨h1, h2⟩ := r0_good ha hb hc
    exact ⟨h1, by rw [h2]; omega⟩
  | k + 1, hk => by
    obtain ⟨h1, h2⟩ := behind_good ha hb hc hl k (by omega)
    by_cases hlt : k < l.length
    · have hx : (l[k]).ok = true := List.all_eq_true.1 hl _ (List.getElem_mem hlt)
      rw [behind_succ (List.getElem?_eq_getElem hlt)]
      obtain ⟨g1, g2⟩ := step_good hx h1 (by omega)
      obtain ⟨_, _, g3, _, _⟩ := ev_facts hx
      exact ⟨g1, by rw [g2]; omega⟩
    · have e : behind a b c l (k + 1) = behind a b c l k := by
        rw [behind_end (by omega) hk, behind_end (by omega) (by omega)]
      rw [e]
      exact ⟨h1, by omega⟩
end Go.Proofs.Rate
