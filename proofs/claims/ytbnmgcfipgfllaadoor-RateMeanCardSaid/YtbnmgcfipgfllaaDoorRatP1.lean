/- The plain law of RateKeeps: what each event does to a valid state. -/
import Derived.Test.YtbnmgcfipgfllaaDoorRatD3
namespace Go.Proofs.Rate
open Go.Ab
set_option linter.unusedVariables false
set_option maxHeartbeats 1000000

structure Good (r : Rt) : Prop where
  l1 : 1000 ≤ r.least
  l2 : r.least ≤ r.now
  l3 : r.now ≤ r.most
  l4 : r.most ≤ 100000000
  p1 : 0 ≤ r.phase
  p2 : r.phase ≤ 1
  a1 : 0 ≤ r.att
  a2 : r.att ≤ 1099511627776
  b1 : 0 ≤ r.low
  b2 : r.low ≤ r.att
  c1 : 0 ≤ r.rai
  c2 : r.rai ≤ r.att
  m : r.mean = 0 ∨ (1000 ≤ r.mean ∧ r.mean ≤ 100000000)
theorem good_to {r : Rt} (h : r.good = true) : Good r := by
  obtain ⟨g1, g2, g3, g4, g5, g6, g7, g8, g9, g10⟩ := good_iff h
  exact ⟨g1.1, g4, g5, g3.2, g6.1, g6.2, g7.1, g7.2, g8.1, g8.2, g9.1, g9.2, g10⟩
theorem good_of {r : Rt} (h : Good r) : r.good = true := by
  obtain ⟨l1, l2, l3, l4, p1, p2, a1, a2, b1, b2, c1, c2, m⟩ := h
  simp only [Rt.good, isRate, Bool.and_eq_true, Bool.or_eq_true, decide_eq_true_eq, beq_iff_eq]
  refine ⟨⟨⟨⟨⟨⟨⟨⟨⟨⟨?_, ?_⟩, ?_⟩, ?_⟩, ?_⟩, ?_⟩, ?_⟩, ?_⟩, ?_⟩, ?_⟩, ?_⟩ <;> omega
theorem late0 {r : Rt} {now : Int} (h : r.good = true) (h1 : r.att ≤ now) (h2 : now ≤ 1099511627776) : lateE r now = 0 := by
  have c1 : decide (now < r.att) = false := decide_eq_false (by omega)
  have c2 : decide (1099511627776 < now) = false := decide_eq_false (by omega)
  simp [lateE, h, c1, c2]
structure Kept (r q : Rt) (now : Int) : Prop where
  good : q.good = true
  att : q.att = now
theorem lossy_keeps {r : Rt} {now f : Int} (hg : r.good = true) (h1 : r.att ≤ now) (h2 : now ≤ 1099511627776) (hf : 0 ≤ f ∧ f ≤ 255) : (lossyS r now f).2 = 0 ∧ Kept r (lossyS r now f).1 now ∧ (26 ≤ f → (lossyS r now f).1.now ≤ r.now) ∧ (f ≤ 5 → r.now ≤ (lossyS r now f).1.now) ∧ (5 < f → f < 26 → (lossyS r now f).1.now = r.now) := by
  have h0 := late0 hg h1 h2
  obtain ⟨l1, l2, l3, l4, p1, p2, a1, a2, b1, b2, c1, c2, m⟩ := good_to hg
  have hf' : ¬ (f < 0 ∨ 255 < f) := by omega
  simp only [lossyS, h0, ne_eq, not_true_eq_false, if_false, hf']
  have hd : 0 ≤ r.now * (512 - f) := Int.mul_nonneg (by omega) (by omega)
  by_cases hA : 26 ≤ f ∧ (r.low = 0 ∨ 300 ≤ now - r.low)
  · rw [if_pos hA]
    have hx : r.now * (512 - f) ≤ r.now * 512 := Int.mul_le_mul_of_nonneg_left (by omega) (by omega)
    have hy : r.now * (512 - f) / 512 ≤ r.now := by omega
    have hz : 0 ≤ r.now * (512 - f) / 512 := by omega
    generalize r.now * (512 - f) / 512 = z at *
    simp only [setR]
    refine ⟨by first | trivial | rfl, ⟨good_of ⟨?_, ?_, ?_, ?_, ?_, ?_, ?_, ?_, ?_, ?_, ?_, ?_, m⟩, rfl⟩, ?_, ?_, ?_⟩ <;> (try dsimp only) <;> omega
  · rw [if_neg hA]
    by_cases hB : f ≤ 5 ∧ (r.rai = 0 ∨ 1000 ≤ now - r.rai)
    · rw [if_pos hB]
      simp only [setR]
      refine ⟨by first | trivial | rfl, ⟨good_of ⟨?_, ?_, ?_, ?_, ?_, ?_, ?_, ?_, ?_, ?_, ?_, ?_, m⟩, rfl⟩, ?_, ?_, ?_⟩ <;> (try dsimp only) <;> omega
    · rw [if_neg hB]
      refine ⟨by first | trivial | rfl, ⟨good_of ⟨?_, ?_, ?_, ?_, ?_, ?_, ?_, ?_, ?_, ?_, ?_, ?_, m⟩, rfl⟩, ?_, ?_, ?_⟩ <;> (try dsimp only) <;> omega
theorem probe_keeps {r : Rt} {now a b : Int} (hg : r.good = true) (h1 : r.att ≤ now) (h2 : now ≤ 1099511627776) (ha : isRate a = true) (hb : isRate b = true) : (probeS r now a b).2 = 0 ∧ Kept r (probeS r now a b).1 now ∧ r.now ≤ (probeS r now a b).1.now ∧ (probeS r now a b).1.now ≤ max r.now (min a b) := by
  have h0 := late0 hg h1 h2
  obtain ⟨l1, l2, l3, l4, p1, p2, a1, a2, b1, b2, c1, c2, m⟩ := good_to hg
  simp only [probeS, h0, ha, hb, ne_eq, not_true_eq_false, if_false, Bool.and_self, Bool.true_eq_false]
  simp only [isRate, Bool.and_eq_true, decide_eq_true_eq] at ha hb
  have hz : probeN a b ≤ min a b := by unfold probeN; split <;> omega
  generalize probeN a b = z at *
  by_cases hB : z ≤ r.now
  · rw [if_pos hB]
    refine ⟨by first | trivial | rfl, ⟨good_of ⟨?_, ?_, ?_, ?_, ?_, ?_, ?_, ?_, ?_, ?_, ?_, ?_, m⟩, rfl⟩, ?_, ?_⟩ <;> (try dsimp only) <;> omega
  · rw [if_neg hB]
    simp only [setR]
    refine ⟨by first | trivial | rfl, ⟨good_of ⟨?_, ?_, ?_, ?_, ?_, ?_, ?_, ?_, ?_, ?_, ?_, ?_, ?_⟩, rfl⟩, ?_, ?_⟩ <;> (try dsimp only) <;> first | omega | (split <;> omega)
theorem bound_keeps {r : Rt} {now a b : Int} (hg : r.good = true) (h1 : r.att ≤ now) (h2 : now ≤ 1099511627776) (ha : isRate a = true) (hb : isRate b = true) (hab : a ≤ b) : (boundS r now a b).2 = 0 ∧ Kept r (boundS r now a b).1 now ∧ (boundS r now a b).1.now = min (max r.now a) b := by
  have h0 := late0 hg h1 h2
  obtain ⟨l1, l2, l3, l4, p1, p2, a1, a2, b1, b2, c1, c2, m⟩ := good_to hg
  simp only [boundS, h0, ha, hb, hab, ne_eq, not_true_eq_false, if_false, Bool.and_self, decide_true, if_true]
  simp only [isRate, Bool.and_eq_true, decide_eq_true_eq] at ha hb
  simp only [setR]
  refine ⟨by first | trivial | rfl, ⟨good_of ⟨?_, ?_, ?_, ?_, ?_, ?_, ?_, ?_, ?_, ?_, ?_, ?_, m⟩, rfl⟩, ?_⟩ <;> (try dsimp only) <;> omega
theorem report_keeps {r : Rt} {now t a : Int} (hg : r.good = true) (h1 : r.att ≤ now) (h2 : now ≤ 1099511627776) (ht : 0 ≤ t ∧ t ≤ 2) (ha : 0 ≤ a ∧ a ≤ 100000000) : (reportS r now t a).2 = 0 ∧ Kept r (reportS r now t a).1 now ∧
    (t = 0 → r.now ≤ (reportS r now t a).1.now ∧ (reportS r now t a).1.now ≤ r.now + max (8 * r.now / 100) 50000) ∧ (t = 1 → (reportS r now t a).1.now ≤ r.now ∧ (reportS r now t a).1.phase = 0) ∧ (t = 2 → (reportS r now t a).1.now = r.now ∧ (reportS r now t a).1.phase = 0) := by
  have h0 := late0 hg h1 h2
  obtain ⟨l1, l2, l3, l4, p1, p2, a1, a2, b1, b2, c1, c2, m⟩ := good_to hg
  have hf : ¬ ((t < 0 ∨ 2 < t) ∨ (a < 0 ∨ 100000000 < a)) := by omega
  simp only [reportS, h0, hf, ne_eq, not_true_eq_false, if_false]
  have hm : meanR r a = 0 ∨ (1000 ≤ meanR r a ∧ meanR r a ≤ 100000000) := by unfold meanR; split <;> omega
  generalize meanR r a = mm at *
  have ht' : t = 0 ∨ t = 1 ∨ t = 2 := by omega
  rcases ht' with rfl | rfl | rfl
  · by_cases hp : r.phase = 0
    · simp only [trendC, normC, chR, hp, if_true]
      refine ⟨by first | trivial | rfl, ⟨good_of ⟨?_, ?_, ?_, ?_, ?_, ?_, ?_, ?_, ?_, ?_, ?_, ?_, hm⟩, rfl⟩, ?_, ?_, ?_⟩ <;> (try dsimp only) <;> first | omega | (split <;> omega) | (intro hh; exact absurd hh (by decide)) | (intro hh; refine ⟨?_, ?_⟩ <;> first | omega | rfl | trivial)
    · have hr : r.now ≤ riseN (chR r now mm a) ∧ riseN (chR r now mm a) ≤ r.now + max (8 * r.now / 100) 50000 := by
        unfold riseN chR
        dsimp only
        have hd : ∃ d, d = min (now - r.att) 1000 := ⟨_, rfl⟩
        obtain ⟨d, hd⟩ := hd
        rw [← hd]
        have b1 : 0 ≤ 8 * r.now * d := Int.mul_nonneg (by omega) (by omega)
        have b2 : 8 * r.now * d ≤ 8 * r.now * 1000 := Int.mul_le_mul_of_nonneg_left (by omega) (by omega)
        generalize 8 * r.now * d = e at *
        split <;> omega
      have hh : r.now ≤ heldN (chR r now mm a) ∧ heldN (chR r now mm a) ≤ r.now + max (8 * r.now / 100) 50000 := by
        unfold heldN
        generalize riseN (chR r now mm a) = z at *
        unfold chR
        dsimp only
        split <;> omega
      have hpp : (chR r now mm a).r.phase ≠ 0 := hp
      simp only [trendC, normC, if_true, hpp, if_false]
      generalize heldN (chR r now mm a) = z at *
      simp only [setR, chR]
      refine ⟨by first | trivial | rfl, ⟨good_of ⟨?_, ?_, ?_, ?_, ?_, ?_, ?_, ?_, ?_, ?_, ?_, ?_, hm⟩, rfl⟩, ?_, ?_, ?_⟩ <;> (try dsimp only) <;> first | omega | (split <;> omega) | (intro hh; exact absurd hh (by decide)) | (intro hh; refine ⟨?_, ?_⟩ <;> first | omega | rfl | trivial)
  · have hmm : meanN (chR r now mm a) ≤ 100000000 := by
      unfold meanN chR
      dsimp only
      split <;> omega
    simp only [trendC, overC, if_true, show ¬ ((1 : Int) = 0) by decide, if_false]
    generalize meanN (chR r now mm a) = z at *
    simp only [setR, chR]
    by_cases ha0 : a = 0
    · simp only [ha0, if_true]
      refine ⟨by first | trivial | rfl, ⟨good_of ⟨?_, ?_, ?_, ?_, ?_, ?_, ?_, ?_, ?_, ?_, ?_, ?_, hm⟩, rfl⟩, ?_, ?_, ?_⟩ <;> (try dsimp only) <;> first | omega | (split <;> omega) | (intro hh; exact absurd hh (by decide)) | (intro hh; refine ⟨?_, ?_⟩ <;> first | omega | rfl | trivial)
    · simp only [ha0, if_false]
      refine ⟨by first | trivial | rfl, ⟨good_of ⟨?_, ?_, ?_, ?_, ?_, ?_, ?_, ?_, ?_, ?_, ?_, ?_, ?_⟩, rfl⟩, ?_, ?_, ?_⟩ <;> (try dsimp only) <;> first | omega | (split <;> omega) | (intro hh; exact absurd hh (by decide)) | (intro hh; refine ⟨?_, ?_⟩ <;> first | omega | rfl | trivial)
  · simp only [trendC, underC, chR, show ¬ ((2 : Int) = 0) by decide, show ¬ ((2 : Int) = 1) by decide, if_false]
    refine ⟨by first | trivial | rfl, ⟨good_of ⟨?_, ?_, ?_, ?_, ?_, ?_, ?_, ?_, ?_, ?_, ?_, ?_, hm⟩, rfl⟩, ?_, ?_, ?_⟩ <;> (try dsimp only) <;> first | omega | (split <;> omega) | (intro hh; exact absurd hh (by decide)) | (intro hh; refine ⟨?_, ?_⟩ <;> first | omega | rfl | trivial)
end Go.Proofs.Rate
