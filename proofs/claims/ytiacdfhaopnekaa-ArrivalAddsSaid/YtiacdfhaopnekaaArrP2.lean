/- Chapter 29: points that may stand in a state are near the first one; a line's denominator is positive. -/
import Derived.Test.YtiacdfhaopnekaaArrP1
namespace Go.Proofs.Arr
open Go.Ab
set_option linter.unusedVariables false

structure PtF (l : List Pt) (step : Int) (i : Nat) : Prop where
  x1 : 0 ≤ pX l i
  x2 : pX l i ≤ 1099511627776
  y1 : -1099511627776 ≤ pY l i
  y2 : pY l i ≤ 1099511627776
  s1 : i ≠ 0 → 0 ≤ pX l i - pX l (i - 1)
  s2 : i ≠ 0 → pX l i - pX l (i - 1) ≤ step
  b1 : -67108864 ≤ pY l i - pY l 0
  b2 : pY l i - pY l 0 ≤ 67108864
theorem pt_at {l : List Pt} {step : Int} (h : ptsB l step = true) {i : Nat} (hi : i < l.length) : PtF l step i := by
  have := ptI_at h hi
  simp only [ptI, M40, Bool.and_eq_true, Bool.or_eq_true, inI_iff, beq_iff_eq] at this
  obtain ⟨⟨⟨⟨h1, h2⟩, h3, h4⟩, h5⟩, h7, h8⟩ := this
  refine ⟨h1, h2, h3, h4, fun h0 => ?_, fun h0 => ?_, h7, h8⟩
  · rcases h5 with h5 | h5
    · exact absurd h5 h0
    · exact h5.1
  · rcases h5 with h5 | h5
    · exact absurd h5 h0
    · exact h5.2
theorem pts_len {l : List Pt} {step : Int} (h : ptsB l step = true) : l.length ≤ 20 := by
  simp only [ptsB, Bool.and_eq_true, decide_eq_true_eq] at h
  exact h.2
theorem mono {l : List Pt} {step : Int} (h : ptsB l step = true) : ∀ i j, i + j < l.length → pX l i ≤ pX l (i + j)
  | i, 0, _ => Int.le_refl _
  | i, j + 1, hj => by
    have ih := mono h i j (by omega)
    have := (pt_at h hj).s1 (by omega)
    rw [show i + (j + 1) - 1 = i + j by omega] at this
    omega
theorem far {l : List Pt} {step : Int} (h : ptsB l step = true) (hs : 0 ≤ step) : ∀ j, j < l.length → pX l j - pX l 0 ≤ step * j
  | 0, _ => by simp
  | j + 1, hj => by
    have ih := far h hs j (by omega)
    have := (pt_at h hj).s2 (by omega)
    rw [show j + 1 - 1 = j by omega] at this
    have e : step * ((j + 1 : Nat) : Int) = step * j + step := by rw [Int.natCast_add, Int.mul_add]; simp
    omega
theorem near_of {l : List Pt} (hlen : l.length ≤ 20) (h : ∀ i, i < l.length → NearI l i) : nearB l = true := by
  simp only [nearB, Bool.and_eq_true, List.all_eq_true, List.mem_range, decide_eq_true_eq]
  refine ⟨fun i hi => ?_, hlen⟩
  obtain ⟨h1, h2, h3, h4, h5, h6, h7, h8⟩ := h i hi
  simp only [nearI, M40, Bool.and_eq_true, inI_iff]
  exact ⟨⟨⟨⟨h1, h2⟩, h3, h4⟩, h5, h6⟩, h7, h8⟩
theorem near_2000 {l : List Pt} (h : ptsB l 2000 = true) : nearB l = true := by
  have hl := pts_len h
  refine near_of hl (fun i hi => ?_)
  have p := pt_at h hi
  have m := mono h 0 i (by omega)
  have f := far h (by decide) i hi
  rw [Nat.zero_add] at m
  exact ⟨p.x1, p.x2, p.y1, p.y2, by omega, by omega, p.b1, p.b2⟩
theorem near_line {l : List Pt} (h : lineOK l = true) : nearB l = true := by
  simp only [lineOK, Bool.and_eq_true, decide_eq_true_eq, inI_iff] at h
  obtain ⟨⟨h2, hp⟩, h3, h4⟩ := h
  have hl := pts_len hp
  refine near_of hl (fun i hi => ?_)
  have p := pt_at hp hi
  have m := mono hp 0 i (by omega)
  have f := mono hp i (l.length - 1 - i) (by omega)
  rw [Nat.zero_add] at m
  rw [show i + (l.length - 1 - i) = l.length - 1 by omega] at f
  exact ⟨p.x1, p.x2, p.y1, p.y2, by omega, by omega, p.b1, p.b2⟩
theorem sq_nonneg (a : Int) : 0 ≤ a * a := by
  rcases Int.le_total 0 a with h | h
  · exact Int.mul_nonneg h h
  · exact Int.mul_nonneg_of_nonpos_of_nonpos h h
/-- What lies between the sums and a number. -/
theorem quad (l : List Pt) (a : Int) : ∀ n : Nat, 1 ≤ n → a * a ≤ sumI (fun x _ => x * x) l n + n * (a * a) - 2 * (a * sumI (fun x _ => x) l n)
  | 0, h => by omega
  | 1, _ => by simp [sumI]
  | n + 2, _ => by
    have ih := quad l a (n + 1) (by omega)
    have sq := sq_nonneg (pX l (n + 1) - pX l 0 - a)
    have e1 : sumI (fun x _ => x * x) l (n + 2) = sumI (fun x _ => x * x) l (n + 1) + (pX l (n + 1) - pX l 0) * (pX l (n + 1) - pX l 0) := rfl
    have e2 : sumI (fun x _ => x) l (n + 2) = sumI (fun x _ => x) l (n + 1) + (pX l (n + 1) - pX l 0) := rfl
    rw [e1, e2]
    generalize sumI (fun x _ => x * x) l (n + 1) = A at *
    generalize sumI (fun x _ => x) l (n + 1) = B at *
    generalize pX l (n + 1) - pX l 0 = c at *
    have e3 : ((n + 2 : Nat) : Int) = ((n + 1 : Nat) : Int) + 1 := by omega
    rw [e3]
    generalize ((n + 1 : Nat) : Int) = N at *
    have : A + c * c + (N + 1) * (a * a) - 2 * (a * (B + c)) = (A + N * (a * a) - 2 * (a * B)) + (c - a) * (c - a) := by grind
    omega
theorem disc (l : List Pt) : ∀ n : Nat, 1 ≤ n → (pX l (n - 1) - pX l 0) * (pX l (n - 1) - pX l 0) ≤ n * sumI (fun x _ => x * x) l n - sumI (fun x _ => x) l n * sumI (fun x _ => x) l n ∧ 0 ≤ n * sumI (fun x _ => x * x) l n - sumI (fun x _ => x) l n * sumI (fun x _ => x) l n
  | 0, h => by omega
  | 1, _ => by simp [sumI]
  | n + 2, _ => by
    have ih := disc l (n + 1) (by omega)
    have q := quad l (pX l (n + 1) - pX l 0) (n + 1) (by omega)
    have sq := sq_nonneg (pX l (n + 1) - pX l 0)
    have e1 : sumI (fun x _ => x * x) l (n + 2) = sumI (fun x _ => x * x) l (n + 1) + (pX l (n + 1) - pX l 0) * (pX l (n + 1) - pX l 0) := rfl
    have e2 : sumI (fun x _ => x) l (n + 2) = sumI (fun x _ => x) l (n + 1) + (pX l (n + 1) - pX l 0) := rfl
    rw [e1, e2, show n + 2 - 1 = n + 1 by omega]
    have ih2 := ih.2
    clear ih
    generalize sumI (fun x _ => x * x) l (n + 1) = A at *
    generalize sumI (fun x _ => x) l (n + 1) = B at *
    generalize pX l (n + 1) - pX l 0 = c at *
    have e3 : ((n + 2 : Nat) : Int) = ((n + 1 : Nat) : Int) + 1 := by omega
    rw [e3]
    generalize ((n + 1 : Nat) : Int) = N at *
    have : (N + 1) * (A + c * c) - (B + c) * (B + c) = (N * A - B * B) + (A + N * (c * c) - 2 * (c * B)) := by grind
    omega
theorem lineD_pos {l : List Pt} (h1 : 1 ≤ l.length) (h : pX l (l.length - 1) ≠ pX l 0) : 0 < lineD l := by
  have := (disc l l.length h1).1
  unfold lineD
  have hp : 0 < (pX l (l.length - 1) - pX l 0) * (pX l (l.length - 1) - pX l 0) := by
    generalize hc : pX l (l.length - 1) - pX l 0 = c
    have hc0 : c ≠ 0 := by omega
    rcases Int.lt_or_gt_of_ne hc0 with h' | h'
    · exact Int.mul_pos_of_neg_of_neg h' h'
    · exact Int.mul_pos h' h'
  omega
end Go.Proofs.Arr
