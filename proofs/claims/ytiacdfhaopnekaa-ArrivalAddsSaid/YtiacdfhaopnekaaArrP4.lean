/- Chapter 29: the reference's words say the same of states and points. -/
import Derived.Test.YtiacdfhaopnekaaArrC8
import Derived.Test.YtiacdfhaopnekaaArrC7
namespace Go.Proofs.Arr
open Go.Ab
set_option linter.unusedVariables false

def goodR (t : Tr) (l : List Pt) : Bool :=
  inI 0 1099511627776 t.att && inI 6144 614400 t.thr && inI 0 2 t.sta && inI 0 20000 t.ovr && inI 0 20000 t.ovs && inI 0 60 t.cnt && inI (-1099511627776) 1099511627776 t.bef && inI (-1099511627776) 1099511627776 t.sum && inI (-1099511627776) 1099511627776 t.smo &&
  (inI 0 1099511627776 t.fst && inI 0 1099511627776 t.lst && inI 0 1099511627776 t.got && inI 0 1099511627776 t.plst && inI 0 1099511627776 t.pgot) && ptsR l &&
  (t.st || (!t.past && t.fst == 0 && t.lst == 0 && t.got == 0)) && (!t.st || (inI t.fst (t.fst + 4) t.lst && decide (t.got ≤ t.att))) &&
  (bif t.past then decide (t.plst < t.fst) && decide (t.pgot ≤ t.got) && nearR l t.pgot else zeroT t && l.length == 0)
theorem ptsR_at {l : List Pt} (h : ptsR l = true) {i : Nat} (hi : i < l.length) : ptR l i = true := by
  simp only [ptsR, Bool.and_eq_true, List.all_eq_true, List.mem_range] at h
  exact h.1 i hi
theorem ptsR_len {l : List Pt} (h : ptsR l = true) : l.length ≤ 20 := by
  simp only [ptsR, Bool.and_eq_true, decide_eq_true_eq] at h
  exact h.2
theorem ptsB_iff {l : List Pt} {step : Int} : ptsB l step = true ↔ (∀ i, i < l.length → ptI l step i = true) ∧ l.length ≤ 20 := by
  simp only [ptsB, Bool.and_eq_true, List.all_eq_true, List.mem_range, decide_eq_true_eq]
theorem ptsR_iff {l : List Pt} : ptsR l = true ↔ (∀ i, i < l.length → ptR l i = true) ∧ l.length ≤ 20 := by
  simp only [ptsR, Bool.and_eq_true, List.all_eq_true, List.mem_range, decide_eq_true_eq]
theorem nearR_iff {l : List Pt} {p : Int} : nearR l p = true ↔ ∀ i, i < l.length → nearI' l p i = true := by
  simp only [nearR, List.all_eq_true, List.mem_range]
theorem pts_same (l : List Pt) (p : Int) : (ptsR l && nearR l p) = (ptsB l 2000 && (l.length == 0 || pX l (l.length - 1) == p)) := by
  rw [Bool.eq_iff_iff]
  simp only [Bool.and_eq_true, ptsB_iff, ptsR_iff, nearR_iff, Bool.or_eq_true, beq_iff_eq]
  constructor
  · rintro ⟨⟨h1, h2⟩, h3⟩
    refine ⟨⟨fun i hi => ?_, h2⟩, ?_⟩
    · have a := h1 i hi
      have b := h3 i hi
      simp only [ptR, nearI', ptI, Bool.and_eq_true, Bool.or_eq_true, beq_iff_eq, decide_eq_true_eq, inI_iff] at a b ⊢
      obtain ⟨⟨⟨⟨a1, a2⟩, a3⟩, a4⟩, a5⟩ := a
      refine ⟨⟨⟨a1, a2⟩, ?_⟩, a5⟩
      rcases a3 with a3 | a3
      · exact .inl a3
      · rcases b.1 with b1 | b1
        · exact .inl b1
        · exact .inr ⟨by omega, b1⟩
    · by_cases h0 : l.length = 0
      · exact .inl h0
      · right
        have b := h3 (l.length - 1) (by omega)
        simp only [nearI', Bool.and_eq_true, Bool.or_eq_true, Bool.not_eq_true', beq_eq_false_iff_ne, beq_iff_eq] at b
        rcases b.2 with b2 | b2
        · omega
        · exact b2
  · rintro ⟨⟨h1, h2⟩, h3⟩
    have hb : ptsB l 2000 = true := ptsB_iff.2 ⟨h1, h2⟩
    refine ⟨⟨fun i hi => ?_, h2⟩, fun i hi => ?_⟩
    · have a := h1 i hi
      have f := far hb (by decide) i hi
      simp only [ptR, ptI, Bool.and_eq_true, Bool.or_eq_true, beq_iff_eq, decide_eq_true_eq, inI_iff] at a ⊢
      obtain ⟨⟨⟨a1, a2⟩, a3⟩, a5⟩ := a
      refine ⟨⟨⟨⟨a1, a2⟩, ?_⟩, by omega⟩, a5⟩
      rcases a3 with a3 | a3
      · exact .inl a3
      · exact .inr (by omega)
    · have a := h1 i hi
      simp only [nearI', ptI, Bool.and_eq_true, Bool.or_eq_true, beq_iff_eq, decide_eq_true_eq, inI_iff, Bool.not_eq_true', beq_eq_false_iff_ne] at a ⊢
      obtain ⟨⟨⟨a1, a2⟩, a3⟩, a5⟩ := a
      refine ⟨?_, ?_⟩
      · rcases a3 with a3 | a3
        · exact .inl a3
        · exact .inr a3.2
      · by_cases hil : i + 1 = l.length
        · right
          rcases h3 with h3 | h3
          · omega
          · rw [show i = l.length - 1 by omega]; exact h3
        · exact .inl hil
theorem goodR_eq (t : Tr) (l : List Pt) : goodR t l = good t l := by
  obtain ⟨att, st, past, fst, lst, got, plst, pgot, cnt, sum, smo, thr, ovr, ovs, bef, sta⟩ := t
  have h := pts_same l pgot
  have hz : l.length = 0 → ptsR l = true ∧ ptsB l 2000 = true := fun h0 => by
    have : l = [] := List.eq_nil_of_length_eq_zero h0
    subst this; exact ⟨rfl, rfl⟩
  cases past
  · cases h0 : (l.length == 0)
    · simp only [goodR, good, cond_false, h0, Bool.and_false]
    · obtain ⟨z1, z2⟩ := hz (by simpa using h0)
      cases st <;> simp only [goodR, good, cond_false, cond_true, tm, M40, h0, z1, z2, Bool.and_true, Bool.true_and, Bool.not_false, Bool.not_true, Bool.false_or, Bool.true_or, Bool.and_assoc] <;> rw [Bool.eq_iff_iff] <;> simp only [Bool.and_eq_true] <;> constructor <;> (intro h; simp only [h, and_self])
  · have e1 : goodR ⟨att, st, true, fst, lst, got, plst, pgot, cnt, sum, smo, thr, ovr, ovs, bef, sta⟩ l = ((ptsR l && nearR l pgot) && (inI 0 1099511627776 att && inI 6144 614400 thr && inI 0 2 sta && inI 0 20000 ovr && inI 0 20000 ovs && inI 0 60 cnt && inI (-1099511627776) 1099511627776 bef && inI (-1099511627776) 1099511627776 sum && inI (-1099511627776) 1099511627776 smo &&
      (inI 0 1099511627776 fst && inI 0 1099511627776 lst && inI 0 1099511627776 got && inI 0 1099511627776 plst && inI 0 1099511627776 pgot) && st && (inI fst (fst + 4) lst && decide (got ≤ att)) && (decide (plst < fst) && decide (pgot ≤ got)))) := by
      cases st <;> simp only [goodR, cond_true, Bool.not_true, Bool.not_false, Bool.false_and, Bool.and_false, Bool.false_or, Bool.or_false, Bool.true_or, Bool.and_true] <;> rw [Bool.eq_iff_iff] <;> simp only [Bool.and_eq_true] <;> constructor <;> (intro h; simp only [h, and_self])
    have e2 : good ⟨att, st, true, fst, lst, got, plst, pgot, cnt, sum, smo, thr, ovr, ovs, bef, sta⟩ l = ((ptsB l 2000 && (l.length == 0 || pX l (l.length - 1) == pgot)) && (inI 0 1099511627776 att && inI 6144 614400 thr && inI 0 2 sta && inI 0 20000 ovr && inI 0 20000 ovs && inI 0 60 cnt && inI (-1099511627776) 1099511627776 bef && inI (-1099511627776) 1099511627776 sum && inI (-1099511627776) 1099511627776 smo &&
      (inI 0 1099511627776 fst && inI 0 1099511627776 lst && inI 0 1099511627776 got && inI 0 1099511627776 plst && inI 0 1099511627776 pgot) && st && (inI fst (fst + 4) lst && decide (got ≤ att)) && (decide (plst < fst) && decide (pgot ≤ got)))) := by
      cases st <;> simp only [good, tm, M40, cond_true, cond_false, Bool.not_true, Bool.false_and, Bool.and_false, Bool.and_true] <;> rw [Bool.eq_iff_iff] <;> simp only [Bool.and_eq_true] <;> constructor <;> (intro h; simp only [h, and_self])
    rw [e1, e2, h]
/-- The next points: both ways of asking agree. -/
theorem pX_app (l : List Pt) (p : Pt) (i : Nat) : pX (l ++ [p]) i = if i < l.length then pX l i else if i = l.length then p.x else 0 := by
  unfold pX
  by_cases h : i < l.length
  · rw [if_pos h, List.getD_eq_getElem?_getD, List.getElem?_append_left h, ← List.getD_eq_getElem?_getD]
  · rw [if_neg h, List.getD_eq_getElem?_getD, List.getElem?_append_right (by omega)]
    by_cases h2 : i = l.length
    · rw [if_pos h2, h2]; simp
    · rw [if_neg h2]
      have : [p][i - l.length]? = none := List.getElem?_eq_none (by simp; omega)
      rw [this]; rfl
theorem pX_drop (l : List Pt) (i : Nat) : pX (l.drop 1) i = pX l (i + 1) := by
  unfold pX
  rw [List.getD_eq_getElem?_getD, List.getElem?_drop, ← List.getD_eq_getElem?_getD, Nat.add_comm]
/-- Steps of at most 2000, in time. -/
def Stp2 (l : List Pt) : Prop := ∀ i, i < l.length → (0 ≤ pX l i ∧ pX l i ≤ 1099511627776) ∧ (0 < i → 0 ≤ pX l i - pX l (i - 1) ∧ pX l i - pX l (i - 1) ≤ 2000)
theorem stp_app {l : List Pt} {p : Pt} (h : Stp2 l) (hp : 0 ≤ p.x ∧ p.x ≤ 1099511627776) (hl : 0 < l.length → 0 ≤ p.x - pX l (l.length - 1) ∧ p.x - pX l (l.length - 1) ≤ 2000) : Stp2 (l ++ [p]) := by
  intro i hi
  rw [List.length_append, List.length_singleton] at hi
  by_cases h1 : i < l.length
  · obtain ⟨a, b⟩ := h i h1
    refine ⟨by rw [pX_app, if_pos h1]; exact a, fun h0 => ?_⟩
    rw [pX_app, pX_app, if_pos h1, if_pos (by omega)]
    exact b h0
  · have h2 : i = l.length := by omega
    subst h2
    refine ⟨by rw [pX_app, if_neg (by omega), if_pos rfl]; exact hp, fun h0 => ?_⟩
    rw [pX_app, pX_app, if_neg (by omega), if_pos rfl, if_pos (by omega)]
    exact hl h0
theorem stp_drop {l : List Pt} (h : Stp2 l) : Stp2 (l.drop 1) := by
  intro i hi
  rw [List.length_drop] at hi
  obtain ⟨a, b⟩ := h (i + 1) (by omega)
  refine ⟨by rw [pX_drop]; exact a, fun h0 => ?_⟩
  have := b (by omega)
  rw [pX_drop, pX_drop, show i - 1 + 1 = i + 1 - 1 by omega]
  exact this
theorem stp_next {l : List Pt} {p : Pt} (h : Stp2 l) (hp : 0 ≤ p.x ∧ p.x ≤ 1099511627776) (hl : 0 < l.length → 0 ≤ p.x - pX l (l.length - 1) ∧ p.x - pX l (l.length - 1) ≤ 2000) : Stp2 (nextPts l p) := by
  unfold nextPts
  split
  · exact stp_drop (stp_app h hp hl)
  · exact stp_app h hp hl
theorem stp_far {l : List Pt} (h : Stp2 l) : ∀ i, i < l.length → pX l i - pX l 0 ≤ 2000 * i
  | 0, _ => by simp
  | i + 1, hi => by
    have ih := stp_far h i (by omega)
    have := ((h (i + 1) hi).2 (by omega)).2
    rw [show i + 1 - 1 = i by omega] at this
    omega
theorem stp_same {l : List Pt} (h : Stp2 l) (hl : l.length ≤ 20) : ptsR l = ptsB l 2000 := by
  rw [Bool.eq_iff_iff, ptsR_iff, ptsB_iff]
  refine and_congr_left fun _ => forall_congr' fun i => forall_congr' fun hi => ?_
  obtain ⟨a, b⟩ := h i hi
  have f := stp_far h i hi
  simp only [ptR, ptI, M40, Bool.and_eq_true, Bool.or_eq_true, beq_iff_eq, decide_eq_true_eq, inI_iff]
  constructor
  · rintro ⟨⟨⟨⟨a1, a2⟩, a3⟩, a4⟩, a5⟩
    refine ⟨⟨⟨a1, a2⟩, ?_⟩, a5⟩
    by_cases h0 : i = 0
    · exact .inl h0
    · exact .inr (b (by omega))
  · rintro ⟨⟨⟨a1, a2⟩, a3⟩, a5⟩
    refine ⟨⟨⟨⟨a1, a2⟩, ?_⟩, by omega⟩, a5⟩
    by_cases h0 : i = 0
    · exact .inl h0
    · have := b (by omega); exact .inr (by omega)
theorem stp_of {l : List Pt} (h : ptsB l 2000 = true) : Stp2 l := fun i hi => by
  have p := pt_at h hi
  exact ⟨⟨p.x1, p.x2⟩, fun h0 => ⟨p.s1 (by omega), p.s2 (by omega)⟩⟩
/-- In a valid state, behind a group that is not cleared. -/
theorem next_same {t : Tr} {l : List Pt} {y : Int} (h : good t l = true) (hp : t.past = true) (hd : t.got - t.pgot ≤ 2000) : ptsR (nextPts l ⟨t.got, y⟩) = ptsB (nextPts l ⟨t.got, y⟩) 2000 := by
  simp only [good, hp, cond_true, tm, M40, Bool.and_eq_true, Bool.or_eq_true, beq_iff_eq, decide_eq_true_eq, inI_iff] at h
  obtain ⟨⟨⟨⟨⟨⟨⟨⟨h0, h1'⟩, h2'⟩, h3⟩, h4⟩, h5⟩, h6⟩, h7⟩, h8⟩ := h
  refine stp_same (stp_next (stp_of h6) (by dsimp only; omega) (fun hl => ?_)) (next_len (pts_len h6)).2
  rcases h8.2 with h9 | h9
  · omega
  · dsimp only; omega
end Go.Proofs.Arr
