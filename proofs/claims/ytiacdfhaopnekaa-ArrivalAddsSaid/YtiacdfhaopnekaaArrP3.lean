/- Chapter 29: behind a group that is complete: what is cleared, which slice is handed on. -/
import Derived.Test.YtiacdfhaopnekaaArrP2
namespace Go.Proofs.Arr
open Go.Ab
set_option linter.unusedVariables false

/-- The sum, and the smoothed one, with one group more. -/
def wSum (t : Tr) : Int := t.sum + (t.got - t.pgot - (t.lst - t.plst))
def wSmo (t : Tr) : Int := (9 * t.smo + 1024 * wSum t) / 10
def wPt (t : Tr) : Pt := ⟨t.got, wSmo t⟩
def wAdd (t : Tr) : Tr := { t with sum := wSum t, smo := wSmo t, cnt := min (t.cnt + 1) 60 }
/-- What was weighed is forgotten. -/
def wKl (t : Tr) (l : List Pt) : Bool := decide (2000 < max (t.lst - t.plst) (t.got - t.pgot)) || !(inI (-1048576) 1048576 (wSum t) && ptsB (nextPts l (wPt t)) 2000)
def wEnd (t : Tr) (l : List Pt) : Tr :=
  let m := trendN (nextPts l (wPt t)) (min (t.cnt + 1) 60)
  { judgeT (wAdd t) m (t.lst - t.plst) with bef := min (max m (-M40)) M40, thr := adaptN (judgeT (wAdd t) m (t.lst - t.plst)).thr m (t.got - t.pgot) }
theorem weigh_eq (t : Tr) (l : List Pt) : weighT t l = if wKl t l then (clearT t, []) else (wEnd t l, nextPts l (wPt t)) := by
  unfold weighT wKl
  by_cases h1 : 2000 < max (t.lst - t.plst) (t.got - t.pgot)
  · simp only [h1, if_true, decide_true, Bool.true_or]
  · simp only [h1, if_false, decide_false, Bool.false_or]
    have e1 : wPt t = ⟨t.got, (9 * t.smo + 1024 * (t.sum + (t.got - t.pgot - (t.lst - t.plst)))) / 10⟩ := rfl
    have e2 : wSum t = t.sum + (t.got - t.pgot - (t.lst - t.plst)) := rfl
    rw [e1, e2]
    by_cases h2 : (!(inI (-1048576) 1048576 (t.sum + (t.got - t.pgot - (t.lst - t.plst))) && ptsB (nextPts l ⟨t.got, (9 * t.smo + 1024 * (t.sum + (t.got - t.pgot - (t.lst - t.plst)))) / 10⟩) 2000)) = true
    · simp only [h2, if_true, clearT]
    · simp only [h2]
      rfl
/-- The slice behind an append; its first element goes if there are too many. -/
def appQ (l : List Pt) (p : Pt) : Sh := if 20 < l.length + 1 then .sg { cells := rows Pt.l (l ++ [p]), gr := some 2 } 2 l.length else .sg { cells := rows Pt.l (l ++ [p]), gr := some 2 } 0 (l.length + 1)
def wQ (t : Tr) (l : List Pt) : Sh := if wKl t l then .nil else appQ l (wPt t)
theorem rows_one (p : Pt) : rows Pt.l [p] = [.i .i64 p.x, .i .i64 p.y] := by simp [rows, Pt.l]
theorem sg_pts (l : List Pt) : Sh.pts (.sg { cells := rows Pt.l l, gr := some 2 } 0 l.length) l :=
  ⟨rows_bel Pt.bel0, rfl, by show cellsAt _ 0 _ = _; unfold cellsAt; rw [List.drop_zero, ← rows_len Pt.len, List.take_length]⟩
theorem sg_pts1 (p : Pt) (l : List Pt) : Sh.pts (.sg { cells := rows Pt.l (p :: l), gr := some 2 } 2 l.length) l :=
  ⟨rows_bel Pt.bel0, rfl, by
    show cellsAt _ 2 _ = _
    unfold cellsAt
    have := rows_drop (f := Pt.l) (z := 2) Pt.len (l := p :: l) (k := 1)
    rw [show 1 * 2 = 2 from rfl] at this
    rw [this, List.drop_one, List.tail_cons, ← rows_len Pt.len, List.take_length]⟩
theorem appQ_pts (l : List Pt) (p : Pt) : Sh.pts (appQ l p) (nextPts l p) := by
  unfold appQ nextPts
  split
  · cases l with
    | nil => rename_i h; simp at h
    | cons q l =>
      have := sg_pts1 q (l ++ [p])
      rw [List.length_append] at this
      exact this
  · have := sg_pts (l ++ [p])
    rw [List.length_append] at this
    exact this
theorem appQ_fresh (l : List Pt) (p : Pt) : (appQ l p).fresh = true := by unfold appQ; split <;> rfl
theorem nil_pts : Sh.pts .nil [] := ⟨rfl, rfl, rfl⟩
theorem wQ_pts (t : Tr) (l : List Pt) : Sh.pts (wQ t l) (weighT t l).2 := by
  rw [weigh_eq]
  unfold wQ
  split
  · exact nil_pts
  · exact appQ_pts l (wPt t)
theorem wQ_fresh (t : Tr) (l : List Pt) : (wQ t l).fresh = true := by
  unfold wQ; split
  · rfl
  · exact appQ_fresh _ _
theorem next_len {l : List Pt} {p : Pt} (h : l.length ≤ 20) : 1 ≤ (nextPts l p).length ∧ (nextPts l p).length ≤ 20 := by
  unfold nextPts
  split <;> simp <;> omega
/-- A state that may be weighed. -/
def wOK (t : Tr) (l : List Pt) : Bool := (tm t.lst && tm t.plst && tm t.got && tm t.pgot) && decide (t.plst ≤ t.lst) && decide (t.pgot ≤ t.got) && (inI (-M40) M40 t.sum && inI (-M40) M40 t.smo) && inI 0 60 t.cnt && inI 6144 614400 t.thr && (inI 0 20000 t.ovr && inI 0 20000 t.ovs) && decide (l.length ≤ 20)
structure WOK (t : Tr) (l : List Pt) : Prop where
  l1 : 0 ≤ t.lst
  l2 : t.lst ≤ 1099511627776
  p1 : 0 ≤ t.plst
  p2 : t.plst ≤ 1099511627776
  g1 : 0 ≤ t.got
  g2 : t.got ≤ 1099511627776
  q1 : 0 ≤ t.pgot
  q2 : t.pgot ≤ 1099511627776
  d1 : t.plst ≤ t.lst
  d2 : t.pgot ≤ t.got
  s1 : -1099511627776 ≤ t.sum
  s2 : t.sum ≤ 1099511627776
  m1 : -1099511627776 ≤ t.smo
  m2 : t.smo ≤ 1099511627776
  c1 : 0 ≤ t.cnt
  c2 : t.cnt ≤ 60
  th : inI 6144 614400 t.thr = true
  ov : inI 0 20000 t.ovr = true
  os : inI 0 20000 t.ovs = true
  ln : l.length ≤ 20
theorem wOK_to {t : Tr} {l : List Pt} (h : wOK t l = true) : WOK t l := by
  simp only [wOK, tm, M40, Bool.and_eq_true, decide_eq_true_eq] at h
  obtain ⟨⟨⟨⟨⟨⟨⟨⟨⟨⟨a1, a2⟩, a3⟩, a4⟩, a5⟩, a6⟩, a7, a8⟩, a9⟩, b1⟩, b2, b3⟩, b4⟩ := h
  simp only [inI, Bool.and_eq_true, decide_eq_true_eq] at a1 a2 a3 a4 a7 a8 a9
  exact ⟨a1.1, a1.2, a2.1, a2.2, a3.1, a3.2, a4.1, a4.2, a5, a6, a7.1, a7.2, a8.1, a8.2, a9.1, a9.2, b1, b2, b3, b4⟩
theorem judge_thr (t : Tr) (m ds : Int) : (judgeT t m ds).thr = t.thr := by
  unfold judgeT
  split
  · rfl
  · dsimp only; (repeat' split) <;> rfl
theorem ediv_rng {a b A : Int} (hb : 0 < b) (h1 : -A ≤ a) (h2 : a ≤ A) (hA : 0 ≤ A) : -A ≤ a / b ∧ a / b ≤ A := by
  have h3 := Int.ediv_mul_le a (show b ≠ 0 by omega)
  have h4 := Int.lt_ediv_add_one_mul_self a hb
  generalize a / b = q at *
  constructor
  · rcases Int.lt_or_le q (-A) with h | h
    · exfalso
      have : (q + 1) * b ≤ q + 1 := by
        have : (q + 1) * b ≤ (q + 1) * 1 := Int.mul_le_mul_of_nonpos_left (by omega) (by omega)
        omega
      omega
    · exact h
  · rcases Int.lt_or_le A q with h | h
    · exfalso
      have : q ≤ q * b := by
        have : q * 1 ≤ q * b := Int.mul_le_mul_of_nonneg_left (by omega) (by omega)
        omega
      omega
    · exact h
theorem trend_rng {l : List Pt} {c : Int} (h : nearB l = true) (h1 : 1 ≤ l.length) (hc : inI 0 60 c = true) : -515396075520000000 ≤ trendN l c ∧ trendN l c ≤ 515396075520000000 := by
  unfold trendN
  split
  · omega
  · rename_i hX
    have hD := lineD_pos h1 (fun e => hX e.symm)
    have n1 := line_N h
    have hc' := inI_iff.1 hc
    have m1 := mul_rng (A := 240) (B := 2147483648000000) (x := 4 * c) (y := lineN l) (by omega) (by omega) n1.1 n1.2 (by decide) (by decide)
    exact ediv_rng hD (by omega) (by omega) (by decide)
end Go.Proofs.Arr
