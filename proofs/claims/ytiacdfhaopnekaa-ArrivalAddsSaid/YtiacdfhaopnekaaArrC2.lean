/- Contracts of chapter 29: Check; printed by arrc2.py. -/
import Derived.Test.YtiacdfhaopnekaaArrC1
namespace Go.Proofs.Arr
open Go.Ab
set_option maxRecDepth 100000
set_option maxHeartbeats 8000000
set_option linter.unusedSimpArgs false
set_option linter.unusedVariables false
def T13 : List (Nat × Ct) := [(27, kWi), (28, k28)]
theorem hT13 : Sound Try.prog (cxT T13) := Sound.cons sWi <| Sound.cons s28 Sound.nil
theorem or1 {a b c : Int} (ha : inI 0 1099511627776 a = true) (hb : inI 0 1099511627776 b = true) (hc : inI 0 1099511627776 c = true) : (orI .i64 (orI .i64 a b) c == 0) = (a == 0 && b == 0 && c == 0) := by
  rw [inI_iff] at ha hb hc
  rw [orI_beq (orI_rng _ _) (by omega), orI_beq (by omega) (by omega)]
theorem or9 {a b c d e f g h i : Int} (ha : inI (-1099511627776) 1099511627776 a = true) (hb : inI (-1099511627776) 1099511627776 b = true) (hc : inI (-1099511627776) 1099511627776 c = true) (hd : inI (-1099511627776) 1099511627776 d = true) (he : inI (-1099511627776) 1099511627776 e = true) (hf : inI (-1099511627776) 1099511627776 f = true) (hg : inI (-1099511627776) 1099511627776 g = true) (hh : inI (-1099511627776) 1099511627776 h = true) (hi : inI (-1099511627776) 1099511627776 i = true) :
    (orI .i64 (orI .i64 (orI .i64 (orI .i64 (orI .i64 (orI .i64 (orI .i64 (orI .i64 a b) c) d) e) f) g) h) i == 0) = (a == 0 && b == 0 && c == 0 && d == 0 && e == 0 && f == 0 && g == 0 && h == 0 && i == 0) := by
  rw [inI_iff] at *
  rw [orI_beq (orI_rng _ _) (by omega), orI_beq (orI_rng _ _) (by omega), orI_beq (orI_rng _ _) (by omega), orI_beq (orI_rng _ _) (by omega), orI_beq (orI_rng _ _) (by omega), orI_beq (orI_rng _ _) (by omega), orI_beq (orI_rng _ _) (by omega), orI_beq (by omega) (by omega)]
theorem wide_of {lo hi x : Int} (h : inI lo hi x = true) (h1 : -1099511627776 ≤ lo) (h2 : hi ≤ 1099511627776) : inI (-1099511627776) 1099511627776 x = true := by
  rw [inI_iff] at *; omega
theorem a5' {lo hi x : Int} (h : [x].all (inI lo hi) = true) : inI lo hi x = true := by simpa using h
theorem a5f {lo hi x : Int} (h : [x].all (inI lo hi) = false) : inI lo hi x = false := by simpa using h
theorem w13 (t : Tr) (s : Sh) (l : List Pt) (hs : Sh.pts s l) (hl : l.length ≤ 1000000000000) : FTL Try.prog 13 [.agg (t.l (s.v 0))] (s.h 0) 1 (.i .i64 (if good t l then 0 else 290)) (s.h 0) 1 := by
  refine FTL.of_iw hT13 mo Try.func13 i13_eq (by simp [i13]) (iw_of_jw ?_)
  dsimp only [i13, T13]
  generalize hR : (if good t l then (0 : Int) else 290) = R
  have hrd := rd_pts hs
  have hp := hs.pl
  have hln := hs.ln
  have hld : decide (l.length ≤ 1000000000000) = true := decide_eq_true hl
  have hno : good t l = false → R = 290 := fun h => by rw [← hR, h]; rfl
  have hyes : good t l = true → R = 0 := fun h => by rw [← hR, h]; rfl
  clear hR
  obtain ⟨att, st, past, fst, lst, got, plst, pgot, cnt, sum, smo, thr, ovr, ovs, bef, sta⟩ := t
  cases a1 : [att, fst, lst, got, plst, pgot].all (inI 0 1099511627776)
  · have hg : R = 290 := hno (by simp only [List.all_cons, List.all_nil, Bool.and_true] at *; simp only [good, tm, M40]; grind)
    simp (config := { maxSteps := 400000 }) only [go_sem, Tr.l, kWi, k28, intsB, unrows, intV, hrd, hld, hln, a1, simprocAttr]
    repeat' (first | refine spB_i (fun _ => ?_) (fun _ => ?_) | refine andB_i ?_ ?_)
    all_goals exact Ends.s1 hp (by rw [hg]) rfl (by simp [hasS_cons, hasS_hit, hasS_hit0])
  cases a2 : [thr].all (inI 6144 614400)
  · have hg : R = 290 := hno (by simp only [List.all_cons, List.all_nil, Bool.and_true] at *; simp only [good, tm, M40]; grind)
    simp (config := { maxSteps := 400000 }) only [go_sem, Tr.l, kWi, k28, intsB, unrows, intV, hrd, hld, hln, a1, a2, simprocAttr]
    repeat' (first | refine spB_i (fun _ => ?_) (fun _ => ?_) | refine andB_i ?_ ?_)
    all_goals exact Ends.s1 hp (by rw [hg]) rfl (by simp [hasS_cons, hasS_hit, hasS_hit0])
  cases a3 : [sta].all (inI 0 2)
  · have hg : R = 290 := hno (by simp only [List.all_cons, List.all_nil, Bool.and_true] at *; simp only [good, tm, M40]; grind)
    simp (config := { maxSteps := 400000 }) only [go_sem, Tr.l, kWi, k28, intsB, unrows, intV, hrd, hld, hln, a1, a2, a3, simprocAttr]
    repeat' (first | refine spB_i (fun _ => ?_) (fun _ => ?_) | refine andB_i ?_ ?_)
    all_goals exact Ends.s1 hp (by rw [hg]) rfl (by simp [hasS_cons, hasS_hit, hasS_hit0])
  cases a4 : [ovr, ovs].all (inI 0 20000)
  · have hg : R = 290 := hno (by simp only [List.all_cons, List.all_nil, Bool.and_true] at *; simp only [good, tm, M40]; grind)
    simp (config := { maxSteps := 400000 }) only [go_sem, Tr.l, kWi, k28, intsB, unrows, intV, hrd, hld, hln, a1, a2, a3, a4, simprocAttr]
    repeat' (first | refine spB_i (fun _ => ?_) (fun _ => ?_) | refine andB_i ?_ ?_)
    all_goals exact Ends.s1 hp (by rw [hg]) rfl (by simp [hasS_cons, hasS_hit, hasS_hit0])
  cases a5 : [cnt].all (inI 0 60)
  · have hg : R = 290 := hno (by simp only [List.all_cons, List.all_nil, Bool.and_true] at *; simp only [good, tm, M40]; grind)
    simp (config := { maxSteps := 400000 }) only [go_sem, Tr.l, kWi, k28, intsB, unrows, intV, hrd, hld, hln, a1, a2, a3, a4, a5, simprocAttr]
    repeat' (first | refine spB_i (fun _ => ?_) (fun _ => ?_) | refine andB_i ?_ ?_)
    all_goals exact Ends.s1 hp (by rw [hg]) rfl (by simp [hasS_cons, hasS_hit, hasS_hit0])
  cases a6 : [bef, sum, smo].all (inI (-1099511627776) 1099511627776)
  · have hg : R = 290 := hno (by simp only [List.all_cons, List.all_nil, Bool.and_true] at *; simp only [good, tm, M40]; grind)
    simp (config := { maxSteps := 400000 }) only [go_sem, Tr.l, kWi, k28, intsB, unrows, intV, hrd, hld, hln, a1, a2, a3, a4, a5, a6, simprocAttr]
    repeat' (first | refine spB_i (fun _ => ?_) (fun _ => ?_) | refine andB_i ?_ ?_)
    all_goals exact Ends.s1 hp (by rw [hg]) rfl (by simp [hasS_cons, hasS_hit, hasS_hit0])
  cases a7 : ptsB l 2000
  · have hg : R = 290 := hno (by simp only [List.all_cons, List.all_nil, Bool.and_true] at *; simp only [good, tm, M40]; grind)
    simp (config := { maxSteps := 400000 }) only [go_sem, Tr.l, kWi, k28, intsB, unrows, intV, hrd, hld, hln, a1, a2, a3, a4, a5, a6, a7, simprocAttr]
    repeat' (first | refine spB_i (fun _ => ?_) (fun _ => ?_) | refine andB_i ?_ ?_)
    all_goals exact Ends.s1 hp (by rw [hg]) rfl (by simp [hasS_cons, hasS_hit, hasS_hit0])
  have b1 := a1
  have b6 := a6
  have b4 := a4
  simp only [List.all_cons, List.all_nil, Bool.and_true, Bool.and_eq_true] at b1 b4 b6
  obtain ⟨m1, m2, m3, m4, m5, m6⟩ := b1
  obtain ⟨m7, m8, m9⟩ := b6
  have b2 := inI_iff.1 m2
  have e1 : IntKind.i64.wrap (fst + 4) = fst + 4 := wrapL (by omega) (by omega)
  have o1 := or1 m2 m3 m4
  have o9 := or9 (wide_of m5 (by decide) (by decide)) (wide_of m6 (by decide) (by decide)) (wide_of (a5' a5) (by decide) (by decide)) m8 m9 (wide_of b4.1 (by decide) (by decide)) (wide_of b4.2 (by decide) (by decide)) m7 (wide_of (a5' a3) (by decide) (by decide))
  have hz : ((l.length : Int) == 0) = (l.length == 0) := by rw [Bool.eq_iff_iff]; simp
  have hgd : good ⟨att, st, past, fst, lst, got, plst, pgot, cnt, sum, smo, thr, ovr, ovs, bef, sta⟩ l = ((bif st then inI fst (fst + 4) lst && decide (got ≤ att) else !past && (fst == 0 && lst == 0 && got == 0)) &&
      (bif past then decide (plst < fst) && decide (pgot ≤ got) && (l.length == 0 || pX l (l.length - 1) == pgot) else (plst == 0 && pgot == 0 && cnt == 0 && sum == 0 && smo == 0 && ovr == 0 && ovs == 0 && bef == 0 && sta == 0) && l.length == 0)) := by
    simp only [List.all_cons, List.all_nil, Bool.and_true] at a1 a2 a3 a4 a5 a6
    simp only [good, tm, M40, zeroT, m1, m2, m3, m4, m5, m6, m7, m8, m9, a2, a3, a4, a5, a7, Bool.and_self, Bool.true_and, Bool.and_true]
  rw [hgd] at hno hyes
  clear hgd
  cases st
  · cases past
    · cases g1 : (fst == 0 && lst == 0 && got == 0)
      · have hg : R = 290 := hno (by simp only [g1, cond_true, cond_false, Bool.true_and, Bool.false_and, Bool.and_false, Bool.and_true, Bool.not_true, Bool.not_false, Bool.true_or, Bool.or_true, Bool.false_or, Bool.or_false])
        simp (config := { maxSteps := 400000 }) only [go_sem, Tr.l, kWi, k28, intsB, unrows, intV, hrd, hld, hln, a1, a2, a3, a4, a5, a6, a7, e1, o1, o9, hz, g1, simprocAttr]
        repeat' (first | refine spB_i (fun _ => ?_) (fun _ => ?_) | refine andB_i ?_ ?_)
        all_goals exact Ends.s1 hp (by rw [hg]) rfl (by simp [hasS_cons, hasS_hit, hasS_hit0])
      · clear hrd
        have hrd := rd_pts hs
        cases f1 : (plst == 0 && pgot == 0 && cnt == 0 && sum == 0 && smo == 0 && ovr == 0 && ovs == 0 && bef == 0 && sta == 0)
        · have hg : R = 290 := hno (by simp only [g1, f1, cond_true, cond_false, Bool.true_and, Bool.false_and, Bool.and_false, Bool.and_true, Bool.not_true, Bool.not_false, Bool.true_or, Bool.or_true, Bool.false_or, Bool.or_false])
          simp (config := { maxSteps := 400000 }) only [go_sem, Tr.l, kWi, k28, intsB, unrows, intV, hrd, hld, hln, a1, a2, a3, a4, a5, a6, a7, e1, o1, o9, hz, g1, f1, simprocAttr]
          repeat' (first | refine spB_i (fun _ => ?_) (fun _ => ?_) | refine andB_i ?_ ?_)
          all_goals exact Ends.s1 hp (by rw [hg]) rfl (by simp [hasS_cons, hasS_hit, hasS_hit0])
        cases f3 : (l.length == 0)
        · have hg : R = 290 := hno (by simp only [g1, f1, f3, cond_true, cond_false, Bool.true_and, Bool.false_and, Bool.and_false, Bool.and_true, Bool.not_true, Bool.not_false, Bool.true_or, Bool.or_true, Bool.false_or, Bool.or_false])
          simp (config := { maxSteps := 400000 }) only [go_sem, Tr.l, kWi, k28, intsB, unrows, intV, hrd, hld, hln, a1, a2, a3, a4, a5, a6, a7, e1, o1, o9, hz, g1, f1, f3, simprocAttr]
          repeat' (first | refine spB_i (fun _ => ?_) (fun _ => ?_) | refine andB_i ?_ ?_)
          all_goals exact Ends.s1 hp (by rw [hg]) rfl (by simp [hasS_cons, hasS_hit, hasS_hit0])
        · have hg : R = 0 := hyes (by simp only [g1, f1, f3, cond_true, cond_false, Bool.true_and, Bool.false_and, Bool.and_false, Bool.and_true, Bool.not_true, Bool.not_false, Bool.true_or, Bool.or_true, Bool.false_or, Bool.or_false])
          simp (config := { maxSteps := 400000 }) only [go_sem, Tr.l, kWi, k28, intsB, unrows, intV, hrd, hld, hln, a1, a2, a3, a4, a5, a6, a7, e1, o1, o9, hz, g1, f1, f3, simprocAttr]
          repeat' (first | refine spB_i (fun _ => ?_) (fun _ => ?_) | refine andB_i ?_ ?_)
          all_goals exact Ends.s1 hp (by rw [hg]) rfl (by simp [hasS_cons, hasS_hit, hasS_hit0])
    · have hg : R = 290 := hno (by simp only [cond_true, cond_false, Bool.true_and, Bool.false_and, Bool.and_false, Bool.and_true, Bool.not_true, Bool.not_false, Bool.true_or, Bool.or_true, Bool.false_or, Bool.or_false])
      simp (config := { maxSteps := 400000 }) only [go_sem, Tr.l, kWi, k28, intsB, unrows, intV, hrd, hld, hln, a1, a2, a3, a4, a5, a6, a7, e1, o1, o9, hz, simprocAttr]
      repeat' (first | refine spB_i (fun _ => ?_) (fun _ => ?_) | refine andB_i ?_ ?_)
      all_goals exact Ends.s1 hp (by rw [hg]) rfl (by simp [hasS_cons, hasS_hit, hasS_hit0])
  · cases g1 : [lst].all (inI fst (fst + 4))
    · have g1' := a5f g1
      have hg : R = 290 := hno (by simp only [g1', cond_true, cond_false, Bool.true_and, Bool.false_and, Bool.and_false, Bool.and_true, Bool.not_true, Bool.not_false, Bool.true_or, Bool.or_true, Bool.false_or, Bool.or_false])
      simp (config := { maxSteps := 400000 }) only [go_sem, Tr.l, kWi, k28, intsB, unrows, intV, hrd, hld, hln, a1, a2, a3, a4, a5, a6, a7, e1, o1, o9, hz, g1, simprocAttr]
      repeat' (first | refine spB_i (fun _ => ?_) (fun _ => ?_) | refine andB_i ?_ ?_)
      all_goals exact Ends.s1 hp (by rw [hg]) rfl (by simp [hasS_cons, hasS_hit, hasS_hit0])
    have g1' := a5' g1
    cases g2 : decide (got ≤ att)
    · have hg : R = 290 := hno (by simp only [g1', g2, cond_true, cond_false, Bool.true_and, Bool.false_and, Bool.and_false, Bool.and_true, Bool.not_true, Bool.not_false, Bool.true_or, Bool.or_true, Bool.false_or, Bool.or_false])
      simp (config := { maxSteps := 400000 }) only [go_sem, Tr.l, kWi, k28, intsB, unrows, intV, hrd, hld, hln, a1, a2, a3, a4, a5, a6, a7, e1, o1, o9, hz, g1, g2, simprocAttr]
      repeat' (first | refine spB_i (fun _ => ?_) (fun _ => ?_) | refine andB_i ?_ ?_)
      all_goals exact Ends.s1 hp (by rw [hg]) rfl (by simp [hasS_cons, hasS_hit, hasS_hit0])
    cases past
    · clear hrd
      have hrd := rd_pts hs
      cases f1 : (plst == 0 && pgot == 0 && cnt == 0 && sum == 0 && smo == 0 && ovr == 0 && ovs == 0 && bef == 0 && sta == 0)
      · have hg : R = 290 := hno (by simp only [g1', g2, f1, cond_true, cond_false, Bool.true_and, Bool.false_and, Bool.and_false, Bool.and_true, Bool.not_true, Bool.not_false, Bool.true_or, Bool.or_true, Bool.false_or, Bool.or_false])
        simp (config := { maxSteps := 400000 }) only [go_sem, Tr.l, kWi, k28, intsB, unrows, intV, hrd, hld, hln, a1, a2, a3, a4, a5, a6, a7, e1, o1, o9, hz, g1, g2, f1, simprocAttr]
        repeat' (first | refine spB_i (fun _ => ?_) (fun _ => ?_) | refine andB_i ?_ ?_)
        all_goals exact Ends.s1 hp (by rw [hg]) rfl (by simp [hasS_cons, hasS_hit, hasS_hit0])
      cases f3 : (l.length == 0)
      · have hg : R = 290 := hno (by simp only [g1', g2, f1, f3, cond_true, cond_false, Bool.true_and, Bool.false_and, Bool.and_false, Bool.and_true, Bool.not_true, Bool.not_false, Bool.true_or, Bool.or_true, Bool.false_or, Bool.or_false])
        simp (config := { maxSteps := 400000 }) only [go_sem, Tr.l, kWi, k28, intsB, unrows, intV, hrd, hld, hln, a1, a2, a3, a4, a5, a6, a7, e1, o1, o9, hz, g1, g2, f1, f3, simprocAttr]
        repeat' (first | refine spB_i (fun _ => ?_) (fun _ => ?_) | refine andB_i ?_ ?_)
        all_goals exact Ends.s1 hp (by rw [hg]) rfl (by simp [hasS_cons, hasS_hit, hasS_hit0])
      · have hg : R = 0 := hyes (by simp only [g1', g2, f1, f3, cond_true, cond_false, Bool.true_and, Bool.false_and, Bool.and_false, Bool.and_true, Bool.not_true, Bool.not_false, Bool.true_or, Bool.or_true, Bool.false_or, Bool.or_false])
        simp (config := { maxSteps := 400000 }) only [go_sem, Tr.l, kWi, k28, intsB, unrows, intV, hrd, hld, hln, a1, a2, a3, a4, a5, a6, a7, e1, o1, o9, hz, g1, g2, f1, f3, simprocAttr]
        repeat' (first | refine spB_i (fun _ => ?_) (fun _ => ?_) | refine andB_i ?_ ?_)
        all_goals exact Ends.s1 hp (by rw [hg]) rfl (by simp [hasS_cons, hasS_hit, hasS_hit0])
    · clear hrd
      have hrd := rd_pts hs
      cases f1 : decide (plst < fst)
      · have hg : R = 290 := hno (by simp only [g1', g2, f1, cond_true, cond_false, Bool.true_and, Bool.false_and, Bool.and_false, Bool.and_true, Bool.not_true, Bool.not_false, Bool.true_or, Bool.or_true, Bool.false_or, Bool.or_false])
        simp (config := { maxSteps := 400000 }) only [go_sem, Tr.l, kWi, k28, intsB, unrows, intV, hrd, hld, hln, a1, a2, a3, a4, a5, a6, a7, e1, o1, o9, hz, g1, g2, f1, simprocAttr]
        repeat' (first | refine spB_i (fun _ => ?_) (fun _ => ?_) | refine andB_i ?_ ?_)
        all_goals exact Ends.s1 hp (by rw [hg]) rfl (by simp [hasS_cons, hasS_hit, hasS_hit0])
      cases f2 : decide (pgot ≤ got)
      · have hg : R = 290 := hno (by simp only [g1', g2, f1, f2, cond_true, cond_false, Bool.true_and, Bool.false_and, Bool.and_false, Bool.and_true, Bool.not_true, Bool.not_false, Bool.true_or, Bool.or_true, Bool.false_or, Bool.or_false])
        simp (config := { maxSteps := 400000 }) only [go_sem, Tr.l, kWi, k28, intsB, unrows, intV, hrd, hld, hln, a1, a2, a3, a4, a5, a6, a7, e1, o1, o9, hz, g1, g2, f1, f2, simprocAttr]
        repeat' (first | refine spB_i (fun _ => ?_) (fun _ => ?_) | refine andB_i ?_ ?_)
        all_goals exact Ends.s1 hp (by rw [hg]) rfl (by simp [hasS_cons, hasS_hit, hasS_hit0])
      cases f3 : (l.length == 0)
      · have hne : s ≠ .nil := hs.ne (by rintro rfl; simp at f3)
        have hpos : 0 < l.length := by have := beq_eq_false_iff_ne.1 f3; omega
        obtain ⟨hrow, hx, hy⟩ := at_of (hs.cells hne).1
        have hxl := hx (l.length - 1) (by omega)
        have q2 : IntKind.i64.wrap ((l.length : Int) - 1) = ((l.length - 1 : Nat) : Int) := by rw [wrapL (by omega) (by omega)]; omega
        have c3 : decide (0 ≤ ((l.length - 1 : Nat) : Int) ∧ ((l.length - 1 : Nat) : Int) < (l.length : Int)) = true := decide_eq_true (by omega)
        have hsp := slParts_v (b := 0) hne
        have hga : ∀ r, hget (s.h 0 ++ r) 0 = some s.blk := fun r => hget_at hne
        have hga0 : hget (s.h 0) 0 = some s.blk := hget_at0 hne
        cases f4 : (pX l (l.length - 1) == pgot)
        · have hg : R = 290 := hno (by simp only [g1', g2, f1, f2, f3, f4, cond_true, cond_false, Bool.true_and, Bool.false_and, Bool.and_false, Bool.and_true, Bool.not_true, Bool.not_false, Bool.true_or, Bool.or_true, Bool.false_or, Bool.or_false])
          simp (config := { maxSteps := 400000 }) only [go_sem, Tr.l, kWi, k28, intsB, unrows, intV, hrd, hld, hln, a1, a2, a3, a4, a5, a6, a7, e1, o1, o9, hz, g1, g2, f1, f2, f3, f4, hxl, q2, c3, hsp, hga, hga0, simprocAttr]
          repeat' (first | refine spB_i (fun _ => ?_) (fun _ => ?_) | refine andB_i ?_ ?_)
          all_goals exact Ends.s1 hp (by rw [hg]) rfl (by simp [hasS_cons, hasS_hit, hasS_hit0])
        · have hg : R = 0 := hyes (by simp only [g1', g2, f1, f2, f3, f4, cond_true, cond_false, Bool.true_and, Bool.false_and, Bool.and_false, Bool.and_true, Bool.not_true, Bool.not_false, Bool.true_or, Bool.or_true, Bool.false_or, Bool.or_false])
          simp (config := { maxSteps := 400000 }) only [go_sem, Tr.l, kWi, k28, intsB, unrows, intV, hrd, hld, hln, a1, a2, a3, a4, a5, a6, a7, e1, o1, o9, hz, g1, g2, f1, f2, f3, f4, hxl, q2, c3, hsp, hga, hga0, simprocAttr]
          repeat' (first | refine spB_i (fun _ => ?_) (fun _ => ?_) | refine andB_i ?_ ?_)
          all_goals exact Ends.s1 hp (by rw [hg]) rfl (by simp [hasS_cons, hasS_hit, hasS_hit0])
      · have hg : R = 0 := hyes (by simp only [g1', g2, f1, f2, f3, cond_true, cond_false, Bool.true_and, Bool.false_and, Bool.and_false, Bool.and_true, Bool.not_true, Bool.not_false, Bool.true_or, Bool.or_true, Bool.false_or, Bool.or_false])
        simp (config := { maxSteps := 400000 }) only [go_sem, Tr.l, kWi, k28, intsB, unrows, intV, hrd, hld, hln, a1, a2, a3, a4, a5, a6, a7, e1, o1, o9, hz, g1, g2, f1, f2, f3, simprocAttr]
        repeat' (first | refine spB_i (fun _ => ?_) (fun _ => ?_) | refine andB_i ?_ ?_)
        all_goals exact Ends.s1 hp (by rw [hg]) rfl (by simp [hasS_cons, hasS_hit, hasS_hit0])
def k13 : Ct
  | [.agg c], h, n => (trV c).bind fun q => (shAt q.2 h).bind fun s => (rdL ptV 2 s).bind fun l => some (decide (l.length ≤ 1000000000000), { v := .i .i64 (if good q.1 l then 0 else 290), n := n + 1, rd := shR q.2 })
  | _, _, _ => none
theorem s13 : SoundAt Try.prog 13 k13 := fun args h n c E hc ht => by
  unfold k13 at hc
  split at hc
  · simp only [Option.bind_eq_some_iff] at hc
    obtain ⟨q, hq, s, hs, l, hl, he⟩ := hc
    obtain ⟨t, v⟩ := q
    cases he
    simp only [decide_eq_true_eq] at ht
    have hp := pts_rd hl
    rw [trV_eq hq]
    have := CallOK.sh1 (n := n) (A := fun b => [.agg (t.l (s.v b))]) (by kernel_rfl) (by simp [belL, Tr.l, v_bel, AV.bel]) hs hp.pl (fun ψ => by simp [renL, Tr.l, v_ren, AV.ren]) (fun h0 i => by subst h0; rfl) rfl (w13 t s l hp ht)
    rwa [← (shAt_inv hs).1] at this
  · cases hc
end Go.Proofs.Arr
