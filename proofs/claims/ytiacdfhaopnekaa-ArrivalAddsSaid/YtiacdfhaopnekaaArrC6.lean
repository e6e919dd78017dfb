/- Contracts of chapter 29: Clone, weigh; printed by arrc6.py. -/
import Derived.Test.YtiacdfhaopnekaaArrP3
import Derived.Test.YtiacdfhaopnekaaArrC5
namespace Go.Proofs.Arr
open Go.Ab
set_option maxRecDepth 100000
set_option maxHeartbeats 8000000
set_option linter.unusedSimpArgs false
set_option linter.unusedVariables false
/-- A copy of a slice. -/
def cloneQ (s : Sh) (l : List Pt) : Sh := match s with
  | .nil => .nil
  | _ => if l.length = 0 then .sl { cells := [] } 0 0 0 else .sg { cells := rows Pt.l l, gr := some 2 } 0 l.length
theorem cloneQ_pts {s : Sh} {l : List Pt} (hs : Sh.pts s l) : Sh.pts (cloneQ s l) l := by
  have e : ∀ l : List Pt, Sh.pts (if l.length = 0 then .sl { cells := [] } 0 0 0 else .sg { cells := rows Pt.l l, gr := some 2 } 0 l.length) l := by
    intro l
    split
    · rename_i h
      have : l = [] := List.eq_nil_of_length_eq_zero h
      subst this
      exact ⟨rfl, rfl, rfl⟩
    · exact sg_pts l
  cases s with
  | nil =>
    have : l = [] := List.eq_nil_of_length_eq_zero hs.ln.symm
    subst this; exact nil_pts
  | sl k o n c => exact e l
  | sg k o n => exact e l
theorem cloneQ_fresh (s : Sh) (l : List Pt) : (cloneQ s l).fresh = true := by
  unfold cloneQ
  split
  · rfl
  · split <;> rfl
theorem w33n : FTL Try.prog 33 [.ns] [] 1 .ns [] 2 := by
  refine FTL.of_iw Sound.nil mo Try.func33 i33_eq (by simp [i33]) (iw_of_jw ?_)
  dsimp only [i33]
  simp (config := { maxSteps := 400000 }) only [go_sem, simprocAttr]
  exact Ends.R [] (by decide) (by decide) rfl rfl trivial
theorem w33sl (kb : Blk) (o cap : Nat) (l : List Pt) (hp : belL 0 kb.cells = true) (hc : cellsAt kb.cells o (l.length * 2) = rows Pt.l l) (hl : l.length ≤ 1000000) : FTL Try.prog 33 [.sl 0 o l.length cap] [(0, kb)] 1 ((cloneQ (.sl kb o l.length cap) l).v 1) ((0, kb) :: (cloneQ (.sl kb o l.length cap) l).h 1) 2 := by
  refine FTL.of_iw Sound.nil mo Try.func33 i33_eq (by simp [i33]) (iw_of_jw ?_)
  dsimp only [i33]
  have hc' : List.take (l.length * 2) (List.drop o kb.cells) = rows Pt.l l := hc
  have hrl : (rows Pt.l l).length = l.length * 2 := rows_len Pt.len
  have hb1 : belL 2 kb.cells = true := belL_mono0 _ hp
  have hrb : belL 2 (rows Pt.l l) = true := belL_mono0 _ (rows_bel Pt.bel0)
  have hkf := fun ψ => renL_fix0 (ψ := ψ) kb.cells hp
  by_cases h0 : l.length = 0
  · have hl0 : l = [] := List.eq_nil_of_length_eq_zero h0
    subst hl0
    have hc2 : List.take 0 (List.drop o kb.cells) = [] := by simp
    simp (config := { maxSteps := 400000 }) only [go_sem, List.length_nil, Nat.zero_mul, hc2, hc', simprocAttr]
    repeat' (first | refine spB_i (fun _ => ?_) (fun _ => ?_) | refine andB_i ?_ ?_)
    all_goals first
      | (refine Ends.R [] (by decide) (by decide) (by simp [cloneQ, Sh.v, AV.ren, rn]) (by simp [cloneQ, Sh.v, AV.bel]) ?_; simp [cloneQ, Sh.h, HpR, rn, hget_cons, hkf, hb1, belL, Blk.ren, renL]; done)
      | (refine Ends.R [(1, 1)] (by decide) (by decide) (by simp [cloneQ, Sh.v, AV.ren, rn]) (by simp [cloneQ, Sh.v, AV.bel, nblt]) ?_; simp [cloneQ, Sh.h, HpR, rn, hget_cons, hkf, hb1, belL, Blk.ren, renL]; done)
  · have d0 : decide (l.length = 0) = false := decide_eq_false h0
    have d1 : decide (l.length ≤ 0) = false := decide_eq_false (by omega)
    have d2 : decide (16 * l.length ≤ growMax) = true := decide_eq_true (by simp only [growMax]; omega)
    simp (config := { maxSteps := 400000 }) only [go_sem, hc', hrl, d0, d1, d2, simprocAttr]
    refine Ends.R [(1, 2)] (by decide) (by decide) (by simp [cloneQ, h0, Sh.v, AV.ren, rn]) (by simp [cloneQ, h0, Sh.v, AV.bel, nblt]) ?_
    simp [cloneQ, h0, Sh.h, HpR, rn, hget_cons, hkf, hb1, hrb, Blk.ren, renL_fix0 _ (rows_bel Pt.bel0)]
theorem w33sg (kb : Blk) (o : Nat) (l : List Pt) (hp : belL 0 kb.cells = true) (hc : cellsAt kb.cells o (l.length * 2) = rows Pt.l l) (hl : l.length ≤ 1000000) : FTL Try.prog 33 [.sg 0 o l.length] [(0, kb)] 1 ((cloneQ (.sg kb o l.length) l).v 1) ((0, kb) :: (cloneQ (.sg kb o l.length) l).h 1) 2 := by
  refine FTL.of_iw Sound.nil mo Try.func33 i33_eq (by simp [i33]) (iw_of_jw ?_)
  dsimp only [i33]
  have hc' : List.take (l.length * 2) (List.drop o kb.cells) = rows Pt.l l := hc
  have hrl : (rows Pt.l l).length = l.length * 2 := rows_len Pt.len
  have hb1 : belL 2 kb.cells = true := belL_mono0 _ hp
  have hrb : belL 2 (rows Pt.l l) = true := belL_mono0 _ (rows_bel Pt.bel0)
  have hkf := fun ψ => renL_fix0 (ψ := ψ) kb.cells hp
  by_cases h0 : l.length = 0
  · have hl0 : l = [] := List.eq_nil_of_length_eq_zero h0
    subst hl0
    have hc2 : List.take 0 (List.drop o kb.cells) = [] := by simp
    simp (config := { maxSteps := 400000 }) only [go_sem, List.length_nil, Nat.zero_mul, hc2, hc', simprocAttr]
    repeat' (first | refine spB_i (fun _ => ?_) (fun _ => ?_) | refine andB_i ?_ ?_)
    all_goals first
      | (refine Ends.R [] (by decide) (by decide) (by simp [cloneQ, Sh.v, AV.ren, rn]) (by simp [cloneQ, Sh.v, AV.bel]) ?_; simp [cloneQ, Sh.h, HpR, rn, hget_cons, hkf, hb1, belL, Blk.ren, renL]; done)
      | (refine Ends.R [(1, 1)] (by decide) (by decide) (by simp [cloneQ, Sh.v, AV.ren, rn]) (by simp [cloneQ, Sh.v, AV.bel, nblt]) ?_; simp [cloneQ, Sh.h, HpR, rn, hget_cons, hkf, hb1, belL, Blk.ren, renL]; done)
  · have d0 : decide (l.length = 0) = false := decide_eq_false h0
    have d1 : decide (l.length ≤ 0) = false := decide_eq_false (by omega)
    have d2 : decide (16 * l.length ≤ growMax) = true := decide_eq_true (by simp only [growMax]; omega)
    simp (config := { maxSteps := 400000 }) only [go_sem, hc', hrl, d0, d1, d2, simprocAttr]
    refine Ends.R [(1, 2)] (by decide) (by decide) (by simp [cloneQ, h0, Sh.v, AV.ren, rn]) (by simp [cloneQ, h0, Sh.v, AV.bel, nblt]) ?_
    simp [cloneQ, h0, Sh.h, HpR, rn, hget_cons, hkf, hb1, hrb, Blk.ren, renL_fix0 _ (rows_bel Pt.bel0)]
theorem w33 (s : Sh) (l : List Pt) (hs : Sh.pts s l) (hl : l.length ≤ 1000000) : FTL Try.prog 33 [s.v 0] (s.h 0) 1 ((cloneQ s l).v 1) (s.h 0 ++ (cloneQ s l).h 1) 2 := by
  obtain ⟨h1, h2, h3⟩ := hs
  cases s with
  | nil => exact w33n
  | sl k o len cap => simp only [Sh.len] at h2; subst h2; exact w33sl k o cap l h1 h3 hl
  | sg k o len => simp only [Sh.len] at h2; subst h2; exact w33sg k o l h1 h3 hl
def k33 : Ct
  | [v], h, n => (shAt v h).bind fun s => (rdL ptV 2 s).bind fun l => some (decide (l.length ≤ 1000000), { v := (cloneQ s l).v (n + 1), n := n + 2, rd := shR v, nw := (cloneQ s l).h (n + 1) })
  | _, _, _ => none
theorem s33 : SoundAt Try.prog 33 k33 := fun args h n c E hc ht => by
  unfold k33 at hc
  split at hc
  · simp only [Option.bind_eq_some_iff] at hc
    obtain ⟨s, hs, l, hl, he⟩ := hc
    cases he
    simp only [decide_eq_true_eq] at ht
    have hp := pts_rd hl
    have hq := cloneQ_pts hp
    have := CallOK.sh1n (n := n) (A := fun b => [s.v b]) (U := fun b => (cloneQ s l).v b) (t := cloneQ s l) (by kernel_rfl) (by simp [belL, v_bel]) hs hp.pl hq.pl (cloneQ_fresh s l) (fun ψ => by simp [renL, v_ren]) (fun h0 i => by subst h0; rfl) (fun ψ => v_ren) (w33 s l hp ht)
    rwa [← (shAt_inv hs).1] at this
  · cases hc
def T35 : List (Nat × Ct) := [(42, k42), (43, k43), (27, kWi), (28, k28), (44, k44), (45, k45), (46, k46)]
theorem hT35 : Sound Try.prog (cxT T35) := Sound.cons s42 <| Sound.cons s43 <| Sound.cons sWi <| Sound.cons s28 <| Sound.cons s44 <| Sound.cons s45 <| Sound.cons s46 Sound.nil
theorem shNe_ns {b : Nat} : shNe b .ns = true := rfl
theorem shNe_sl {b c o l k : Nat} : shNe b (.sl c o l k) = !(Nat.beq b c) := rfl
theorem shNe_sg {b c o l : Nat} : shNe b (.sg c o l) = !(Nat.beq b c) := rfl
theorem all1' {lo hi x : Int} : [x].all (inI lo hi) = inI lo hi x := by simp
theorem w35n (t : Tr) (sent got : Int) (h : wOK t [] = true) : FTL Try.prog 35 [.p 0 0] [(0, { cells := t.c .ns sent got })] 2 (.tup []) ((0, { cells := (weighT t []).1.c ((wQ t []).v 2) sent got }) :: (wQ t []).h 2) 3 := by
  refine FTL.of_iw hT35 mo Try.func35 i35_eq (by simp [i35]) (iw_of_jw ?_)
  dsimp only [i35, T35]
  have W := wOK_to h
  obtain ⟨l1, l2, p1, p2, g1, g2, q1, q2, d1, d2, s1, s2, m1, m2, c1, c2, th, ov, os, ln⟩ := W
  have z1 : IntKind.i64.wrap (t.lst - t.plst) = t.lst - t.plst := wrapL (by omega) (by omega)
  have z2 : IntKind.i64.wrap (t.got - t.pgot) = t.got - t.pgot := wrapL (by omega) (by omega)

  by_cases hA : 2000 < max (t.lst - t.plst) (t.got - t.pgot)
  · have hk : wKl t [] = true := by simp [wKl, hA]
    have a1 : decide (2000 < max (t.lst - t.plst) (t.got - t.pgot)) = true := decide_eq_true hA
    rw [weigh_eq, wQ, if_pos hk, if_pos hk]
    simp (config := { maxSteps := 400000 }) only [go_sem, Tr.c, Tr.l, z1, z2, a1, k42, chgV, clearT, Sh.plain, shNe_ns, shNe_sl, shNe_sg, belL, AV.bel, simprocAttr]
    exact Ends.R [] (by decide) (by decide) rfl rfl (by simp [HpR, rn, hget_cons, clearT, Tr.c, Tr.l, Blk.ren, renL, AV.ren, belL, AV.bel, Sh.v, Sh.h])
  · have a1 : decide (2000 < max (t.lst - t.plst) (t.got - t.pgot)) = false := decide_eq_false hA
    have z3 : IntKind.i64.wrap (t.got - t.pgot - (t.lst - t.plst)) = t.got - t.pgot - (t.lst - t.plst) := wrapL (by omega) (by omega)
    have z4 : IntKind.i64.wrap (t.sum + (t.got - t.pgot - (t.lst - t.plst))) = wSum t := wrapL (by omega) (by omega)
    have hS : -1099511629776 ≤ wSum t ∧ wSum t ≤ 1099511629776 := by unfold wSum; omega
    have z5 : IntKind.i64.wrap (9 * t.smo) = 9 * t.smo := wrapL (by omega) (by omega)
    have z6 : IntKind.i64.wrap (1024 * wSum t) = 1024 * wSum t := wrapL (by omega) (by omega)
    have z7 : IntKind.i64.wrap (9 * t.smo + 1024 * wSum t) = 9 * t.smo + 1024 * wSum t := wrapL (by omega) (by omega)
    have hd : divOK (9 * t.smo + 1024 * wSum t) 10 = true := by simp only [divOK, Bool.and_eq_true, decide_eq_true_eq, inI_iff]; omega
    have z8 : (9 * t.smo + 1024 * wSum t) / 10 = wSmo t := rfl
    have z9 : IntKind.i64.wrap (t.cnt + 1) = t.cnt + 1 := wrapL (by omega) (by omega)
    have nx : nextPts [] (wPt t) = [wPt t] := rfl
    have hap : appQ [] (wPt t) = .sg { cells := [.i .i64 t.got, .i .i64 (wSmo t)], gr := some 2 } 0 1 := rfl
    have hr1 : rdL ptV 2 (.sg { cells := [.i .i64 t.got, .i .i64 (wSmo t)], gr := some 2 } 0 1) = some (nextPts [] (wPt t)) := rfl
    have gm : decide (16 * 1 ≤ growMax) = true := by decide
    have gm2 : decide (16 ≤ growMax) = true := by decide
    cases b1 : inI (-1048576) 1048576 (wSum t)
    · have hk : wKl t [] = true := by simp [wKl, b1]
      rw [weigh_eq, wQ, if_pos hk, if_pos hk]
      simp (config := { maxSteps := 400000 }) only [go_sem, Tr.c, Tr.l, z1, z2, z3, z4, z5, z6, z7, z8, z9, a1, hd, b1, k42, k43, kWi, intsB, unrows, intV, all1', chgV, clearT, Sh.plain, shNe_ns, shNe_sl, shNe_sg, belL, AV.bel, hr1, gm, gm2, simprocAttr]
      exact Ends.R [] (by decide) (by decide) rfl rfl (by simp [HpR, rn, hget_cons, clearT, Tr.c, Tr.l, Blk.ren, renL, AV.ren, belL, AV.bel, Sh.v, Sh.h])
    have hnl := next_len (p := wPt t) (l := []) (by decide)
    have hl2 : decide ((nextPts [] (wPt t)).length ≤ 1000000000000) = true := decide_eq_true (by omega)
    cases b2 : ptsB (nextPts [] (wPt t)) 2000
    · have hk : wKl t [] = true := by simp [wKl, b1, b2]
      rw [weigh_eq, wQ, if_pos hk, if_pos hk]
      simp (config := { maxSteps := 400000 }) only [go_sem, Tr.c, Tr.l, z1, z2, z3, z4, z5, z6, z7, z8, z9, a1, hd, b1, b2, hl2, k42, k43, k28, kWi, intsB, unrows, intV, all1', chgV, clearT, Sh.plain, shNe_ns, shNe_sl, shNe_sg, belL, AV.bel, hr1, gm, gm2, simprocAttr]
      exact Ends.R [] (by decide) (by decide) rfl rfl (by simp [HpR, rn, hget_cons, clearT, Tr.c, Tr.l, Blk.ren, renL, AV.ren, belL, AV.bel, Sh.v, Sh.h])
    have hk : wKl t [] = false := by simp [wKl, b1, b2, hA]
    have hnb := near_2000 b2
    have hl1 : decide (1 ≤ (nextPts [] (wPt t)).length) = true := decide_eq_true hnl.1
    have hcn : inI 0 60 (min (t.cnt + 1) 60) = true := inI_t (by omega) (by omega)
    have hm := trend_rng hnb hnl.1 hcn
    have jt := judge_thr (wAdd t) (trendN (nextPts [] (wPt t)) (min (t.cnt + 1) 60)) (t.lst - t.plst)
    rw [weigh_eq, wQ, hk]
    simp only [Bool.false_eq_true, if_false, wEnd]
    have hJ : okJ (wAdd t) (t.lst - t.plst) = true := by simp only [okJ, wAdd, ov, os, th, Bool.true_and]; exact inI_t (by omega) (by omega)
    generalize hmt : trendN (nextPts [] (wPt t)) (min (t.cnt + 1) 60) = m at *
    have hA2 : ∀ J : Tr, J.thr = (wAdd t).thr → okA J m (t.got - t.pgot) = true := fun J hj => by simp only [okA, hj, wAdd, th, Bool.true_and, Bool.and_eq_true]; exact ⟨inI_t (by omega) (by omega), inI_t (by omega) (by omega)⟩
    generalize hJJ : judgeT (wAdd t) m (t.lst - t.plst) = J at *
    have hM : M40 = 1099511627776 := rfl
    unfold wAdd at hJ hJJ
    rw [hM]
    have hA3 : okA ⟨J.att, J.st, J.past, J.fst, J.lst, J.got, J.plst, J.pgot, J.cnt, J.sum, J.smo, J.thr, J.ovr, J.ovs, min (max m (-1099511627776)) 1099511627776, J.sta⟩ m (t.got - t.pgot) = true := hA2 _ jt
    simp (config := { maxSteps := 400000 }) only [go_sem, Tr.c, Tr.l, z1, z2, z3, z4, z5, z6, z7, z8, z9, a1, hd, b1, b2, hnb, hl1, hcn, hJ, hJJ, hA3, k42, k43, k28, k44, k45, k46, kWi, intsB, unrows, intV, all1', chgV, Tr.eta, hmt, hl2, Sh.plain, shNe_ns, shNe_sl, shNe_sg, belL, AV.bel, hr1, gm, gm2, simprocAttr]
    (rw [hap]; exact Ends.R [(2, 3)] (by decide) (by decide) rfl rfl (by simp [HpR, rn, hget_cons, Tr.c, Tr.l, Blk.ren, renL, AV.ren, belL, AV.bel, Sh.v, Sh.h, nblt]))

theorem w35e (t : Tr) (sent got : Int) (h : wOK t [] = true) : FTL Try.prog 35 [.p 0 0] [(0, { cells := t.c (.sl 1 0 0 0) sent got }), (1, { cells := [] })] 2 (.tup []) ((0, { cells := (weighT t []).1.c ((wQ t []).v 2) sent got }) :: (wQ t []).h 2) 3 := by
  refine FTL.of_iw hT35 mo Try.func35 i35_eq (by simp [i35]) (iw_of_jw ?_)
  dsimp only [i35, T35]
  have W := wOK_to h
  obtain ⟨l1, l2, p1, p2, g1, g2, q1, q2, d1, d2, s1, s2, m1, m2, c1, c2, th, ov, os, ln⟩ := W
  have z1 : IntKind.i64.wrap (t.lst - t.plst) = t.lst - t.plst := wrapL (by omega) (by omega)
  have z2 : IntKind.i64.wrap (t.got - t.pgot) = t.got - t.pgot := wrapL (by omega) (by omega)

  by_cases hA : 2000 < max (t.lst - t.plst) (t.got - t.pgot)
  · have hk : wKl t [] = true := by simp [wKl, hA]
    have a1 : decide (2000 < max (t.lst - t.plst) (t.got - t.pgot)) = true := decide_eq_true hA
    rw [weigh_eq, wQ, if_pos hk, if_pos hk]
    simp (config := { maxSteps := 400000 }) only [go_sem, Tr.c, Tr.l, z1, z2, a1, k42, chgV, clearT, Sh.plain, shNe_ns, shNe_sl, shNe_sg, belL, AV.bel, simprocAttr]
    exact Ends.R [] (by decide) (by decide) rfl rfl (by simp [HpR, rn, hget_cons, clearT, Tr.c, Tr.l, Blk.ren, renL, AV.ren, belL, AV.bel, Sh.v, Sh.h])
  · have a1 : decide (2000 < max (t.lst - t.plst) (t.got - t.pgot)) = false := decide_eq_false hA
    have z3 : IntKind.i64.wrap (t.got - t.pgot - (t.lst - t.plst)) = t.got - t.pgot - (t.lst - t.plst) := wrapL (by omega) (by omega)
    have z4 : IntKind.i64.wrap (t.sum + (t.got - t.pgot - (t.lst - t.plst))) = wSum t := wrapL (by omega) (by omega)
    have hS : -1099511629776 ≤ wSum t ∧ wSum t ≤ 1099511629776 := by unfold wSum; omega
    have z5 : IntKind.i64.wrap (9 * t.smo) = 9 * t.smo := wrapL (by omega) (by omega)
    have z6 : IntKind.i64.wrap (1024 * wSum t) = 1024 * wSum t := wrapL (by omega) (by omega)
    have z7 : IntKind.i64.wrap (9 * t.smo + 1024 * wSum t) = 9 * t.smo + 1024 * wSum t := wrapL (by omega) (by omega)
    have hd : divOK (9 * t.smo + 1024 * wSum t) 10 = true := by simp only [divOK, Bool.and_eq_true, decide_eq_true_eq, inI_iff]; omega
    have z8 : (9 * t.smo + 1024 * wSum t) / 10 = wSmo t := rfl
    have z9 : IntKind.i64.wrap (t.cnt + 1) = t.cnt + 1 := wrapL (by omega) (by omega)
    have nx : nextPts [] (wPt t) = [wPt t] := rfl
    have hap : appQ [] (wPt t) = .sg { cells := [.i .i64 t.got, .i .i64 (wSmo t)], gr := some 2 } 0 1 := rfl
    have hr1 : rdL ptV 2 (.sg { cells := [.i .i64 t.got, .i .i64 (wSmo t)], gr := some 2 } 0 1) = some (nextPts [] (wPt t)) := rfl
    have gm : decide (16 * 1 ≤ growMax) = true := by decide
    have gm2 : decide (16 ≤ growMax) = true := by decide
    cases b1 : inI (-1048576) 1048576 (wSum t)
    · have hk : wKl t [] = true := by simp [wKl, b1]
      rw [weigh_eq, wQ, if_pos hk, if_pos hk]
      simp (config := { maxSteps := 400000 }) only [go_sem, Tr.c, Tr.l, z1, z2, z3, z4, z5, z6, z7, z8, z9, a1, hd, b1, k42, k43, kWi, intsB, unrows, intV, all1', chgV, clearT, Sh.plain, shNe_ns, shNe_sl, shNe_sg, belL, AV.bel, hr1, gm, gm2, simprocAttr]
      exact Ends.R [] (by decide) (by decide) rfl rfl (by simp [HpR, rn, hget_cons, clearT, Tr.c, Tr.l, Blk.ren, renL, AV.ren, belL, AV.bel, Sh.v, Sh.h])
    have hnl := next_len (p := wPt t) (l := []) (by decide)
    have hl2 : decide ((nextPts [] (wPt t)).length ≤ 1000000000000) = true := decide_eq_true (by omega)
    cases b2 : ptsB (nextPts [] (wPt t)) 2000
    · have hk : wKl t [] = true := by simp [wKl, b1, b2]
      rw [weigh_eq, wQ, if_pos hk, if_pos hk]
      simp (config := { maxSteps := 400000 }) only [go_sem, Tr.c, Tr.l, z1, z2, z3, z4, z5, z6, z7, z8, z9, a1, hd, b1, b2, hl2, k42, k43, k28, kWi, intsB, unrows, intV, all1', chgV, clearT, Sh.plain, shNe_ns, shNe_sl, shNe_sg, belL, AV.bel, hr1, gm, gm2, simprocAttr]
      exact Ends.R [] (by decide) (by decide) rfl rfl (by simp [HpR, rn, hget_cons, clearT, Tr.c, Tr.l, Blk.ren, renL, AV.ren, belL, AV.bel, Sh.v, Sh.h])
    have hk : wKl t [] = false := by simp [wKl, b1, b2, hA]
    have hnb := near_2000 b2
    have hl1 : decide (1 ≤ (nextPts [] (wPt t)).length) = true := decide_eq_true hnl.1
    have hcn : inI 0 60 (min (t.cnt + 1) 60) = true := inI_t (by omega) (by omega)
    have hm := trend_rng hnb hnl.1 hcn
    have jt := judge_thr (wAdd t) (trendN (nextPts [] (wPt t)) (min (t.cnt + 1) 60)) (t.lst - t.plst)
    rw [weigh_eq, wQ, hk]
    simp only [Bool.false_eq_true, if_false, wEnd]
    have hJ : okJ (wAdd t) (t.lst - t.plst) = true := by simp only [okJ, wAdd, ov, os, th, Bool.true_and]; exact inI_t (by omega) (by omega)
    generalize hmt : trendN (nextPts [] (wPt t)) (min (t.cnt + 1) 60) = m at *
    have hA2 : ∀ J : Tr, J.thr = (wAdd t).thr → okA J m (t.got - t.pgot) = true := fun J hj => by simp only [okA, hj, wAdd, th, Bool.true_and, Bool.and_eq_true]; exact ⟨inI_t (by omega) (by omega), inI_t (by omega) (by omega)⟩
    generalize hJJ : judgeT (wAdd t) m (t.lst - t.plst) = J at *
    have hM : M40 = 1099511627776 := rfl
    unfold wAdd at hJ hJJ
    rw [hM]
    have hA3 : okA ⟨J.att, J.st, J.past, J.fst, J.lst, J.got, J.plst, J.pgot, J.cnt, J.sum, J.smo, J.thr, J.ovr, J.ovs, min (max m (-1099511627776)) 1099511627776, J.sta⟩ m (t.got - t.pgot) = true := hA2 _ jt
    simp (config := { maxSteps := 400000 }) only [go_sem, Tr.c, Tr.l, z1, z2, z3, z4, z5, z6, z7, z8, z9, a1, hd, b1, b2, hnb, hl1, hcn, hJ, hJJ, hA3, k42, k43, k28, k44, k45, k46, kWi, intsB, unrows, intV, all1', chgV, Tr.eta, hmt, hl2, Sh.plain, shNe_ns, shNe_sl, shNe_sg, belL, AV.bel, hr1, gm, gm2, simprocAttr]
    (rw [hap]; exact Ends.R [(2, 3)] (by decide) (by decide) rfl rfl (by simp [HpR, rn, hget_cons, Tr.c, Tr.l, Blk.ren, renL, AV.ren, belL, AV.bel, Sh.v, Sh.h, nblt]))

theorem w35g (t : Tr) (l : List Pt) (h1 : 1 ≤ l.length) (sent got : Int) (h : wOK t l = true) : FTL Try.prog 35 [.p 0 0] [(0, { cells := t.c (.sg 1 0 l.length) sent got }), (1, { cells := rows Pt.l l, gr := some 2 })] 2 (.tup []) ((0, { cells := (weighT t l).1.c ((wQ t l).v 2) sent got }) :: (wQ t l).h 2) 3 := by
  refine FTL.of_iw hT35 mo Try.func35 i35_eq (by simp [i35]) (iw_of_jw ?_)
  dsimp only [i35, T35]
  have W := wOK_to h
  obtain ⟨l1, l2, p1, p2, g1, g2, q1, q2, d1, d2, s1, s2, m1, m2, c1, c2, th, ov, os, ln⟩ := W
  have z1 : IntKind.i64.wrap (t.lst - t.plst) = t.lst - t.plst := wrapL (by omega) (by omega)
  have z2 : IntKind.i64.wrap (t.got - t.pgot) = t.got - t.pgot := wrapL (by omega) (by omega)
  have hrb0 := fun (m : Nat) (l : List Pt) => belL_mono0 (m := m) (rows Pt.l l) (rows_bel Pt.bel0)

  by_cases hA : 2000 < max (t.lst - t.plst) (t.got - t.pgot)
  · have hk : wKl t l = true := by simp [wKl, hA]
    have a1 : decide (2000 < max (t.lst - t.plst) (t.got - t.pgot)) = true := decide_eq_true hA
    rw [weigh_eq, wQ, if_pos hk, if_pos hk]
    simp (config := { maxSteps := 400000 }) only [go_sem, Tr.c, Tr.l, z1, z2, a1, k42, chgV, clearT, Sh.plain, shNe_ns, shNe_sl, shNe_sg, belL, AV.bel, hrb0, simprocAttr]
    exact Ends.R [] (by decide) (by decide) rfl rfl (by simp [HpR, rn, hget_cons, clearT, Tr.c, Tr.l, Blk.ren, renL, AV.ren, belL, AV.bel, Sh.v, Sh.h])
  · have a1 : decide (2000 < max (t.lst - t.plst) (t.got - t.pgot)) = false := decide_eq_false hA
    have z3 : IntKind.i64.wrap (t.got - t.pgot - (t.lst - t.plst)) = t.got - t.pgot - (t.lst - t.plst) := wrapL (by omega) (by omega)
    have z4 : IntKind.i64.wrap (t.sum + (t.got - t.pgot - (t.lst - t.plst))) = wSum t := wrapL (by omega) (by omega)
    have hS : -1099511629776 ≤ wSum t ∧ wSum t ≤ 1099511629776 := by unfold wSum; omega
    have z5 : IntKind.i64.wrap (9 * t.smo) = 9 * t.smo := wrapL (by omega) (by omega)
    have z6 : IntKind.i64.wrap (1024 * wSum t) = 1024 * wSum t := wrapL (by omega) (by omega)
    have z7 : IntKind.i64.wrap (9 * t.smo + 1024 * wSum t) = 9 * t.smo + 1024 * wSum t := wrapL (by omega) (by omega)
    have hd : divOK (9 * t.smo + 1024 * wSum t) 10 = true := by simp only [divOK, Bool.and_eq_true, decide_eq_true_eq, inI_iff]; omega
    have z8 : (9 * t.smo + 1024 * wSum t) / 10 = wSmo t := rfl
    have z9 : IntKind.i64.wrap (t.cnt + 1) = t.cnt + 1 := wrapL (by omega) (by omega)
    have hrl : (rows Pt.l l).length = l.length * 2 := rows_len Pt.len
    have hrb := fun m => belL_mono0 (m := m) (rows Pt.l l) (rows_bel Pt.bel0)
    have hrr := fun ψ => renL_fix0 (ψ := ψ) (rows Pt.l l) (rows_bel Pt.bel0)
    have gm : decide (16 * (l.length + 1) ≤ growMax) = true := decide_eq_true (by simp only [growMax]; omega)
    have e0 : decide (l.length = 0) = false := decide_eq_false (by omega)
    have hrw : rows Pt.l l ++ [.i .i64 t.got, .i .i64 (wSmo t)] = rows Pt.l (l ++ [wPt t]) := by rw [rows_append]; rfl
    by_cases h20 : 20 < l.length + 1
    · have hL20 : l.length = 20 := by omega
      have e1 : decide ((20 : Int) < ((l.length + 1 : Nat) : Int)) = true := decide_eq_true (by omega)
      have hap : appQ l (wPt t) = .sg { cells := rows Pt.l (l ++ [wPt t]), gr := some 2 } 2 l.length := by simp only [appQ, h20, if_true]
      have e2 : decide ((1 : Int) ≤ ((l.length + 1 : Nat) : Int) ∧ (0 : Int) ≤ ((l.length + 1 : Nat) : Int)) = true := decide_eq_true (by omega)
      have e3 : decide (False ∨ 1 < l.length + 1) = true := decide_eq_true (.inr (by omega))
      have hr1 : rdL ptV 2 (.sg { cells := rows Pt.l (l ++ [wPt t]), gr := some 2 } 2 l.length) = some (nextPts l (wPt t)) := by rw [← hap]; exact rd_pts (appQ_pts l (wPt t))
      cases b1 : inI (-1048576) 1048576 (wSum t)
      · have hk : wKl t l = true := by simp [wKl, b1]
        rw [weigh_eq, wQ, if_pos hk, if_pos hk]
        simp (config := { maxSteps := 400000 }) only [go_sem, Tr.c, Tr.l, z1, z2, z3, z4, z5, z6, z7, z8, z9, a1, hd, b1, k42, k43, kWi, intsB, unrows, intV, all1', chgV, clearT, Sh.plain, shNe_ns, shNe_sl, shNe_sg, belL, AV.bel, hrb0, hr1, gm, e0, e1, hrl, hrw, e2, e3, Nat.add_sub_cancel, simprocAttr]
        exact Ends.R [] (by decide) (by decide) rfl rfl (by simp [HpR, rn, hget_cons, clearT, Tr.c, Tr.l, Blk.ren, renL, AV.ren, belL, AV.bel, Sh.v, Sh.h])
      have hnl := next_len (p := wPt t) (l := l) ln
      have hl2 : decide ((nextPts l (wPt t)).length ≤ 1000000000000) = true := decide_eq_true (by omega)
      cases b2 : ptsB (nextPts l (wPt t)) 2000
      · have hk : wKl t l = true := by simp [wKl, b1, b2]
        rw [weigh_eq, wQ, if_pos hk, if_pos hk]
        simp (config := { maxSteps := 400000 }) only [go_sem, Tr.c, Tr.l, z1, z2, z3, z4, z5, z6, z7, z8, z9, a1, hd, b1, b2, hl2, k42, k43, k28, kWi, intsB, unrows, intV, all1', chgV, clearT, Sh.plain, shNe_ns, shNe_sl, shNe_sg, belL, AV.bel, hrb0, hr1, gm, e0, e1, hrl, hrw, e2, e3, Nat.add_sub_cancel, simprocAttr]
        exact Ends.R [] (by decide) (by decide) rfl rfl (by simp [HpR, rn, hget_cons, clearT, Tr.c, Tr.l, Blk.ren, renL, AV.ren, belL, AV.bel, Sh.v, Sh.h])
      have hk : wKl t l = false := by simp [wKl, b1, b2, hA]
      have hnb := near_2000 b2
      have hl1 : decide (1 ≤ (nextPts l (wPt t)).length) = true := decide_eq_true hnl.1
      have hcn : inI 0 60 (min (t.cnt + 1) 60) = true := inI_t (by omega) (by omega)
      have hm := trend_rng hnb hnl.1 hcn
      have jt := judge_thr (wAdd t) (trendN (nextPts l (wPt t)) (min (t.cnt + 1) 60)) (t.lst - t.plst)
      rw [weigh_eq, wQ, hk]
      simp only [Bool.false_eq_true, if_false, wEnd]
      have hJ : okJ (wAdd t) (t.lst - t.plst) = true := by simp only [okJ, wAdd, ov, os, th, Bool.true_and]; exact inI_t (by omega) (by omega)
      generalize hmt : trendN (nextPts l (wPt t)) (min (t.cnt + 1) 60) = m at *
      have hA2 : ∀ J : Tr, J.thr = (wAdd t).thr → okA J m (t.got - t.pgot) = true := fun J hj => by simp only [okA, hj, wAdd, th, Bool.true_and, Bool.and_eq_true]; exact ⟨inI_t (by omega) (by omega), inI_t (by omega) (by omega)⟩
      generalize hJJ : judgeT (wAdd t) m (t.lst - t.plst) = J at *
      have hM : M40 = 1099511627776 := rfl
      unfold wAdd at hJ hJJ
      rw [hM]
      have hA3 : okA ⟨J.att, J.st, J.past, J.fst, J.lst, J.got, J.plst, J.pgot, J.cnt, J.sum, J.smo, J.thr, J.ovr, J.ovs, min (max m (-1099511627776)) 1099511627776, J.sta⟩ m (t.got - t.pgot) = true := hA2 _ jt
      simp (config := { maxSteps := 400000 }) only [go_sem, Tr.c, Tr.l, z1, z2, z3, z4, z5, z6, z7, z8, z9, a1, hd, b1, b2, hnb, hl1, hcn, hJ, hJJ, hA3, k42, k43, k28, k44, k45, k46, kWi, intsB, unrows, intV, all1', chgV, Tr.eta, hmt, hl2, Sh.plain, shNe_ns, shNe_sl, shNe_sg, belL, AV.bel, hrb0, hr1, gm, e0, e1, hrl, hrw, e2, e3, Nat.add_sub_cancel, simprocAttr]
      (rw [hap]; exact Ends.R [(2, 3)] (by decide) (by decide) rfl rfl (by simp [HpR, rn, hget_cons, Tr.c, Tr.l, Blk.ren, renL, AV.ren, belL, AV.bel, Sh.v, Sh.h, nblt, renL_fix0 _ (rows_bel Pt.bel0), belL_mono0 _ (rows_bel Pt.bel0)]))
    · have e1 : decide ((20 : Int) < ((l.length + 1 : Nat) : Int)) = false := decide_eq_false (by omega)
      have hap : appQ l (wPt t) = .sg { cells := rows Pt.l (l ++ [wPt t]), gr := some 2 } 0 (l.length + 1) := by simp only [appQ, h20, if_false]
      have hr1 : rdL ptV 2 (.sg { cells := rows Pt.l (l ++ [wPt t]), gr := some 2 } 0 (l.length + 1)) = some (nextPts l (wPt t)) := by rw [← hap]; exact rd_pts (appQ_pts l (wPt t))
      cases b1 : inI (-1048576) 1048576 (wSum t)
      · have hk : wKl t l = true := by simp [wKl, b1]
        rw [weigh_eq, wQ, if_pos hk, if_pos hk]
        simp (config := { maxSteps := 400000 }) only [go_sem, Tr.c, Tr.l, z1, z2, z3, z4, z5, z6, z7, z8, z9, a1, hd, b1, k42, k43, kWi, intsB, unrows, intV, all1', chgV, clearT, Sh.plain, shNe_ns, shNe_sl, shNe_sg, belL, AV.bel, hrb0, hr1, gm, e0, e1, hrl, hrw, Nat.add_sub_cancel, simprocAttr]
        exact Ends.R [] (by decide) (by decide) rfl rfl (by simp [HpR, rn, hget_cons, clearT, Tr.c, Tr.l, Blk.ren, renL, AV.ren, belL, AV.bel, Sh.v, Sh.h])
      have hnl := next_len (p := wPt t) (l := l) ln
      have hl2 : decide ((nextPts l (wPt t)).length ≤ 1000000000000) = true := decide_eq_true (by omega)
      cases b2 : ptsB (nextPts l (wPt t)) 2000
      · have hk : wKl t l = true := by simp [wKl, b1, b2]
        rw [weigh_eq, wQ, if_pos hk, if_pos hk]
        simp (config := { maxSteps := 400000 }) only [go_sem, Tr.c, Tr.l, z1, z2, z3, z4, z5, z6, z7, z8, z9, a1, hd, b1, b2, hl2, k42, k43, k28, kWi, intsB, unrows, intV, all1', chgV, clearT, Sh.plain, shNe_ns, shNe_sl, shNe_sg, belL, AV.bel, hrb0, hr1, gm, e0, e1, hrl, hrw, Nat.add_sub_cancel, simprocAttr]
        exact Ends.R [] (by decide) (by decide) rfl rfl (by simp [HpR, rn, hget_cons, clearT, Tr.c, Tr.l, Blk.ren, renL, AV.ren, belL, AV.bel, Sh.v, Sh.h])
      have hk : wKl t l = false := by simp [wKl, b1, b2, hA]
      have hnb := near_2000 b2
      have hl1 : decide (1 ≤ (nextPts l (wPt t)).length) = true := decide_eq_true hnl.1
      have hcn : inI 0 60 (min (t.cnt + 1) 60) = true := inI_t (by omega) (by omega)
      have hm := trend_rng hnb hnl.1 hcn
      have jt := judge_thr (wAdd t) (trendN (nextPts l (wPt t)) (min (t.cnt + 1) 60)) (t.lst - t.plst)
      rw [weigh_eq, wQ, hk]
      simp only [Bool.false_eq_true, if_false, wEnd]
      have hJ : okJ (wAdd t) (t.lst - t.plst) = true := by simp only [okJ, wAdd, ov, os, th, Bool.true_and]; exact inI_t (by omega) (by omega)
      generalize hmt : trendN (nextPts l (wPt t)) (min (t.cnt + 1) 60) = m at *
      have hA2 : ∀ J : Tr, J.thr = (wAdd t).thr → okA J m (t.got - t.pgot) = true := fun J hj => by simp only [okA, hj, wAdd, th, Bool.true_and, Bool.and_eq_true]; exact ⟨inI_t (by omega) (by omega), inI_t (by omega) (by omega)⟩
      generalize hJJ : judgeT (wAdd t) m (t.lst - t.plst) = J at *
      have hM : M40 = 1099511627776 := rfl
      unfold wAdd at hJ hJJ
      rw [hM]
      have hA3 : okA ⟨J.att, J.st, J.past, J.fst, J.lst, J.got, J.plst, J.pgot, J.cnt, J.sum, J.smo, J.thr, J.ovr, J.ovs, min (max m (-1099511627776)) 1099511627776, J.sta⟩ m (t.got - t.pgot) = true := hA2 _ jt
      simp (config := { maxSteps := 400000 }) only [go_sem, Tr.c, Tr.l, z1, z2, z3, z4, z5, z6, z7, z8, z9, a1, hd, b1, b2, hnb, hl1, hcn, hJ, hJJ, hA3, k42, k43, k28, k44, k45, k46, kWi, intsB, unrows, intV, all1', chgV, Tr.eta, hmt, hl2, Sh.plain, shNe_ns, shNe_sl, shNe_sg, belL, AV.bel, hrb0, hr1, gm, e0, e1, hrl, hrw, Nat.add_sub_cancel, simprocAttr]
      (rw [hap]; exact Ends.R [(2, 3)] (by decide) (by decide) rfl rfl (by simp [HpR, rn, hget_cons, Tr.c, Tr.l, Blk.ren, renL, AV.ren, belL, AV.bel, Sh.v, Sh.h, nblt, renL_fix0 _ (rows_bel Pt.bel0), belL_mono0 _ (rows_bel Pt.bel0)]))

end Go.Proofs.Arr
