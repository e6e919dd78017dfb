/- Contracts of chapter 29: the reference's weigh; printed by arrc10.py. -/
import Derived.Test.YtiacdfhaopnekaaArrC9
namespace Go.Proofs.Arr
open Go.Ab
set_option maxRecDepth 100000
set_option maxHeartbeats 16000000
set_option linter.unusedSimpArgs false
set_option linter.unusedVariables false
def T37 : List (Nat × Ct) := [(47, k47), (48, k48), (36, k36), (39, k38), (49, k49)]
theorem hT37 : Sound Try.prog (cxT T37) := Sound.cons s47 <| Sound.cons s48 <| Sound.cons s36 <| Sound.cons s39 <| Sound.cons s49 Sound.nil
/-- May be weighed, and is not cleared for a pause; both ways of asking agree. -/
def rOK (t : Tr) (l : List Pt) (ds dg : Int) : Bool := wOK t l && decide (ds = t.lst - t.plst) && decide (dg = t.got - t.pgot) && decide (max ds dg ≤ 2000) && (ptsR (nextPts l (wPt t)) == ptsB (nextPts l (wPt t)) 2000)
def wU (t : Tr) (l : List Pt) (b : Nat) : AV := .agg ((weighT t l).1.l ((wQ t l).v b))
theorem hasS_n {h : Hp} {b : Nat} : hasS h .nil b := fun d kk hh => by simp [Sh.h, hget] at hh
theorem hasS_sl {h : Hp} {k : Blk} {o l c b : Nat} (hh : hget h b = some k) : hasS h (.sl k o l c) b := fun d kk h2 => by
  have := hget_mem h2; simp only [Sh.h, List.mem_singleton, Prod.mk.injEq] at this; obtain ⟨rfl, rfl⟩ := this; exact hh
theorem hasS_sg {h : Hp} {k : Blk} {o l b : Nat} (hh : hget h b = some k) : hasS h (.sg k o l) b := fun d kk h2 => by
  have := hget_mem h2; simp only [Sh.h, List.mem_singleton, Prod.mk.injEq] at this; obtain ⟨rfl, rfl⟩ := this; exact hh
theorem wU_ren (t : Tr) (l : List Pt) (ψ : Nat → Nat) : (wU t l 1).ren ψ = wU t l (ψ 1) := by simp [wU, AV.ren, Tr.l_ren]
theorem wU_bel (t : Tr) (l : List Pt) : (wU t l 1).bel 2 = true := by simp [wU, AV.bel, Tr.l_bel]
theorem wEnd_eq (t : Tr) (l : List Pt) : wEnd t l = jaT (wAdd t) (trendN (nextPts l (wPt t)) (min (t.cnt + 1) 60)) (t.lst - t.plst) (t.got - t.pgot) := rfl
theorem w37n (t : Tr) (h : wOK t [] = true) (hmax : max (t.lst - t.plst) (t.got - t.pgot) ≤ 2000) (hsame : ptsR (nextPts [] (wPt t)) = ptsB (nextPts [] (wPt t)) 2000) : FTL Try.prog 37 [.agg (t.l (.ns)), .i .i64 (t.lst - t.plst), .i .i64 (t.got - t.pgot)] [] 1 (wU t [] 1) ([] ++ (wQ t []).h 1) 2 := by
  refine FTL.of_iw hT37 mo Try.func37 i37_eq (by simp [i37]) (iw_of_jw ?_)
  dsimp only [i37, T37]
  obtain ⟨l1, l2, p1, p2, g1, g2, q1, q2, d1, d2, s1, s2, m1, m2, c1, c2, th, ov, os, ln⟩ := wOK_to h
  have fin : ∀ (k n : Nat) (r : Hp) (v : AV), k ≠ 0 → v = wU t [] k → hasS r Sh.nil 0 → hasS r (wQ t []) k → Go.Ab.Ends 1 v r n (wU t [] 1) ([] ++ (wQ t []).h 1) 2 := fun k n r v hk hv h1 h2 => Ends.s1n (s := Sh.nil) (U := wU t []) rfl (wQ_pts t []).pl hk hv (wU_ren t []) (wU_bel t []) h1 h2
  have hS : -1099511629776 ≤ wSum t ∧ wSum t ≤ 1099511629776 := by unfold wSum; omega
  have z3 : IntKind.i64.wrap (t.sum + (t.got - t.pgot)) = t.sum + (t.got - t.pgot) := wrapL (by omega) (by omega)
  have z4 : IntKind.i64.wrap (t.sum + (t.got - t.pgot) - (t.lst - t.plst)) = wSum t := by rw [wrapL (by omega) (by omega)]; unfold wSum; omega
  have z5 : IntKind.i64.wrap (9 * t.smo) = 9 * t.smo := wrapL (by omega) (by omega)
  have z6 : IntKind.i64.wrap (1024 * wSum t) = 1024 * wSum t := wrapL (by omega) (by omega)
  have z7 : IntKind.i64.wrap (9 * t.smo + 1024 * wSum t) = 9 * t.smo + 1024 * wSum t := wrapL (by omega) (by omega)
  have hd : divOK (9 * t.smo + 1024 * wSum t) 10 = true := by simp only [divOK, Bool.and_eq_true, decide_eq_true_eq, inI_iff]; omega
  have hb2 : decide ((10 : Int) ≤ 2147483648000000) = true := by decide
  have z8 : (9 * t.smo + 1024 * wSum t) / 10 = wSmo t := rfl
  have z9 : IntKind.i64.wrap (t.cnt + 1) = t.cnt + 1 := wrapL (by omega) (by omega)
  have hA : decide (2000 < max (t.lst - t.plst) (t.got - t.pgot)) = false := decide_eq_false (by omega)
  have hnl := next_len (p := wPt t) (l := []) ln
  have hl2 : decide ((nextPts [] (wPt t)).length ≤ 1000000000000) = true := decide_eq_true (by omega)
  have hr1 : rdL ptV 2 (.sg { cells := [.i .i64 t.got, .i .i64 (wSmo t)], gr := some 2 } 0 1) = some (nextPts [] (wPt t)) := rfl
  have gm : decide (16 * 1 ≤ growMax) = true := by decide
  have gm2 : decide (16 ≤ growMax) = true := by decide
  have hap : appQ [] (wPt t) = .sg { cells := [.i .i64 t.got, .i .i64 (wSmo t)], gr := some 2 } 0 1 := rfl
  cases b1 : inI (-1048576) 1048576 (wSum t)
  · have hk : wKl t [] = true := by simp only [wKl, b1, Bool.false_and, Bool.not_false, Bool.or_true]
    have hw : weighT t [] = (clearT t, []) := by rw [weigh_eq, hk]; rfl
    have hq : wQ t [] = .nil := by rw [wQ, hk]; rfl
    simp (config := { maxSteps := 400000 }) only [go_sem, Tr.l, z3, z4, z5, z6, z7, z8, z9, hd, hb2, hl2, k47, k48, k36, k38, k49, trV, Tr.eta, b1, clearT, hr1, gm, gm2, List.length_nil, Nat.zero_mul, List.take_zero, simprocAttr]
    exact fin 4 _ _ _ (by decide) (by simp only [wU, hw, hq, clearT, Tr.l, Sh.v]) (by first | exact hasS_n | exact hasS_sl (by simp [hget_cons]) | exact hasS_sg (by simp [hget_cons])) (by rw [hq]; intro d kk hh; simp [Sh.h, hget] at hh)
  cases b2 : ptsR (nextPts [] (wPt t))
  · rw [b2] at hsame
    have hk : wKl t [] = true := by simp only [wKl, ← hsame, Bool.and_false, Bool.not_false, Bool.or_true]
    have hw : weighT t [] = (clearT t, []) := by rw [weigh_eq, hk]; rfl
    have hq : wQ t [] = .nil := by rw [wQ, hk]; rfl
    simp (config := { maxSteps := 400000 }) only [go_sem, Tr.l, z3, z4, z5, z6, z7, z8, z9, hd, hb2, hl2, k47, k48, k36, k38, k49, trV, Tr.eta, b1, b2, clearT, hr1, gm, gm2, List.length_nil, Nat.zero_mul, List.take_zero, simprocAttr]
    exact fin 4 _ _ _ (by decide) (by simp only [wU, hw, hq, clearT, Tr.l, Sh.v]) (by first | exact hasS_n | exact hasS_sl (by simp [hget_cons]) | exact hasS_sg (by simp [hget_cons])) (by rw [hq]; intro d kk hh; simp [Sh.h, hget] at hh)
  have b3 : ptsB (nextPts [] (wPt t)) 2000 = true := by rw [← hsame]; exact b2
  have hk : wKl t [] = false := by simp only [wKl, hA, b1, b3, Bool.and_self, Bool.not_true, Bool.or_self]
  have hnb := near_2000 b3
  have hcn : inI 0 60 (min (t.cnt + 1) 60) = true := inI_t (by omega) (by omega)
  have hm := trend_rng hnb hnl.1 hcn
  have hw : weighT t [] = (wEnd t [], nextPts [] (wPt t)) := by rw [weigh_eq, hk]; rfl
  have hq : wQ t [] = appQ [] (wPt t) := by rw [wQ, hk]; rfl
  have hJ : ∀ m, -515396075520000000 ≤ m → m ≤ 515396075520000000 → okJA ⟨t.att, t.st, t.past, t.fst, t.lst, t.got, t.plst, t.pgot, min (t.cnt + 1) 60, wSum t, wSmo t, t.thr, t.ovr, t.ovs, t.bef, t.sta⟩ m (t.lst - t.plst) (t.got - t.pgot) = true := fun m hm1 hm2 => by
    simp only [okJA, okJ, okA, ov, os, th, Bool.true_and, Bool.and_eq_true, and_true]
    exact ⟨inI_t (by omega) (by omega), inI_t (by omega) (by omega), inI_t (by omega) (by omega)⟩
  rw [wEnd_eq] at hw
  have ht : trendN (nextPts [] (wPt t)) (min (t.cnt + 1) 60) = 0 := by
    have e : pX (nextPts [] (wPt t)) 0 = pX (nextPts [] (wPt t)) ((nextPts [] (wPt t)).length - 1) := rfl
    unfold trendN; rw [if_pos e]
  rw [ht] at hw
  have hJ0 := hJ 0 (by decide) (by decide)
  simp (config := { maxSteps := 400000 }) only [go_sem, Tr.l, z3, z4, z5, z6, z7, z8, z9, hd, hb2, hl2, k47, k48, k36, k38, k49, trV, Tr.eta, b1, b2, hJ0, hr1, gm, gm2, List.length_nil, Nat.zero_mul, List.take_zero, simprocAttr]
  exact fin 4 _ _ _ (by decide) (by simp only [wU, hw, hq, hap, wAdd, Tr.l, Sh.v]) (by first | exact hasS_n | exact hasS_sl (by simp [hget_cons]) | exact hasS_sg (by simp [hget_cons])) (by rw [hq, hap]; intro d kk hh; have := hget_mem hh; simp only [Sh.h, List.mem_singleton, Prod.mk.injEq] at this; obtain ⟨rfl, rfl⟩ := this; simp [hget_cons])
theorem w37e1 (t : Tr) (kb : Blk) (o cap : Nat) (hkb : belL 0 kb.cells = true) (h : wOK t [] = true) (hmax : max (t.lst - t.plst) (t.got - t.pgot) ≤ 2000) (hsame : ptsR (nextPts [] (wPt t)) = ptsB (nextPts [] (wPt t)) 2000) : FTL Try.prog 37 [.agg (t.l (.sl 0 o 0 cap)), .i .i64 (t.lst - t.plst), .i .i64 (t.got - t.pgot)] [(0, kb)] 1 (wU t [] 1) ([(0, kb)] ++ (wQ t []).h 1) 2 := by
  refine FTL.of_iw hT37 mo Try.func37 i37_eq (by simp [i37]) (iw_of_jw ?_)
  dsimp only [i37, T37]
  obtain ⟨l1, l2, p1, p2, g1, g2, q1, q2, d1, d2, s1, s2, m1, m2, c1, c2, th, ov, os, ln⟩ := wOK_to h
  have fin : ∀ (k n : Nat) (r : Hp) (v : AV), k ≠ 0 → v = wU t [] k → hasS r (Sh.sl kb o 0 cap) 0 → hasS r (wQ t []) k → Go.Ab.Ends 1 v r n (wU t [] 1) ([(0, kb)] ++ (wQ t []).h 1) 2 := fun k n r v hk hv h1 h2 => Ends.s1n (s := (Sh.sl kb o 0 cap)) (U := wU t []) hkb (wQ_pts t []).pl hk hv (wU_ren t []) (wU_bel t []) h1 h2
  have hS : -1099511629776 ≤ wSum t ∧ wSum t ≤ 1099511629776 := by unfold wSum; omega
  have z3 : IntKind.i64.wrap (t.sum + (t.got - t.pgot)) = t.sum + (t.got - t.pgot) := wrapL (by omega) (by omega)
  have z4 : IntKind.i64.wrap (t.sum + (t.got - t.pgot) - (t.lst - t.plst)) = wSum t := by rw [wrapL (by omega) (by omega)]; unfold wSum; omega
  have z5 : IntKind.i64.wrap (9 * t.smo) = 9 * t.smo := wrapL (by omega) (by omega)
  have z6 : IntKind.i64.wrap (1024 * wSum t) = 1024 * wSum t := wrapL (by omega) (by omega)
  have z7 : IntKind.i64.wrap (9 * t.smo + 1024 * wSum t) = 9 * t.smo + 1024 * wSum t := wrapL (by omega) (by omega)
  have hd : divOK (9 * t.smo + 1024 * wSum t) 10 = true := by simp only [divOK, Bool.and_eq_true, decide_eq_true_eq, inI_iff]; omega
  have hb2 : decide ((10 : Int) ≤ 2147483648000000) = true := by decide
  have z8 : (9 * t.smo + 1024 * wSum t) / 10 = wSmo t := rfl
  have z9 : IntKind.i64.wrap (t.cnt + 1) = t.cnt + 1 := wrapL (by omega) (by omega)
  have hA : decide (2000 < max (t.lst - t.plst) (t.got - t.pgot)) = false := decide_eq_false (by omega)
  have hnl := next_len (p := wPt t) (l := []) ln
  have hl2 : decide ((nextPts [] (wPt t)).length ≤ 1000000000000) = true := decide_eq_true (by omega)
  have hr1 : rdL ptV 2 (.sg { cells := [.i .i64 t.got, .i .i64 (wSmo t)], gr := some 2 } 0 1) = some (nextPts [] (wPt t)) := rfl
  have gm : decide (16 * 1 ≤ growMax) = true := by decide
  have gm2 : decide (16 ≤ growMax) = true := by decide
  have hap : appQ [] (wPt t) = .sg { cells := [.i .i64 t.got, .i .i64 (wSmo t)], gr := some 2 } 0 1 := rfl
  cases b1 : inI (-1048576) 1048576 (wSum t)
  · have hk : wKl t [] = true := by simp only [wKl, b1, Bool.false_and, Bool.not_false, Bool.or_true]
    have hw : weighT t [] = (clearT t, []) := by rw [weigh_eq, hk]; rfl
    have hq : wQ t [] = .nil := by rw [wQ, hk]; rfl
    simp (config := { maxSteps := 400000 }) only [go_sem, Tr.l, z3, z4, z5, z6, z7, z8, z9, hd, hb2, hl2, k47, k48, k36, k38, k49, trV, Tr.eta, b1, clearT, hr1, gm, gm2, List.length_nil, Nat.zero_mul, List.take_zero, simprocAttr]
    exact fin 4 _ _ _ (by decide) (by simp only [wU, hw, hq, clearT, Tr.l, Sh.v]) (by first | exact hasS_n | exact hasS_sl (by simp [hget_cons]) | exact hasS_sg (by simp [hget_cons])) (by rw [hq]; intro d kk hh; simp [Sh.h, hget] at hh)
  cases b2 : ptsR (nextPts [] (wPt t))
  · rw [b2] at hsame
    have hk : wKl t [] = true := by simp only [wKl, ← hsame, Bool.and_false, Bool.not_false, Bool.or_true]
    have hw : weighT t [] = (clearT t, []) := by rw [weigh_eq, hk]; rfl
    have hq : wQ t [] = .nil := by rw [wQ, hk]; rfl
    simp (config := { maxSteps := 400000 }) only [go_sem, Tr.l, z3, z4, z5, z6, z7, z8, z9, hd, hb2, hl2, k47, k48, k36, k38, k49, trV, Tr.eta, b1, b2, clearT, hr1, gm, gm2, List.length_nil, Nat.zero_mul, List.take_zero, simprocAttr]
    exact fin 4 _ _ _ (by decide) (by simp only [wU, hw, hq, clearT, Tr.l, Sh.v]) (by first | exact hasS_n | exact hasS_sl (by simp [hget_cons]) | exact hasS_sg (by simp [hget_cons])) (by rw [hq]; intro d kk hh; simp [Sh.h, hget] at hh)
  have b3 : ptsB (nextPts [] (wPt t)) 2000 = true := by rw [← hsame]; exact b2
  have hk : wKl t [] = false := by simp only [wKl, hA, b1, b3, Bool.and_self, Bool.not_true, Bool.or_self]
  have hnb := near_2000 b3
  have hcn : inI 0 60 (min (t.cnt + 1) 60) = true := inI_t (by omega) (by omega)
  have hm := trend_rng hnb hnl.1 hcn
  have hw : weighT t [] = (wEnd t [], nextPts [] (wPt t)) := by rw [weigh_eq, hk]; rfl
  have hq : wQ t [] = appQ [] (wPt t) := by rw [wQ, hk]; rfl
  have hJ : ∀ m, -515396075520000000 ≤ m → m ≤ 515396075520000000 → okJA ⟨t.att, t.st, t.past, t.fst, t.lst, t.got, t.plst, t.pgot, min (t.cnt + 1) 60, wSum t, wSmo t, t.thr, t.ovr, t.ovs, t.bef, t.sta⟩ m (t.lst - t.plst) (t.got - t.pgot) = true := fun m hm1 hm2 => by
    simp only [okJA, okJ, okA, ov, os, th, Bool.true_and, Bool.and_eq_true, and_true]
    exact ⟨inI_t (by omega) (by omega), inI_t (by omega) (by omega), inI_t (by omega) (by omega)⟩
  rw [wEnd_eq] at hw
  have ht : trendN (nextPts [] (wPt t)) (min (t.cnt + 1) 60) = 0 := by
    have e : pX (nextPts [] (wPt t)) 0 = pX (nextPts [] (wPt t)) ((nextPts [] (wPt t)).length - 1) := rfl
    unfold trendN; rw [if_pos e]
  rw [ht] at hw
  have hJ0 := hJ 0 (by decide) (by decide)
  simp (config := { maxSteps := 400000 }) only [go_sem, Tr.l, z3, z4, z5, z6, z7, z8, z9, hd, hb2, hl2, k47, k48, k36, k38, k49, trV, Tr.eta, b1, b2, hJ0, hr1, gm, gm2, List.length_nil, Nat.zero_mul, List.take_zero, simprocAttr]
  exact fin 4 _ _ _ (by decide) (by simp only [wU, hw, hq, hap, wAdd, Tr.l, Sh.v]) (by first | exact hasS_n | exact hasS_sl (by simp [hget_cons]) | exact hasS_sg (by simp [hget_cons])) (by rw [hq, hap]; intro d kk hh; have := hget_mem hh; simp only [Sh.h, List.mem_singleton, Prod.mk.injEq] at this; obtain ⟨rfl, rfl⟩ := this; simp [hget_cons])
theorem w37e2 (t : Tr) (kb : Blk) (o : Nat) (hkb : belL 0 kb.cells = true) (h : wOK t [] = true) (hmax : max (t.lst - t.plst) (t.got - t.pgot) ≤ 2000) (hsame : ptsR (nextPts [] (wPt t)) = ptsB (nextPts [] (wPt t)) 2000) : FTL Try.prog 37 [.agg (t.l (.sg 0 o 0)), .i .i64 (t.lst - t.plst), .i .i64 (t.got - t.pgot)] [(0, kb)] 1 (wU t [] 1) ([(0, kb)] ++ (wQ t []).h 1) 2 := by
  refine FTL.of_iw hT37 mo Try.func37 i37_eq (by simp [i37]) (iw_of_jw ?_)
  dsimp only [i37, T37]
  obtain ⟨l1, l2, p1, p2, g1, g2, q1, q2, d1, d2, s1, s2, m1, m2, c1, c2, th, ov, os, ln⟩ := wOK_to h
  have fin : ∀ (k n : Nat) (r : Hp) (v : AV), k ≠ 0 → v = wU t [] k → hasS r (Sh.sg kb o 0) 0 → hasS r (wQ t []) k → Go.Ab.Ends 1 v r n (wU t [] 1) ([(0, kb)] ++ (wQ t []).h 1) 2 := fun k n r v hk hv h1 h2 => Ends.s1n (s := (Sh.sg kb o 0)) (U := wU t []) hkb (wQ_pts t []).pl hk hv (wU_ren t []) (wU_bel t []) h1 h2
  have hS : -1099511629776 ≤ wSum t ∧ wSum t ≤ 1099511629776 := by unfold wSum; omega
  have z3 : IntKind.i64.wrap (t.sum + (t.got - t.pgot)) = t.sum + (t.got - t.pgot) := wrapL (by omega) (by omega)
  have z4 : IntKind.i64.wrap (t.sum + (t.got - t.pgot) - (t.lst - t.plst)) = wSum t := by rw [wrapL (by omega) (by omega)]; unfold wSum; omega
  have z5 : IntKind.i64.wrap (9 * t.smo) = 9 * t.smo := wrapL (by omega) (by omega)
  have z6 : IntKind.i64.wrap (1024 * wSum t) = 1024 * wSum t := wrapL (by omega) (by omega)
  have z7 : IntKind.i64.wrap (9 * t.smo + 1024 * wSum t) = 9 * t.smo + 1024 * wSum t := wrapL (by omega) (by omega)
  have hd : divOK (9 * t.smo + 1024 * wSum t) 10 = true := by simp only [divOK, Bool.and_eq_true, decide_eq_true_eq, inI_iff]; omega
  have hb2 : decide ((10 : Int) ≤ 2147483648000000) = true := by decide
  have z8 : (9 * t.smo + 1024 * wSum t) / 10 = wSmo t := rfl
  have z9 : IntKind.i64.wrap (t.cnt + 1) = t.cnt + 1 := wrapL (by omega) (by omega)
  have hA : decide (2000 < max (t.lst - t.plst) (t.got - t.pgot)) = false := decide_eq_false (by omega)
  have hnl := next_len (p := wPt t) (l := []) ln
  have hl2 : decide ((nextPts [] (wPt t)).length ≤ 1000000000000) = true := decide_eq_true (by omega)
  have hr1 : rdL ptV 2 (.sg { cells := [.i .i64 t.got, .i .i64 (wSmo t)], gr := some 2 } 0 1) = some (nextPts [] (wPt t)) := rfl
  have gm : decide (16 * 1 ≤ growMax) = true := by decide
  have gm2 : decide (16 ≤ growMax) = true := by decide
  have hap : appQ [] (wPt t) = .sg { cells := [.i .i64 t.got, .i .i64 (wSmo t)], gr := some 2 } 0 1 := rfl
  cases b1 : inI (-1048576) 1048576 (wSum t)
  · have hk : wKl t [] = true := by simp only [wKl, b1, Bool.false_and, Bool.not_false, Bool.or_true]
    have hw : weighT t [] = (clearT t, []) := by rw [weigh_eq, hk]; rfl
    have hq : wQ t [] = .nil := by rw [wQ, hk]; rfl
    simp (config := { maxSteps := 400000 }) only [go_sem, Tr.l, z3, z4, z5, z6, z7, z8, z9, hd, hb2, hl2, k47, k48, k36, k38, k49, trV, Tr.eta, b1, clearT, hr1, gm, gm2, List.length_nil, Nat.zero_mul, List.take_zero, simprocAttr]
    exact fin 4 _ _ _ (by decide) (by simp only [wU, hw, hq, clearT, Tr.l, Sh.v]) (by first | exact hasS_n | exact hasS_sl (by simp [hget_cons]) | exact hasS_sg (by simp [hget_cons])) (by rw [hq]; intro d kk hh; simp [Sh.h, hget] at hh)
  cases b2 : ptsR (nextPts [] (wPt t))
  · rw [b2] at hsame
    have hk : wKl t [] = true := by simp only [wKl, ← hsame, Bool.and_false, Bool.not_false, Bool.or_true]
    have hw : weighT t [] = (clearT t, []) := by rw [weigh_eq, hk]; rfl
    have hq : wQ t [] = .nil := by rw [wQ, hk]; rfl
    simp (config := { maxSteps := 400000 }) only [go_sem, Tr.l, z3, z4, z5, z6, z7, z8, z9, hd, hb2, hl2, k47, k48, k36, k38, k49, trV, Tr.eta, b1, b2, clearT, hr1, gm, gm2, List.length_nil, Nat.zero_mul, List.take_zero, simprocAttr]
    exact fin 4 _ _ _ (by decide) (by simp only [wU, hw, hq, clearT, Tr.l, Sh.v]) (by first | exact hasS_n | exact hasS_sl (by simp [hget_cons]) | exact hasS_sg (by simp [hget_cons])) (by rw [hq]; intro d kk hh; simp [Sh.h, hget] at hh)
  have b3 : ptsB (nextPts [] (wPt t)) 2000 = true := by rw [← hsame]; exact b2
  have hk : wKl t [] = false := by simp only [wKl, hA, b1, b3, Bool.and_self, Bool.not_true, Bool.or_self]
  have hnb := near_2000 b3
  have hcn : inI 0 60 (min (t.cnt + 1) 60) = true := inI_t (by omega) (by omega)
  have hm := trend_rng hnb hnl.1 hcn
  have hw : weighT t [] = (wEnd t [], nextPts [] (wPt t)) := by rw [weigh_eq, hk]; rfl
  have hq : wQ t [] = appQ [] (wPt t) := by rw [wQ, hk]; rfl
  have hJ : ∀ m, -515396075520000000 ≤ m → m ≤ 515396075520000000 → okJA ⟨t.att, t.st, t.past, t.fst, t.lst, t.got, t.plst, t.pgot, min (t.cnt + 1) 60, wSum t, wSmo t, t.thr, t.ovr, t.ovs, t.bef, t.sta⟩ m (t.lst - t.plst) (t.got - t.pgot) = true := fun m hm1 hm2 => by
    simp only [okJA, okJ, okA, ov, os, th, Bool.true_and, Bool.and_eq_true, and_true]
    exact ⟨inI_t (by omega) (by omega), inI_t (by omega) (by omega), inI_t (by omega) (by omega)⟩
  rw [wEnd_eq] at hw
  have ht : trendN (nextPts [] (wPt t)) (min (t.cnt + 1) 60) = 0 := by
    have e : pX (nextPts [] (wPt t)) 0 = pX (nextPts [] (wPt t)) ((nextPts [] (wPt t)).length - 1) := rfl
    unfold trendN; rw [if_pos e]
  rw [ht] at hw
  have hJ0 := hJ 0 (by decide) (by decide)
  simp (config := { maxSteps := 400000 }) only [go_sem, Tr.l, z3, z4, z5, z6, z7, z8, z9, hd, hb2, hl2, k47, k48, k36, k38, k49, trV, Tr.eta, b1, b2, hJ0, hr1, gm, gm2, List.length_nil, Nat.zero_mul, List.take_zero, simprocAttr]
  exact fin 4 _ _ _ (by decide) (by simp only [wU, hw, hq, hap, wAdd, Tr.l, Sh.v]) (by first | exact hasS_n | exact hasS_sl (by simp [hget_cons]) | exact hasS_sg (by simp [hget_cons])) (by rw [hq, hap]; intro d kk hh; have := hget_mem hh; simp only [Sh.h, List.mem_singleton, Prod.mk.injEq] at this; obtain ⟨rfl, rfl⟩ := this; simp [hget_cons])
theorem w37f1 (t : Tr) (kb : Blk) (o cap : Nat) (hkb : belL 0 kb.cells = true) (l : List Pt) (h1 : 1 ≤ l.length) (hc : cellsAt kb.cells o (l.length * 2) = rows Pt.l l) (h : wOK t l = true) (hmax : max (t.lst - t.plst) (t.got - t.pgot) ≤ 2000) (hsame : ptsR (nextPts l (wPt t)) = ptsB (nextPts l (wPt t)) 2000) : FTL Try.prog 37 [.agg (t.l (.sl 0 o l.length cap)), .i .i64 (t.lst - t.plst), .i .i64 (t.got - t.pgot)] [(0, kb)] 1 (wU t l 1) ([(0, kb)] ++ (wQ t l).h 1) 2 := by
  refine FTL.of_iw hT37 mo Try.func37 i37_eq (by simp [i37]) (iw_of_jw ?_)
  dsimp only [i37, T37]
  obtain ⟨l1, l2, p1, p2, g1, g2, q1, q2, d1, d2, s1, s2, m1, m2, c1, c2, th, ov, os, ln⟩ := wOK_to h
  have fin : ∀ (k n : Nat) (r : Hp) (v : AV), k ≠ 0 → v = wU t l k → hasS r (Sh.sl kb o l.length cap) 0 → hasS r (wQ t l) k → Go.Ab.Ends 1 v r n (wU t l 1) ([(0, kb)] ++ (wQ t l).h 1) 2 := fun k n r v hk hv h1 h2 => Ends.s1n (s := (Sh.sl kb o l.length cap)) (U := wU t l) hkb (wQ_pts t l).pl hk hv (wU_ren t l) (wU_bel t l) h1 h2
  have hS : -1099511629776 ≤ wSum t ∧ wSum t ≤ 1099511629776 := by unfold wSum; omega
  have z3 : IntKind.i64.wrap (t.sum + (t.got - t.pgot)) = t.sum + (t.got - t.pgot) := wrapL (by omega) (by omega)
  have z4 : IntKind.i64.wrap (t.sum + (t.got - t.pgot) - (t.lst - t.plst)) = wSum t := by rw [wrapL (by omega) (by omega)]; unfold wSum; omega
  have z5 : IntKind.i64.wrap (9 * t.smo) = 9 * t.smo := wrapL (by omega) (by omega)
  have z6 : IntKind.i64.wrap (1024 * wSum t) = 1024 * wSum t := wrapL (by omega) (by omega)
  have z7 : IntKind.i64.wrap (9 * t.smo + 1024 * wSum t) = 9 * t.smo + 1024 * wSum t := wrapL (by omega) (by omega)
  have hd : divOK (9 * t.smo + 1024 * wSum t) 10 = true := by simp only [divOK, Bool.and_eq_true, decide_eq_true_eq, inI_iff]; omega
  have hb2 : decide ((10 : Int) ≤ 2147483648000000) = true := by decide
  have z8 : (9 * t.smo + 1024 * wSum t) / 10 = wSmo t := rfl
  have z9 : IntKind.i64.wrap (t.cnt + 1) = t.cnt + 1 := wrapL (by omega) (by omega)
  have hA : decide (2000 < max (t.lst - t.plst) (t.got - t.pgot)) = false := decide_eq_false (by omega)
  have hnl := next_len (p := wPt t) (l := l) ln
  have hl2 : decide ((nextPts l (wPt t)).length ≤ 1000000000000) = true := decide_eq_true (by omega)
  have hc' : List.take (l.length * 2) (List.drop o kb.cells) = rows Pt.l l := hc
  have hrl : (rows Pt.l l).length = l.length * 2 := rows_len Pt.len
  have gm0 : decide (16 * l.length ≤ growMax) = true := decide_eq_true (by simp only [growMax]; omega)
  have gm : decide (16 * (l.length + 1) ≤ growMax) = true := decide_eq_true (by simp only [growMax]; omega)
  have e0 : decide (l.length = 0) = false := decide_eq_false (by omega)
  have hrw : rows Pt.l l ++ [.i .i64 t.got, .i .i64 (wSmo t)] = rows Pt.l (l ++ [wPt t]) := by rw [rows_append]; rfl
  have hat := at_of ((appQ_pts l (wPt t)).cells ((appQ_pts l (wPt t)).ne (by intro e; rw [e] at hnl; simp at hnl))).1
  have x0 := hat.x 0 (by omega)
  have xl := hat.x ((nextPts l (wPt t)).length - 1) (by omega)
  rw [Nat.zero_mul, Nat.add_zero] at x0
  by_cases h20 : 20 < l.length + 1
  · have hL20 : l.length = 20 := by omega
    have e1 : decide ((20 : Int) < ((l.length + 1 : Nat) : Int)) = true := decide_eq_true (by omega)
    have hap : appQ l (wPt t) = .sg { cells := rows Pt.l (l ++ [wPt t]), gr := some 2 } 2 l.length := by simp only [appQ, h20, if_true]
    have hNl : (nextPts l (wPt t)).length = l.length := by simp only [nextPts, h20, if_true]; simp
    have e2 : decide ((1 : Int) ≤ ((l.length + 1 : Nat) : Int) ∧ (0 : Int) ≤ ((l.length + 1 : Nat) : Int)) = true := decide_eq_true (by omega)
    have e3 : decide (False ∨ 1 < l.length + 1) = true := decide_eq_true (.inr (by omega))
    have hr1 : rdL ptV 2 (.sg { cells := rows Pt.l (l ++ [wPt t]), gr := some 2 } 2 l.length) = some (nextPts l (wPt t)) := by rw [← hap]; exact rd_pts (appQ_pts l (wPt t))
    have c0 : decide ((0 : Int) < (l.length : Int)) = true := decide_eq_true (by omega)
    have q9 : IntKind.i64.wrap ((l.length : Int) - 1) = ((l.length - 1 : Nat) : Int) := by rw [wrapL (by omega) (by omega)]; omega
    have c9 : decide (0 ≤ ((l.length - 1 : Nat) : Int) ∧ ((l.length - 1 : Nat) : Int) < (l.length : Int)) = true := decide_eq_true (by omega)
    rw [hap, hNl] at xl
    rw [hap] at x0
    simp only [Sh.blk, Sh.o] at x0 xl
    cases b1 : inI (-1048576) 1048576 (wSum t)
    · have hk : wKl t l = true := by simp only [wKl, b1, Bool.false_and, Bool.not_false, Bool.or_true]
      have hw : weighT t l = (clearT t, []) := by rw [weigh_eq, hk]; rfl
      have hq : wQ t l = .nil := by rw [wQ, hk]; rfl
      simp (config := { maxSteps := 400000 }) only [go_sem, Tr.l, z3, z4, z5, z6, z7, z8, z9, hd, hb2, hl2, k47, k48, k36, k38, k49, trV, Tr.eta, b1, clearT, hr1, gm0, gm, e0, e1, hrl, hrw, hc', x0, xl, c0, q9, c9, Nat.add_sub_cancel, e2, e3, simprocAttr]
      exact fin 5 _ _ _ (by decide) (by simp only [wU, hw, hq, clearT, Tr.l, Sh.v]) (by first | exact hasS_n | exact hasS_sl (by simp [hget_cons]) | exact hasS_sg (by simp [hget_cons])) (by rw [hq]; intro d kk hh; simp [Sh.h, hget] at hh)
    cases b2 : ptsR (nextPts l (wPt t))
    · rw [b2] at hsame
      have hk : wKl t l = true := by simp only [wKl, ← hsame, Bool.and_false, Bool.not_false, Bool.or_true]
      have hw : weighT t l = (clearT t, []) := by rw [weigh_eq, hk]; rfl
      have hq : wQ t l = .nil := by rw [wQ, hk]; rfl
      simp (config := { maxSteps := 400000 }) only [go_sem, Tr.l, z3, z4, z5, z6, z7, z8, z9, hd, hb2, hl2, k47, k48, k36, k38, k49, trV, Tr.eta, b1, b2, clearT, hr1, gm0, gm, e0, e1, hrl, hrw, hc', x0, xl, c0, q9, c9, Nat.add_sub_cancel, e2, e3, simprocAttr]
      exact fin 5 _ _ _ (by decide) (by simp only [wU, hw, hq, clearT, Tr.l, Sh.v]) (by first | exact hasS_n | exact hasS_sl (by simp [hget_cons]) | exact hasS_sg (by simp [hget_cons])) (by rw [hq]; intro d kk hh; simp [Sh.h, hget] at hh)
    have b3 : ptsB (nextPts l (wPt t)) 2000 = true := by rw [← hsame]; exact b2
    have hk : wKl t l = false := by simp only [wKl, hA, b1, b3, Bool.and_self, Bool.not_true, Bool.or_self]
    have hnb := near_2000 b3
    have hcn : inI 0 60 (min (t.cnt + 1) 60) = true := inI_t (by omega) (by omega)
    have hm := trend_rng hnb hnl.1 hcn
    have hw : weighT t l = (wEnd t l, nextPts l (wPt t)) := by rw [weigh_eq, hk]; rfl
    have hq : wQ t l = appQ l (wPt t) := by rw [wQ, hk]; rfl
    have hJ : ∀ m, -515396075520000000 ≤ m → m ≤ 515396075520000000 → okJA ⟨t.att, t.st, t.past, t.fst, t.lst, t.got, t.plst, t.pgot, min (t.cnt + 1) 60, wSum t, wSmo t, t.thr, t.ovr, t.ovs, t.bef, t.sta⟩ m (t.lst - t.plst) (t.got - t.pgot) = true := fun m hm1 hm2 => by
      simp only [okJA, okJ, okA, ov, os, th, Bool.true_and, Bool.and_eq_true, and_true]
      exact ⟨inI_t (by omega) (by omega), inI_t (by omega) (by omega), inI_t (by omega) (by omega)⟩
    rw [wEnd_eq] at hw
    by_cases hX : pX (nextPts l (wPt t)) 0 = pX (nextPts l (wPt t)) (l.length - 1)
    · have ht : trendN (nextPts l (wPt t)) (min (t.cnt + 1) 60) = 0 := by simp only [trendN, hNl, hX, if_true]
      rw [ht] at hw
      have hJ0 := hJ 0 (by decide) (by decide)
      have hX1 : (pX (nextPts l (wPt t)) 0 != pX (nextPts l (wPt t)) (l.length - 1)) = false := by simp [hX]
      simp (config := { maxSteps := 400000 }) only [go_sem, Tr.l, z3, z4, z5, z6, z7, z8, z9, hd, hb2, hl2, k47, k48, k36, k38, k49, trV, Tr.eta, b1, b2, hJ0, hX1, hr1, gm0, gm, e0, e1, hrl, hrw, hc', x0, xl, c0, q9, c9, Nat.add_sub_cancel, e2, e3, simprocAttr]
      exact fin 5 _ _ _ (by decide) (by simp only [wU, hw, hq, hap, wAdd, Tr.l, Sh.v]) (by first | exact hasS_n | exact hasS_sl (by simp [hget_cons]) | exact hasS_sg (by simp [hget_cons])) (by rw [hq, hap]; intro d kk hh; have := hget_mem hh; simp only [Sh.h, List.mem_singleton, Prod.mk.injEq] at this; obtain ⟨rfl, rfl⟩ := this; simp [hget_cons])
    · have hX1 : (pX (nextPts l (wPt t)) 0 != pX (nextPts l (wPt t)) (l.length - 1)) = true := by simp [hX]
      have ht : trendN (nextPts l (wPt t)) (min (t.cnt + 1) 60) = 4 * min (t.cnt + 1) 60 * lineN (nextPts l (wPt t)) / lineD (nextPts l (wPt t)) := by simp only [trendN, hNl, hX, if_false]
      have hD := lineD_pos (l := nextPts l (wPt t)) hnl.1 (by rw [hNl]; exact fun e => hX e.symm)
      have n1 := line_N hnb
      have n2 := line_D hnb
      have hcc : 0 ≤ min (t.cnt + 1) 60 ∧ min (t.cnt + 1) 60 ≤ 60 := by omega
      have mm := mul_rng (A := 240) (B := 2147483648000000) (x := 4 * min (t.cnt + 1) 60) (y := lineN (nextPts l (wPt t))) (by omega) (by omega) n1.1 n1.2 (by decide) (by decide)
      have y1 : IntKind.i64.wrap (4 * min (t.cnt + 1) 60) = 4 * min (t.cnt + 1) 60 := wrapL (by omega) (by omega)
      have y2 : IntKind.i64.wrap (4 * min (t.cnt + 1) 60 * lineN (nextPts l (wPt t))) = 4 * min (t.cnt + 1) 60 * lineN (nextPts l (wPt t)) := wrapL (by omega) (by omega)
      have hd2 : divOK (4 * min (t.cnt + 1) 60 * lineN (nextPts l (wPt t))) (lineD (nextPts l (wPt t))) = true := by
        simp only [divOK, Bool.and_eq_true, decide_eq_true_eq, inI_iff]; omega
      have hb3 : decide (lineD (nextPts l (wPt t)) ≤ 2147483648000000) = true := decide_eq_true (by omega)
      have hJ0 := hJ _ hm.1 hm.2
      rw [ht] at hw hJ0
      simp (config := { maxSteps := 400000 }) only [go_sem, Tr.l, z3, z4, z5, z6, z7, z8, z9, hd, hb2, hl2, k47, k48, k36, k38, k49, trV, Tr.eta, b1, b2, hJ0, hX1, y1, y2, hd2, hb3, hnb, hr1, gm0, gm, e0, e1, hrl, hrw, hc', x0, xl, c0, q9, c9, Nat.add_sub_cancel, e2, e3, simprocAttr]
      exact fin 5 _ _ _ (by decide) (by simp only [wU, hw, hq, hap, wAdd, Tr.l, Sh.v]) (by first | exact hasS_n | exact hasS_sl (by simp [hget_cons]) | exact hasS_sg (by simp [hget_cons])) (by rw [hq, hap]; intro d kk hh; have := hget_mem hh; simp only [Sh.h, List.mem_singleton, Prod.mk.injEq] at this; obtain ⟨rfl, rfl⟩ := this; simp [hget_cons])
  · have e1 : decide ((20 : Int) < ((l.length + 1 : Nat) : Int)) = false := decide_eq_false (by omega)
    have hap : appQ l (wPt t) = .sg { cells := rows Pt.l (l ++ [wPt t]), gr := some 2 } 0 (l.length + 1) := by simp only [appQ, h20, if_false]
    have hNl : (nextPts l (wPt t)).length = l.length + 1 := by simp only [nextPts, h20, if_false]; simp
    have hr1 : rdL ptV 2 (.sg { cells := rows Pt.l (l ++ [wPt t]), gr := some 2 } 0 (l.length + 1)) = some (nextPts l (wPt t)) := by rw [← hap]; exact rd_pts (appQ_pts l (wPt t))
    have c0 : decide ((0 : Int) < ((l.length + 1 : Nat) : Int)) = true := decide_eq_true (by omega)
    have q9 : IntKind.i64.wrap (((l.length + 1 : Nat) : Int) - 1) = ((l.length : Nat) : Int) := by rw [wrapL (by omega) (by omega)]; omega
    have c9 : decide (0 ≤ ((l.length : Nat) : Int) ∧ ((l.length : Nat) : Int) < ((l.length + 1 : Nat) : Int)) = true := decide_eq_true (by omega)
    rw [hap, hNl] at xl
    rw [hap] at x0
    simp only [Sh.blk, Sh.o, Nat.add_sub_cancel] at x0 xl
    rw [Nat.zero_add] at xl
    cases b1 : inI (-1048576) 1048576 (wSum t)
    · have hk : wKl t l = true := by simp only [wKl, b1, Bool.false_and, Bool.not_false, Bool.or_true]
      have hw : weighT t l = (clearT t, []) := by rw [weigh_eq, hk]; rfl
      have hq : wQ t l = .nil := by rw [wQ, hk]; rfl
      simp (config := { maxSteps := 400000 }) only [go_sem, Tr.l, z3, z4, z5, z6, z7, z8, z9, hd, hb2, hl2, k47, k48, k36, k38, k49, trV, Tr.eta, b1, clearT, hr1, gm0, gm, e0, e1, hrl, hrw, hc', x0, xl, c0, q9, c9, Nat.add_sub_cancel, simprocAttr]
      exact fin 5 _ _ _ (by decide) (by simp only [wU, hw, hq, clearT, Tr.l, Sh.v]) (by first | exact hasS_n | exact hasS_sl (by simp [hget_cons]) | exact hasS_sg (by simp [hget_cons])) (by rw [hq]; intro d kk hh; simp [Sh.h, hget] at hh)
    cases b2 : ptsR (nextPts l (wPt t))
    · rw [b2] at hsame
      have hk : wKl t l = true := by simp only [wKl, ← hsame, Bool.and_false, Bool.not_false, Bool.or_true]
      have hw : weighT t l = (clearT t, []) := by rw [weigh_eq, hk]; rfl
      have hq : wQ t l = .nil := by rw [wQ, hk]; rfl
      simp (config := { maxSteps := 400000 }) only [go_sem, Tr.l, z3, z4, z5, z6, z7, z8, z9, hd, hb2, hl2, k47, k48, k36, k38, k49, trV, Tr.eta, b1, b2, clearT, hr1, gm0, gm, e0, e1, hrl, hrw, hc', x0, xl, c0, q9, c9, Nat.add_sub_cancel, simprocAttr]
      exact fin 5 _ _ _ (by decide) (by simp only [wU, hw, hq, clearT, Tr.l, Sh.v]) (by first | exact hasS_n | exact hasS_sl (by simp [hget_cons]) | exact hasS_sg (by simp [hget_cons])) (by rw [hq]; intro d kk hh; simp [Sh.h, hget] at hh)
    have b3 : ptsB (nextPts l (wPt t)) 2000 = true := by rw [← hsame]; exact b2
    have hk : wKl t l = false := by simp only [wKl, hA, b1, b3, Bool.and_self, Bool.not_true, Bool.or_self]
    have hnb := near_2000 b3
    have hcn : inI 0 60 (min (t.cnt + 1) 60) = true := inI_t (by omega) (by omega)
    have hm := trend_rng hnb hnl.1 hcn
    have hw : weighT t l = (wEnd t l, nextPts l (wPt t)) := by rw [weigh_eq, hk]; rfl
    have hq : wQ t l = appQ l (wPt t) := by rw [wQ, hk]; rfl
    have hJ : ∀ m, -515396075520000000 ≤ m → m ≤ 515396075520000000 → okJA ⟨t.att, t.st, t.past, t.fst, t.lst, t.got, t.plst, t.pgot, min (t.cnt + 1) 60, wSum t, wSmo t, t.thr, t.ovr, t.ovs, t.bef, t.sta⟩ m (t.lst - t.plst) (t.got - t.pgot) = true := fun m hm1 hm2 => by
      simp only [okJA, okJ, okA, ov, os, th, Bool.true_and, Bool.and_eq_true, and_true]
      exact ⟨inI_t (by omega) (by omega), inI_t (by omega) (by omega), inI_t (by omega) (by omega)⟩
    rw [wEnd_eq] at hw
    by_cases hX : pX (nextPts l (wPt t)) 0 = pX (nextPts l (wPt t)) (l.length)
    · have ht : trendN (nextPts l (wPt t)) (min (t.cnt + 1) 60) = 0 := by simp only [trendN, hNl, Nat.add_sub_cancel, hX, if_true]
      rw [ht] at hw
      have hJ0 := hJ 0 (by decide) (by decide)
      have hX1 : (pX (nextPts l (wPt t)) 0 != pX (nextPts l (wPt t)) (l.length)) = false := by simp [hX]
      simp (config := { maxSteps := 400000 }) only [go_sem, Tr.l, z3, z4, z5, z6, z7, z8, z9, hd, hb2, hl2, k47, k48, k36, k38, k49, trV, Tr.eta, b1, b2, hJ0, hX1, hr1, gm0, gm, e0, e1, hrl, hrw, hc', x0, xl, c0, q9, c9, Nat.add_sub_cancel, simprocAttr]
      exact fin 5 _ _ _ (by decide) (by simp only [wU, hw, hq, hap, wAdd, Tr.l, Sh.v]) (by first | exact hasS_n | exact hasS_sl (by simp [hget_cons]) | exact hasS_sg (by simp [hget_cons])) (by rw [hq, hap]; intro d kk hh; have := hget_mem hh; simp only [Sh.h, List.mem_singleton, Prod.mk.injEq] at this; obtain ⟨rfl, rfl⟩ := this; simp [hget_cons])
    · have hX1 : (pX (nextPts l (wPt t)) 0 != pX (nextPts l (wPt t)) (l.length)) = true := by simp [hX]
      have ht : trendN (nextPts l (wPt t)) (min (t.cnt + 1) 60) = 4 * min (t.cnt + 1) 60 * lineN (nextPts l (wPt t)) / lineD (nextPts l (wPt t)) := by simp only [trendN, hNl, Nat.add_sub_cancel, hX, if_false]
      have hD := lineD_pos (l := nextPts l (wPt t)) hnl.1 (by rw [hNl, Nat.add_sub_cancel]; exact fun e => hX e.symm)
      have n1 := line_N hnb
      have n2 := line_D hnb
      have hcc : 0 ≤ min (t.cnt + 1) 60 ∧ min (t.cnt + 1) 60 ≤ 60 := by omega
      have mm := mul_rng (A := 240) (B := 2147483648000000) (x := 4 * min (t.cnt + 1) 60) (y := lineN (nextPts l (wPt t))) (by omega) (by omega) n1.1 n1.2 (by decide) (by decide)
      have y1 : IntKind.i64.wrap (4 * min (t.cnt + 1) 60) = 4 * min (t.cnt + 1) 60 := wrapL (by omega) (by omega)
      have y2 : IntKind.i64.wrap (4 * min (t.cnt + 1) 60 * lineN (nextPts l (wPt t))) = 4 * min (t.cnt + 1) 60 * lineN (nextPts l (wPt t)) := wrapL (by omega) (by omega)
      have hd2 : divOK (4 * min (t.cnt + 1) 60 * lineN (nextPts l (wPt t))) (lineD (nextPts l (wPt t))) = true := by
        simp only [divOK, Bool.and_eq_true, decide_eq_true_eq, inI_iff]; omega
      have hb3 : decide (lineD (nextPts l (wPt t)) ≤ 2147483648000000) = true := decide_eq_true (by omega)
      have hJ0 := hJ _ hm.1 hm.2
      rw [ht] at hw hJ0
      simp (config := { maxSteps := 400000 }) only [go_sem, Tr.l, z3, z4, z5, z6, z7, z8, z9, hd, hb2, hl2, k47, k48, k36, k38, k49, trV, Tr.eta, b1, b2, hJ0, hX1, y1, y2, hd2, hb3, hnb, hr1, gm0, gm, e0, e1, hrl, hrw, hc', x0, xl, c0, q9, c9, Nat.add_sub_cancel, simprocAttr]
      exact fin 5 _ _ _ (by decide) (by simp only [wU, hw, hq, hap, wAdd, Tr.l, Sh.v]) (by first | exact hasS_n | exact hasS_sl (by simp [hget_cons]) | exact hasS_sg (by simp [hget_cons])) (by rw [hq, hap]; intro d kk hh; have := hget_mem hh; simp only [Sh.h, List.mem_singleton, Prod.mk.injEq] at this; obtain ⟨rfl, rfl⟩ := this; simp [hget_cons])
theorem w37f2 (t : Tr) (kb : Blk) (o : Nat) (hkb : belL 0 kb.cells = true) (l : List Pt) (h1 : 1 ≤ l.length) (hc : cellsAt kb.cells o (l.length * 2) = rows Pt.l l) (h : wOK t l = true) (hmax : max (t.lst - t.plst) (t.got - t.pgot) ≤ 2000) (hsame : ptsR (nextPts l (wPt t)) = ptsB (nextPts l (wPt t)) 2000) : FTL Try.prog 37 [.agg (t.l (.sg 0 o l.length)), .i .i64 (t.lst - t.plst), .i .i64 (t.got - t.pgot)] [(0, kb)] 1 (wU t l 1) ([(0, kb)] ++ (wQ t l).h 1) 2 := by
  refine FTL.of_iw hT37 mo Try.func37 i37_eq (by simp [i37]) (iw_of_jw ?_)
  dsimp only [i37, T37]
  obtain ⟨l1, l2, p1, p2, g1, g2, q1, q2, d1, d2, s1, s2, m1, m2, c1, c2, th, ov, os, ln⟩ := wOK_to h
  have fin : ∀ (k n : Nat) (r : Hp) (v : AV), k ≠ 0 → v = wU t l k → hasS r (Sh.sg kb o l.length) 0 → hasS r (wQ t l) k → Go.Ab.Ends 1 v r n (wU t l 1) ([(0, kb)] ++ (wQ t l).h 1) 2 := fun k n r v hk hv h1 h2 => Ends.s1n (s := (Sh.sg kb o l.length)) (U := wU t l) hkb (wQ_pts t l).pl hk hv (wU_ren t l) (wU_bel t l) h1 h2
  have hS : -1099511629776 ≤ wSum t ∧ wSum t ≤ 1099511629776 := by unfold wSum; omega
  have z3 : IntKind.i64.wrap (t.sum + (t.got - t.pgot)) = t.sum + (t.got - t.pgot) := wrapL (by omega) (by omega)
  have z4 : IntKind.i64.wrap (t.sum + (t.got - t.pgot) - (t.lst - t.plst)) = wSum t := by rw [wrapL (by omega) (by omega)]; unfold wSum; omega
  have z5 : IntKind.i64.wrap (9 * t.smo) = 9 * t.smo := wrapL (by omega) (by omega)
  have z6 : IntKind.i64.wrap (1024 * wSum t) = 1024 * wSum t := wrapL (by omega) (by omega)
  have z7 : IntKind.i64.wrap (9 * t.smo + 1024 * wSum t) = 9 * t.smo + 1024 * wSum t := wrapL (by omega) (by omega)
  have hd : divOK (9 * t.smo + 1024 * wSum t) 10 = true := by simp only [divOK, Bool.and_eq_true, decide_eq_true_eq, inI_iff]; omega
  have hb2 : decide ((10 : Int) ≤ 2147483648000000) = true := by decide
  have z8 : (9 * t.smo + 1024 * wSum t) / 10 = wSmo t := rfl
  have z9 : IntKind.i64.wrap (t.cnt + 1) = t.cnt + 1 := wrapL (by omega) (by omega)
  have hA : decide (2000 < max (t.lst - t.plst) (t.got - t.pgot)) = false := decide_eq_false (by omega)
  have hnl := next_len (p := wPt t) (l := l) ln
  have hl2 : decide ((nextPts l (wPt t)).length ≤ 1000000000000) = true := decide_eq_true (by omega)
  have hc' : List.take (l.length * 2) (List.drop o kb.cells) = rows Pt.l l := hc
  have hrl : (rows Pt.l l).length = l.length * 2 := rows_len Pt.len
  have gm0 : decide (16 * l.length ≤ growMax) = true := decide_eq_true (by simp only [growMax]; omega)
  have gm : decide (16 * (l.length + 1) ≤ growMax) = true := decide_eq_true (by simp only [growMax]; omega)
  have e0 : decide (l.length = 0) = false := decide_eq_false (by omega)
  have hrw : rows Pt.l l ++ [.i .i64 t.got, .i .i64 (wSmo t)] = rows Pt.l (l ++ [wPt t]) := by rw [rows_append]; rfl
  have hat := at_of ((appQ_pts l (wPt t)).cells ((appQ_pts l (wPt t)).ne (by intro e; rw [e] at hnl; simp at hnl))).1
  have x0 := hat.x 0 (by omega)
  have xl := hat.x ((nextPts l (wPt t)).length - 1) (by omega)
  rw [Nat.zero_mul, Nat.add_zero] at x0
  by_cases h20 : 20 < l.length + 1
  · have hL20 : l.length = 20 := by omega
    have e1 : decide ((20 : Int) < ((l.length + 1 : Nat) : Int)) = true := decide_eq_true (by omega)
    have hap : appQ l (wPt t) = .sg { cells := rows Pt.l (l ++ [wPt t]), gr := some 2 } 2 l.length := by simp only [appQ, h20, if_true]
    have hNl : (nextPts l (wPt t)).length = l.length := by simp only [nextPts, h20, if_true]; simp
    have e2 : decide ((1 : Int) ≤ ((l.length + 1 : Nat) : Int) ∧ (0 : Int) ≤ ((l.length + 1 : Nat) : Int)) = true := decide_eq_true (by omega)
    have e3 : decide (False ∨ 1 < l.length + 1) = true := decide_eq_true (.inr (by omega))
    have hr1 : rdL ptV 2 (.sg { cells := rows Pt.l (l ++ [wPt t]), gr := some 2 } 2 l.length) = some (nextPts l (wPt t)) := by rw [← hap]; exact rd_pts (appQ_pts l (wPt t))
    have c0 : decide ((0 : Int) < (l.length : Int)) = true := decide_eq_true (by omega)
    have q9 : IntKind.i64.wrap ((l.length : Int) - 1) = ((l.length - 1 : Nat) : Int) := by rw [wrapL (by omega) (by omega)]; omega
    have c9 : decide (0 ≤ ((l.length - 1 : Nat) : Int) ∧ ((l.length - 1 : Nat) : Int) < (l.length : Int)) = true := decide_eq_true (by omega)
    rw [hap, hNl] at xl
    rw [hap] at x0
    simp only [Sh.blk, Sh.o] at x0 xl
    cases b1 : inI (-1048576) 1048576 (wSum t)
    · have hk : wKl t l = true := by simp only [wKl, b1, Bool.false_and, Bool.not_false, Bool.or_true]
      have hw : weighT t l = (clearT t, []) := by rw [weigh_eq, hk]; rfl
      have hq : wQ t l = .nil := by rw [wQ, hk]; rfl
      simp (config := { maxSteps := 400000 }) only [go_sem, Tr.l, z3, z4, z5, z6, z7, z8, z9, hd, hb2, hl2, k47, k48, k36, k38, k49, trV, Tr.eta, b1, clearT, hr1, gm0, gm, e0, e1, hrl, hrw, hc', x0, xl, c0, q9, c9, Nat.add_sub_cancel, e2, e3, simprocAttr]
      exact fin 5 _ _ _ (by decide) (by simp only [wU, hw, hq, clearT, Tr.l, Sh.v]) (by first | exact hasS_n | exact hasS_sl (by simp [hget_cons]) | exact hasS_sg (by simp [hget_cons])) (by rw [hq]; intro d kk hh; simp [Sh.h, hget] at hh)
    cases b2 : ptsR (nextPts l (wPt t))
    · rw [b2] at hsame
      have hk : wKl t l = true := by simp only [wKl, ← hsame, Bool.and_false, Bool.not_false, Bool.or_true]
      have hw : weighT t l = (clearT t, []) := by rw [weigh_eq, hk]; rfl
      have hq : wQ t l = .nil := by rw [wQ, hk]; rfl
      simp (config := { maxSteps := 400000 }) only [go_sem, Tr.l, z3, z4, z5, z6, z7, z8, z9, hd, hb2, hl2, k47, k48, k36, k38, k49, trV, Tr.eta, b1, b2, clearT, hr1, gm0, gm, e0, e1, hrl, hrw, hc', x0, xl, c0, q9, c9, Nat.add_sub_cancel, e2, e3, simprocAttr]
      exact fin 5 _ _ _ (by decide) (by simp only [wU, hw, hq, clearT, Tr.l, Sh.v]) (by first | exact hasS_n | exact hasS_sl (by simp [hget_cons]) | exact hasS_sg (by simp [hget_cons])) (by rw [hq]; intro d kk hh; simp [Sh.h, hget] at hh)
    have b3 : ptsB (nextPts l (wPt t)) 2000 = true := by rw [← hsame]; exact b2
    have hk : wKl t l = false := by simp only [wKl, hA, b1, b3, Bool.and_self, Bool.not_true, Bool.or_self]
    have hnb := near_2000 b3
    have hcn : inI 0 60 (min (t.cnt + 1) 60) = true := inI_t (by omega) (by omega)
    have hm := trend_rng hnb hnl.1 hcn
    have hw : weighT t l = (wEnd t l, nextPts l (wPt t)) := by rw [weigh_eq, hk]; rfl
    have hq : wQ t l = appQ l (wPt t) := by rw [wQ, hk]; rfl
    have hJ : ∀ m, -515396075520000000 ≤ m → m ≤ 515396075520000000 → okJA ⟨t.att, t.st, t.past, t.fst, t.lst, t.got, t.plst, t.pgot, min (t.cnt + 1) 60, wSum t, wSmo t, t.thr, t.ovr, t.ovs, t.bef, t.sta⟩ m (t.lst - t.plst) (t.got - t.pgot) = true := fun m hm1 hm2 => by
      simp only [okJA, okJ, okA, ov, os, th, Bool.true_and, Bool.and_eq_true, and_true]
      exact ⟨inI_t (by omega) (by omega), inI_t (by omega) (by omega), inI_t (by omega) (by omega)⟩
    rw [wEnd_eq] at hw
    by_cases hX : pX (nextPts l (wPt t)) 0 = pX (nextPts l (wPt t)) (l.length - 1)
    · have ht : trendN (nextPts l (wPt t)) (min (t.cnt + 1) 60) = 0 := by simp only [trendN, hNl, hX, if_true]
      rw [ht] at hw
      have hJ0 := hJ 0 (by decide) (by decide)
      have hX1 : (pX (nextPts l (wPt t)) 0 != pX (nextPts l (wPt t)) (l.length - 1)) = false := by simp [hX]
      simp (config := { maxSteps := 400000 }) only [go_sem, Tr.l, z3, z4, z5, z6, z7, z8, z9, hd, hb2, hl2, k47, k48, k36, k38, k49, trV, Tr.eta, b1, b2, hJ0, hX1, hr1, gm0, gm, e0, e1, hrl, hrw, hc', x0, xl, c0, q9, c9, Nat.add_sub_cancel, e2, e3, simprocAttr]
      exact fin 5 _ _ _ (by decide) (by simp only [wU, hw, hq, hap, wAdd, Tr.l, Sh.v]) (by first | exact hasS_n | exact hasS_sl (by simp [hget_cons]) | exact hasS_sg (by simp [hget_cons])) (by rw [hq, hap]; intro d kk hh; have := hget_mem hh; simp only [Sh.h, List.mem_singleton, Prod.mk.injEq] at this; obtain ⟨rfl, rfl⟩ := this; simp [hget_cons])
    · have hX1 : (pX (nextPts l (wPt t)) 0 != pX (nextPts l (wPt t)) (l.length - 1)) = true := by simp [hX]
      have ht : trendN (nextPts l (wPt t)) (min (t.cnt + 1) 60) = 4 * min (t.cnt + 1) 60 * lineN (nextPts l (wPt t)) / lineD (nextPts l (wPt t)) := by simp only [trendN, hNl, hX, if_false]
      have hD := lineD_pos (l := nextPts l (wPt t)) hnl.1 (by rw [hNl]; exact fun e => hX e.symm)
      have n1 := line_N hnb
      have n2 := line_D hnb
      have hcc : 0 ≤ min (t.cnt + 1) 60 ∧ min (t.cnt + 1) 60 ≤ 60 := by omega
      have mm := mul_rng (A := 240) (B := 2147483648000000) (x := 4 * min (t.cnt + 1) 60) (y := lineN (nextPts l (wPt t))) (by omega) (by omega) n1.1 n1.2 (by decide) (by decide)
      have y1 : IntKind.i64.wrap (4 * min (t.cnt + 1) 60) = 4 * min (t.cnt + 1) 60 := wrapL (by omega) (by omega)
      have y2 : IntKind.i64.wrap (4 * min (t.cnt + 1) 60 * lineN (nextPts l (wPt t))) = 4 * min (t.cnt + 1) 60 * lineN (nextPts l (wPt t)) := wrapL (by omega) (by omega)
      have hd2 : divOK (4 * min (t.cnt + 1) 60 * lineN (nextPts l (wPt t))) (lineD (nextPts l (wPt t))) = true := by
        simp only [divOK, Bool.and_eq_true, decide_eq_true_eq, inI_iff]; omega
      have hb3 : decide (lineD (nextPts l (wPt t)) ≤ 2147483648000000) = true := decide_eq_true (by omega)
      have hJ0 := hJ _ hm.1 hm.2
      rw [ht] at hw hJ0
      simp (config := { maxSteps := 400000 }) only [go_sem, Tr.l, z3, z4, z5, z6, z7, z8, z9, hd, hb2, hl2, k47, k48, k36, k38, k49, trV, Tr.eta, b1, b2, hJ0, hX1, y1, y2, hd2, hb3, hnb, hr1, gm0, gm, e0, e1, hrl, hrw, hc', x0, xl, c0, q9, c9, Nat.add_sub_cancel, e2, e3, simprocAttr]
      exact fin 5 _ _ _ (by decide) (by simp only [wU, hw, hq, hap, wAdd, Tr.l, Sh.v]) (by first | exact hasS_n | exact hasS_sl (by simp [hget_cons]) | exact hasS_sg (by simp [hget_cons])) (by rw [hq, hap]; intro d kk hh; have := hget_mem hh; simp only [Sh.h, List.mem_singleton, Prod.mk.injEq] at this; obtain ⟨rfl, rfl⟩ := this; simp [hget_cons])
  · have e1 : decide ((20 : Int) < ((l.length + 1 : Nat) : Int)) = false := decide_eq_false (by omega)
    have hap : appQ l (wPt t) = .sg { cells := rows Pt.l (l ++ [wPt t]), gr := some 2 } 0 (l.length + 1) := by simp only [appQ, h20, if_false]
    have hNl : (nextPts l (wPt t)).length = l.length + 1 := by simp only [nextPts, h20, if_false]; simp
    have hr1 : rdL ptV 2 (.sg { cells := rows Pt.l (l ++ [wPt t]), gr := some 2 } 0 (l.length + 1)) = some (nextPts l (wPt t)) := by rw [← hap]; exact rd_pts (appQ_pts l (wPt t))
    have c0 : decide ((0 : Int) < ((l.length + 1 : Nat) : Int)) = true := decide_eq_true (by omega)
    have q9 : IntKind.i64.wrap (((l.length + 1 : Nat) : Int) - 1) = ((l.length : Nat) : Int) := by rw [wrapL (by omega) (by omega)]; omega
    have c9 : decide (0 ≤ ((l.length : Nat) : Int) ∧ ((l.length : Nat) : Int) < ((l.length + 1 : Nat) : Int)) = true := decide_eq_true (by omega)
    rw [hap, hNl] at xl
    rw [hap] at x0
    simp only [Sh.blk, Sh.o, Nat.add_sub_cancel] at x0 xl
    rw [Nat.zero_add] at xl
    cases b1 : inI (-1048576) 1048576 (wSum t)
    · have hk : wKl t l = true := by simp only [wKl, b1, Bool.false_and, Bool.not_false, Bool.or_true]
      have hw : weighT t l = (clearT t, []) := by rw [weigh_eq, hk]; rfl
      have hq : wQ t l = .nil := by rw [wQ, hk]; rfl
      simp (config := { maxSteps := 400000 }) only [go_sem, Tr.l, z3, z4, z5, z6, z7, z8, z9, hd, hb2, hl2, k47, k48, k36, k38, k49, trV, Tr.eta, b1, clearT, hr1, gm0, gm, e0, e1, hrl, hrw, hc', x0, xl, c0, q9, c9, Nat.add_sub_cancel, simprocAttr]
      exact fin 5 _ _ _ (by decide) (by simp only [wU, hw, hq, clearT, Tr.l, Sh.v]) (by first | exact hasS_n | exact hasS_sl (by simp [hget_cons]) | exact hasS_sg (by simp [hget_cons])) (by rw [hq]; intro d kk hh; simp [Sh.h, hget] at hh)
    cases b2 : ptsR (nextPts l (wPt t))
    · rw [b2] at hsame
      have hk : wKl t l = true := by simp only [wKl, ← hsame, Bool.and_false, Bool.not_false, Bool.or_true]
      have hw : weighT t l = (clearT t, []) := by rw [weigh_eq, hk]; rfl
      have hq : wQ t l = .nil := by rw [wQ, hk]; rfl
      simp (config := { maxSteps := 400000 }) only [go_sem, Tr.l, z3, z4, z5, z6, z7, z8, z9, hd, hb2, hl2, k47, k48, k36, k38, k49, trV, Tr.eta, b1, b2, clearT, hr1, gm0, gm, e0, e1, hrl, hrw, hc', x0, xl, c0, q9, c9, Nat.add_sub_cancel, simprocAttr]
      exact fin 5 _ _ _ (by decide) (by simp only [wU, hw, hq, clearT, Tr.l, Sh.v]) (by first | exact hasS_n | exact hasS_sl (by simp [hget_cons]) | exact hasS_sg (by simp [hget_cons])) (by rw [hq]; intro d kk hh; simp [Sh.h, hget] at hh)
    have b3 : ptsB (nextPts l (wPt t)) 2000 = true := by rw [← hsame]; exact b2
    have hk : wKl t l = false := by simp only [wKl, hA, b1, b3, Bool.and_self, Bool.not_true, Bool.or_self]
    have hnb := near_2000 b3
    have hcn : inI 0 60 (min (t.cnt + 1) 60) = true := inI_t (by omega) (by omega)
    have hm := trend_rng hnb hnl.1 hcn
    have hw : weighT t l = (wEnd t l, nextPts l (wPt t)) := by rw [weigh_eq, hk]; rfl
    have hq : wQ t l = appQ l (wPt t) := by rw [wQ, hk]; rfl
    have hJ : ∀ m, -515396075520000000 ≤ m → m ≤ 515396075520000000 → okJA ⟨t.att, t.st, t.past, t.fst, t.lst, t.got, t.plst, t.pgot, min (t.cnt + 1) 60, wSum t, wSmo t, t.thr, t.ovr, t.ovs, t.bef, t.sta⟩ m (t.lst - t.plst) (t.got - t.pgot) = true := fun m hm1 hm2 => by
      simp only [okJA, okJ, okA, ov, os, th, Bool.true_and, Bool.and_eq_true, and_true]
      exact ⟨inI_t (by omega) (by omega), inI_t (by omega) (by omega), inI_t (by omega) (by omega)⟩
    rw [wEnd_eq] at hw
    by_cases hX : pX (nextPts l (wPt t)) 0 = pX (nextPts l (wPt t)) (l.length)
    · have ht : trendN (nextPts l (wPt t)) (min (t.cnt + 1) 60) = 0 := by simp only [trendN, hNl, Nat.add_sub_cancel, hX, if_true]
      rw [ht] at hw
      have hJ0 := hJ 0 (by decide) (by decide)
      have hX1 : (pX (nextPts l (wPt t)) 0 != pX (nextPts l (wPt t)) (l.length)) = false := by simp [hX]
      simp (config := { maxSteps := 400000 }) only [go_sem, Tr.l, z3, z4, z5, z6, z7, z8, z9, hd, hb2, hl2, k47, k48, k36, k38, k49, trV, Tr.eta, b1, b2, hJ0, hX1, hr1, gm0, gm, e0, e1, hrl, hrw, hc', x0, xl, c0, q9, c9, Nat.add_sub_cancel, simprocAttr]
      exact fin 5 _ _ _ (by decide) (by simp only [wU, hw, hq, hap, wAdd, Tr.l, Sh.v]) (by first | exact hasS_n | exact hasS_sl (by simp [hget_cons]) | exact hasS_sg (by simp [hget_cons])) (by rw [hq, hap]; intro d kk hh; have := hget_mem hh; simp only [Sh.h, List.mem_singleton, Prod.mk.injEq] at this; obtain ⟨rfl, rfl⟩ := this; simp [hget_cons])
    · have hX1 : (pX (nextPts l (wPt t)) 0 != pX (nextPts l (wPt t)) (l.length)) = true := by simp [hX]
      have ht : trendN (nextPts l (wPt t)) (min (t.cnt + 1) 60) = 4 * min (t.cnt + 1) 60 * lineN (nextPts l (wPt t)) / lineD (nextPts l (wPt t)) := by simp only [trendN, hNl, Nat.add_sub_cancel, hX, if_false]
      have hD := lineD_pos (l := nextPts l (wPt t)) hnl.1 (by rw [hNl, Nat.add_sub_cancel]; exact fun e => hX e.symm)
      have n1 := line_N hnb
      have n2 := line_D hnb
      have hcc : 0 ≤ min (t.cnt + 1) 60 ∧ min (t.cnt + 1) 60 ≤ 60 := by omega
      have mm := mul_rng (A := 240) (B := 2147483648000000) (x := 4 * min (t.cnt + 1) 60) (y := lineN (nextPts l (wPt t))) (by omega) (by omega) n1.1 n1.2 (by decide) (by decide)
      have y1 : IntKind.i64.wrap (4 * min (t.cnt + 1) 60) = 4 * min (t.cnt + 1) 60 := wrapL (by omega) (by omega)
      have y2 : IntKind.i64.wrap (4 * min (t.cnt + 1) 60 * lineN (nextPts l (wPt t))) = 4 * min (t.cnt + 1) 60 * lineN (nextPts l (wPt t)) := wrapL (by omega) (by omega)
      have hd2 : divOK (4 * min (t.cnt + 1) 60 * lineN (nextPts l (wPt t))) (lineD (nextPts l (wPt t))) = true := by
        simp only [divOK, Bool.and_eq_true, decide_eq_true_eq, inI_iff]; omega
      have hb3 : decide (lineD (nextPts l (wPt t)) ≤ 2147483648000000) = true := decide_eq_true (by omega)
      have hJ0 := hJ _ hm.1 hm.2
      rw [ht] at hw hJ0
      simp (config := { maxSteps := 400000 }) only [go_sem, Tr.l, z3, z4, z5, z6, z7, z8, z9, hd, hb2, hl2, k47, k48, k36, k38, k49, trV, Tr.eta, b1, b2, hJ0, hX1, y1, y2, hd2, hb3, hnb, hr1, gm0, gm, e0, e1, hrl, hrw, hc', x0, xl, c0, q9, c9, Nat.add_sub_cancel, simprocAttr]
      exact fin 5 _ _ _ (by decide) (by simp only [wU, hw, hq, hap, wAdd, Tr.l, Sh.v]) (by first | exact hasS_n | exact hasS_sl (by simp [hget_cons]) | exact hasS_sg (by simp [hget_cons])) (by rw [hq, hap]; intro d kk hh; have := hget_mem hh; simp only [Sh.h, List.mem_singleton, Prod.mk.injEq] at this; obtain ⟨rfl, rfl⟩ := this; simp [hget_cons])
end Go.Proofs.Arr
