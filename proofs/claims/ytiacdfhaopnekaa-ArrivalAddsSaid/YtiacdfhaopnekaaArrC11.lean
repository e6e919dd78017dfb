/- Contracts of chapter 29: the reference's Add, Same; printed by arrc11.py. -/
import Derived.Test.YtiacdfhaopnekaaArrC10
namespace Go.Proofs.Arr
open Go.Ab
set_option maxRecDepth 100000
set_option maxHeartbeats 16000000
set_option linter.unusedSimpArgs false
set_option linter.unusedVariables false
theorem w37 (t : Tr) (s : Sh) (l : List Pt) (hs : Sh.pts s l) (ds dg : Int) (h : rOK t l ds dg = true) : FTL Try.prog 37 [.agg (t.l (s.v 0)), .i .i64 ds, .i .i64 dg] (s.h 0) 1 (wU t l 1) (s.h 0 ++ (wQ t l).h 1) 2 := by
  simp only [rOK, Bool.and_eq_true, decide_eq_true_eq, beq_iff_eq] at h
  obtain ⟨⟨⟨⟨h1, rfl⟩, rfl⟩, h4⟩, h5⟩ := h
  obtain ⟨g1, g2, g3⟩ := hs
  cases s with
  | nil =>
    have : l = [] := List.eq_nil_of_length_eq_zero g2.symm
    subst this; exact w37n t h1 h4 h5
  | sl k o n c =>
    simp only [Sh.len] at g2; subst g2
    by_cases h0 : l.length = 0
    · have : l = [] := List.eq_nil_of_length_eq_zero h0
      subst this; exact w37e1 t k o c g1 h1 h4 h5
    · exact w37f1 t k o c g1 l (by omega) g3 h1 h4 h5
  | sg k o n =>
    simp only [Sh.len] at g2; subst g2
    by_cases h0 : l.length = 0
    · have : l = [] := List.eq_nil_of_length_eq_zero h0
      subst this; exact w37e2 t k o g1 h1 h4 h5
    · exact w37f2 t k o g1 l (by omega) g3 h1 h4 h5
def k37 : Ct
  | [.agg c, .i .i64 ds, .i .i64 dg], h, n => (trV c).bind fun q => (shAt q.2 h).bind fun s => (rdL ptV 2 s).bind fun l => some (rOK q.1 l ds dg, { v := wU q.1 l (n + 1), n := n + 2, rd := shR q.2, nw := (wQ q.1 l).h (n + 1) })
  | _, _, _ => none
theorem s37 : SoundAt Try.prog 37 k37 := fun args h n c E hc ht => by
  unfold k37 at hc
  split at hc
  · rename_i ds dg
    simp only [Option.bind_eq_some_iff] at hc
    obtain ⟨q, hq, s, hs, l, hl, he⟩ := hc
    obtain ⟨t, v⟩ := q
    cases he
    have hp := pts_rd hl
    rw [trV_eq hq]
    have := CallOK.sh1n (n := n) (A := fun b => [.agg (t.l (s.v b)), .i .i64 ds, .i .i64 dg]) (U := wU t l) (t := wQ t l) (by kernel_rfl) (by simp [belL, AV.bel, Tr.l_bel]) hs hp.pl (wQ_pts t l).pl (wQ_fresh t l) (fun ψ => by simp [renL, AV.ren, Tr.l_ren]) (fun h0 i => by subst h0; rfl) (wU_ren t l) (w37 t s l hp ds dg ht)
    rwa [← (shAt_inv hs).1] at this
  · cases hc
theorem judge_past (t : Tr) (m ds : Int) : (judgeT t m ds).past = t.past := by
  unfold judgeT
  split
  · rfl
  · dsimp only; (repeat' split) <;> rfl
theorem weigh_past (t : Tr) (l : List Pt) : (weighT t l).1.past = t.past := by
  rw [weigh_eq]
  split
  · rfl
  · show (judgeT (wAdd t) _ _).past = _
    rw [judge_past]; rfl
def copyQ (l : List Pt) : Sh := if l.length = 0 then .sl { cells := [] } 0 0 0 else .sg { cells := rows Pt.l l, gr := some 2 } 0 l.length
theorem copyQ_pts (l : List Pt) : Sh.pts (copyQ l) l := by
  unfold copyQ
  split
  · rename_i h
    have : l = [] := List.eq_nil_of_length_eq_zero h
    subst this; exact ⟨rfl, rfl, rfl⟩
  · exact sg_pts l
theorem copyQ_fresh (l : List Pt) : (copyQ l).fresh = true := by unfold copyQ; split <;> rfl
def adrQ (t : Tr) (l : List Pt) (sent got : Int) : Sh :=
  if addE t l sent got ≠ 0 then .nil
  else if t.st && !(decide (sent < t.fst)) && !(decide (sent ≤ t.fst + 4)) && t.past then wQ { t with att := got } l
  else copyQ l
theorem adrQ_pts (t : Tr) (l : List Pt) (sent got : Int) : Sh.pts (adrQ t l sent got) (addS t l sent got).2 := by
  unfold adrQ addS
  by_cases h0 : addE t l sent got = 0
  · rw [if_neg (by simp [h0]), if_pos h0]
    unfold addT
    cases hst : t.st
    · simp only [Bool.false_and, Bool.false_eq_true, if_false, Bool.not_false, if_true]
      exact copyQ_pts l
    · by_cases h1 : sent < t.fst
      · simp only [h1, decide_true, Bool.not_true, Bool.and_false, Bool.false_and, Bool.false_eq_true, if_false, if_true]
        exact copyQ_pts l
      · by_cases h2 : sent ≤ t.fst + 4
        · simp only [h1, h2, decide_true, Bool.not_true, Bool.and_false, Bool.false_and, Bool.false_eq_true, if_false, if_true]
          exact copyQ_pts l
        · cases hp : t.past
          · simp only [h1, h2, decide_false, Bool.not_true, Bool.and_false, Bool.false_and, Bool.false_eq_true, if_false, cond_false]
            exact copyQ_pts l
          · simp only [h1, h2, decide_false, Bool.not_true, Bool.not_false, Bool.and_self, Bool.false_eq_true, if_false, if_true, cond_true]
            exact wQ_pts _ _
  · rw [if_pos h0, if_neg h0]
    exact nil_pts
theorem adrQ_fresh (t : Tr) (l : List Pt) (sent got : Int) : (adrQ t l sent got).fresh = true := by
  unfold adrQ
  split
  · rfl
  · split
    · exact wQ_fresh _ _
    · exact copyQ_fresh l
def adrU (t : Tr) (l : List Pt) (sent got : Int) (b : Nat) : AV := .tup [.agg ((addS t l sent got).1.l ((adrQ t l sent got).v b)), .i .i64 (addE t l sent got)]
theorem adrU_ren (t : Tr) (l : List Pt) (sent got : Int) (ψ : Nat → Nat) : (adrU t l sent got 1).ren ψ = adrU t l sent got (ψ 1) := by simp [adrU, AV.ren, renL, Tr.l_ren]
theorem adrU_bel (t : Tr) (l : List Pt) (sent got : Int) : (adrU t l sent got 1).bel 2 = true := by simp [adrU, AV.bel, belL, Tr.l_bel]
def T16 : List (Nat × Ct) := [(14, k14), (29, k29), (36, k36), (37, k37)]
theorem hT16 : Sound Try.prog (cxT T16) := Sound.cons s14 <| Sound.cons s29 <| Sound.cons s36 <| Sound.cons s37 Sound.nil
theorem w16n (t : Tr) (sent got : Int) : FTL Try.prog 16 [.agg (t.l (.ns)), .i .i64 sent, .i .i64 got] [] 1 (adrU t [] sent got 1) ([] ++ (adrQ t [] sent got).h 1) 2 := by
  refine FTL.of_iw hT16 mo Try.func16 i16_eq (by simp [i16]) (iw_of_jw ?_)
  dsimp only [i16, T16]
  have fin : ∀ (k n : Nat) (r : Hp) (v : AV), k ≠ 0 → v = adrU t [] sent got k → hasS r Sh.nil 0 → hasS r (adrQ t [] sent got) k → Go.Ab.Ends 1 v r n (adrU t [] sent got 1) ([] ++ (adrQ t [] sent got).h 1) 2 := fun k n r v hk hv h1 h2 => Ends.s1n (s := Sh.nil) (U := adrU t [] sent got) rfl (adrQ_pts t [] sent got).pl hk hv (adrU_ren t [] sent got) (adrU_bel t [] sent got) h1 h2
  have hge := goodR_eq t []
  have hrd0 : rdL ptV 2 Sh.nil = some [] := rd_pts nil_pts
  have hld : decide (([] : List Pt).length ≤ 1000000000000) = true := rfl
  have hcq : copyQ [] = .sl { cells := [] } 0 0 0 := rfl
  have hrd2 : rdL ptV 2 (.sl { cells := [] } 0 0 0) = some [] := rfl
  obtain ⟨att, st, past, fst, lst, gt, plst, pgot, cnt, sum, smo, thr, ovr, ovs, bef, sta⟩ := t
  generalize hU : adrU ⟨att, st, past, fst, lst, gt, plst, pgot, cnt, sum, smo, thr, ovr, ovs, bef, sta⟩ [] sent got 1 = U at *
  generalize hH : [] ++ (adrQ ⟨att, st, past, fst, lst, gt, plst, pgot, cnt, sum, smo, thr, ovr, ovs, bef, sta⟩ [] sent got).h 1 = H at *
  cases hg : good ⟨att, st, past, fst, lst, gt, plst, pgot, cnt, sum, smo, thr, ovr, ovs, bef, sta⟩ []
  · rw [hg] at hge
    have hE : addE ⟨att, st, past, fst, lst, gt, plst, pgot, cnt, sum, smo, thr, ovr, ovs, bef, sta⟩ [] sent got = 290 := by simp [addE, hg]
    have hQ : adrQ ⟨att, st, past, fst, lst, gt, plst, pgot, cnt, sum, smo, thr, ovr, ovs, bef, sta⟩ [] sent got = .nil := by simp [adrQ, hE]
    have hS : addS ⟨att, st, past, fst, lst, gt, plst, pgot, cnt, sum, smo, thr, ovr, ovs, bef, sta⟩ [] sent got = (zTr, []) := by simp [addS, hE]
    simp (config := { maxSteps := 400000 }) only [go_sem, Tr.l, k14, k29, k36, k37, trV, Tr.eta, hge, hrd0, hld, hrd2, List.length_nil, Nat.zero_mul, List.take_zero, simprocAttr]
    exact fin 1 _ _ _ (by decide) (by simp only [adrU, hS, hE, hQ, zTr, Tr.l, Sh.v]) (by first | exact hasS_n | exact hasS_sl (by simp [hget_cons, hget_skip]) | exact hasS_sg (by simp [hget_cons, hget_skip]) | (simp [hasS_cons, hasS_hit, hasS_hit0, hasS_skip]; done)) (by rw [hQ]; exact hasS_n)
  rw [hg] at hge
  cases ha : inI 0 1099511627776 sent
  · have ha' : (tm sent && tm got) = false := by simp [tm, M40, ha]
    have hE : addE ⟨att, st, past, fst, lst, gt, plst, pgot, cnt, sum, smo, thr, ovr, ovs, bef, sta⟩ [] sent got = 2 := by simp [addE, hg, ha']
    have hQ : adrQ ⟨att, st, past, fst, lst, gt, plst, pgot, cnt, sum, smo, thr, ovr, ovs, bef, sta⟩ [] sent got = .nil := by simp [adrQ, hE]
    have hS : addS ⟨att, st, past, fst, lst, gt, plst, pgot, cnt, sum, smo, thr, ovr, ovs, bef, sta⟩ [] sent got = (zTr, []) := by simp [addS, hE]
    simp (config := { maxSteps := 400000 }) only [go_sem, Tr.l, k14, k29, k36, k37, trV, Tr.eta, hge, hrd0, hld, hrd2, List.length_nil, Nat.zero_mul, List.take_zero, ha, simprocAttr]
    exact fin 1 _ _ _ (by decide) (by simp only [adrU, hS, hE, hQ, zTr, Tr.l, Sh.v]) (by first | exact hasS_n | exact hasS_sl (by simp [hget_cons, hget_skip]) | exact hasS_sg (by simp [hget_cons, hget_skip]) | (simp [hasS_cons, hasS_hit, hasS_hit0, hasS_skip]; done)) (by rw [hQ]; exact hasS_n)
  cases ha2 : inI 0 1099511627776 got
  · have ha' : (tm sent && tm got) = false := by simp [tm, M40, ha2]
    have hE : addE ⟨att, st, past, fst, lst, gt, plst, pgot, cnt, sum, smo, thr, ovr, ovs, bef, sta⟩ [] sent got = 2 := by simp [addE, hg, ha']
    have hQ : adrQ ⟨att, st, past, fst, lst, gt, plst, pgot, cnt, sum, smo, thr, ovr, ovs, bef, sta⟩ [] sent got = .nil := by simp [adrQ, hE]
    have hS : addS ⟨att, st, past, fst, lst, gt, plst, pgot, cnt, sum, smo, thr, ovr, ovs, bef, sta⟩ [] sent got = (zTr, []) := by simp [addS, hE]
    simp (config := { maxSteps := 400000 }) only [go_sem, Tr.l, k14, k29, k36, k37, trV, Tr.eta, hge, hrd0, hld, hrd2, List.length_nil, Nat.zero_mul, List.take_zero, ha, ha2, simprocAttr]
    exact fin 1 _ _ _ (by decide) (by simp only [adrU, hS, hE, hQ, zTr, Tr.l, Sh.v]) (by first | exact hasS_n | exact hasS_sl (by simp [hget_cons, hget_skip]) | exact hasS_sg (by simp [hget_cons, hget_skip]) | (simp [hasS_cons, hasS_hit, hasS_hit0, hasS_skip]; done)) (by rw [hQ]; exact hasS_n)
  have ha' : (tm sent && tm got) = true := by simp [tm, M40, ha, ha2]
  rcases Bool.eq_false_or_eq_true (decide (got < att)) with hb | hb
  · have hb' : decide (got < att) = true := hb
    have hE : addE ⟨att, st, past, fst, lst, gt, plst, pgot, cnt, sum, smo, thr, ovr, ovs, bef, sta⟩ [] sent got = 2 := by simp only [addE, hg, ha', hb]; rfl
    have hQ : adrQ ⟨att, st, past, fst, lst, gt, plst, pgot, cnt, sum, smo, thr, ovr, ovs, bef, sta⟩ [] sent got = .nil := by simp [adrQ, hE]
    have hS : addS ⟨att, st, past, fst, lst, gt, plst, pgot, cnt, sum, smo, thr, ovr, ovs, bef, sta⟩ [] sent got = (zTr, []) := by simp [addS, hE]
    simp (config := { maxSteps := 400000 }) only [go_sem, Tr.l, k14, k29, k36, k37, trV, Tr.eta, hge, hrd0, hld, hrd2, List.length_nil, Nat.zero_mul, List.take_zero, ha, ha2, hb, simprocAttr]
    exact fin 1 _ _ _ (by decide) (by simp only [adrU, hS, hE, hQ, zTr, Tr.l, Sh.v]) (by first | exact hasS_n | exact hasS_sl (by simp [hget_cons, hget_skip]) | exact hasS_sg (by simp [hget_cons, hget_skip]) | (simp [hasS_cons, hasS_hit, hasS_hit0, hasS_skip]; done)) (by rw [hQ]; exact hasS_n)
  have hE : addE ⟨att, st, past, fst, lst, gt, plst, pgot, cnt, sum, smo, thr, ovr, ovs, bef, sta⟩ [] sent got = 0 := by simp only [addE, hg, ha', hb]; rfl
  have hS : addS ⟨att, st, past, fst, lst, gt, plst, pgot, cnt, sum, smo, thr, ovr, ovs, bef, sta⟩ [] sent got = addT ⟨att, st, past, fst, lst, gt, plst, pgot, cnt, sum, smo, thr, ovr, ovs, bef, sta⟩ [] sent got := by simp [addS, hE]
  obtain ⟨gf, gl⟩ := good_rng hg
  dsimp only at gf
  have w4 : IntKind.i64.wrap (fst + 4) = fst + 4 := wrapL (by omega) (by omega)
  have hcp := (copyQ_pts []).pl
  cases st
  · have hQ : adrQ ⟨att, false, past, fst, lst, gt, plst, pgot, cnt, sum, smo, thr, ovr, ovs, bef, sta⟩ [] sent got = copyQ [] := by simp [adrQ, hE]
    have hT : addT ⟨att, false, past, fst, lst, gt, plst, pgot, cnt, sum, smo, thr, ovr, ovs, bef, sta⟩ [] sent got = (beginT { (⟨att, false, past, fst, lst, gt, plst, pgot, cnt, sum, smo, thr, ovr, ovs, bef, sta⟩ : Tr) with att := got, st := true } sent got, []) := by simp [addT]
    simp (config := { maxSteps := 400000 }) only [go_sem, Tr.l, k14, k29, k36, k37, trV, Tr.eta, hge, hrd0, hld, hrd2, List.length_nil, Nat.zero_mul, List.take_zero, ha, ha2, hb, w4, simprocAttr]
    exact fin 4 _ _ _ (by decide) (by simp only [adrU, hS, hT, hE, hQ, hcq, beginT, Tr.l, Sh.v]) (by first | exact hasS_n | exact hasS_sl (by simp [hget_cons, hget_skip]) | exact hasS_sg (by simp [hget_cons, hget_skip]) | (simp [hasS_cons, hasS_hit, hasS_hit0, hasS_skip]; done)) (by rw [hQ, hcq]; exact by first | exact hasS_n | exact hasS_sl (by simp [hget_cons, hget_skip]) | exact hasS_sg (by simp [hget_cons, hget_skip]) | (simp [hasS_cons, hasS_hit, hasS_hit0, hasS_skip]; done))
  rcases Bool.eq_false_or_eq_true (decide (sent < fst)) with h1 | h1
  · have hQ : adrQ ⟨att, true, past, fst, lst, gt, plst, pgot, cnt, sum, smo, thr, ovr, ovs, bef, sta⟩ [] sent got = copyQ [] := by simp [adrQ, hE, h1]
    have hT : addT ⟨att, true, past, fst, lst, gt, plst, pgot, cnt, sum, smo, thr, ovr, ovs, bef, sta⟩ [] sent got = ({ (⟨att, true, past, fst, lst, gt, plst, pgot, cnt, sum, smo, thr, ovr, ovs, bef, sta⟩ : Tr) with att := got }, []) := by have := of_decide_eq_true h1; simp [addT, this]
    simp (config := { maxSteps := 400000 }) only [go_sem, Tr.l, k14, k29, k36, k37, trV, Tr.eta, hge, hrd0, hld, hrd2, List.length_nil, Nat.zero_mul, List.take_zero, ha, ha2, hb, w4, h1, simprocAttr]
    exact fin 4 _ _ _ (by decide) (by simp only [adrU, hS, hT, hE, hQ, hcq, beginT, Tr.l, Sh.v]) (by first | exact hasS_n | exact hasS_sl (by simp [hget_cons, hget_skip]) | exact hasS_sg (by simp [hget_cons, hget_skip]) | (simp [hasS_cons, hasS_hit, hasS_hit0, hasS_skip]; done)) (by rw [hQ, hcq]; exact by first | exact hasS_n | exact hasS_sl (by simp [hget_cons, hget_skip]) | exact hasS_sg (by simp [hget_cons, hget_skip]) | (simp [hasS_cons, hasS_hit, hasS_hit0, hasS_skip]; done))
  rcases Bool.eq_false_or_eq_true (decide (sent ≤ fst + 4)) with h2 | h2
  · have hQ : adrQ ⟨att, true, past, fst, lst, gt, plst, pgot, cnt, sum, smo, thr, ovr, ovs, bef, sta⟩ [] sent got = copyQ [] := by simp [adrQ, hE, h1, h2]
    have hT : addT ⟨att, true, past, fst, lst, gt, plst, pgot, cnt, sum, smo, thr, ovr, ovs, bef, sta⟩ [] sent got = ({ (⟨att, true, past, fst, lst, gt, plst, pgot, cnt, sum, smo, thr, ovr, ovs, bef, sta⟩ : Tr) with att := got, lst := max lst sent, got := got }, []) := by have := of_decide_eq_false h1; have h3 := of_decide_eq_true h2; simp [addT, this, h3]
    simp (config := { maxSteps := 400000 }) only [go_sem, Tr.l, k14, k29, k36, k37, trV, Tr.eta, hge, hrd0, hld, hrd2, List.length_nil, Nat.zero_mul, List.take_zero, ha, ha2, hb, w4, h1, h2, simprocAttr]
    exact fin 4 _ _ _ (by decide) (by simp only [adrU, hS, hT, hE, hQ, hcq, beginT, Tr.l, Sh.v]) (by first | exact hasS_n | exact hasS_sl (by simp [hget_cons, hget_skip]) | exact hasS_sg (by simp [hget_cons, hget_skip]) | (simp [hasS_cons, hasS_hit, hasS_hit0, hasS_skip]; done)) (by rw [hQ, hcq]; exact by first | exact hasS_n | exact hasS_sl (by simp [hget_cons, hget_skip]) | exact hasS_sg (by simp [hget_cons, hget_skip]) | (simp [hasS_cons, hasS_hit, hasS_hit0, hasS_skip]; done))
  cases past
  · have hQ : adrQ ⟨att, true, false, fst, lst, gt, plst, pgot, cnt, sum, smo, thr, ovr, ovs, bef, sta⟩ [] sent got = copyQ [] := by simp [adrQ, hE, h1, h2]
    have hT : addT ⟨att, true, false, fst, lst, gt, plst, pgot, cnt, sum, smo, thr, ovr, ovs, bef, sta⟩ [] sent got = (beginT { (⟨att, true, false, fst, lst, gt, plst, pgot, cnt, sum, smo, thr, ovr, ovs, bef, sta⟩ : Tr) with att := got, past := true, plst := lst, pgot := gt } sent got, []) := by have := of_decide_eq_false h1; have h3 := of_decide_eq_false h2; simp [addT, this, h3]
    simp (config := { maxSteps := 400000 }) only [go_sem, Tr.l, k14, k29, k36, k37, trV, Tr.eta, hge, hrd0, hld, hrd2, List.length_nil, Nat.zero_mul, List.take_zero, ha, ha2, hb, w4, h1, h2, simprocAttr]
    exact fin 4 _ _ _ (by decide) (by simp only [adrU, hS, hT, hE, hQ, hcq, beginT, Tr.l, Sh.v]) (by first | exact hasS_n | exact hasS_sl (by simp [hget_cons, hget_skip]) | exact hasS_sg (by simp [hget_cons, hget_skip]) | (simp [hasS_cons, hasS_hit, hasS_hit0, hasS_skip]; done)) (by rw [hQ, hcq]; exact by first | exact hasS_n | exact hasS_sl (by simp [hget_cons, hget_skip]) | exact hasS_sg (by simp [hget_cons, hget_skip]) | (simp [hasS_cons, hasS_hit, hasS_hit0, hasS_skip]; done))
  have hW := good_w (got := got) hg rfl rfl
  have hQ : adrQ ⟨att, true, true, fst, lst, gt, plst, pgot, cnt, sum, smo, thr, ovr, ovs, bef, sta⟩ [] sent got = wQ { (⟨att, true, true, fst, lst, gt, plst, pgot, cnt, sum, smo, thr, ovr, ovs, bef, sta⟩ : Tr) with att := got } [] := by simp [adrQ, hE, h1, h2]
  have hT : addT ⟨att, true, true, fst, lst, gt, plst, pgot, cnt, sum, smo, thr, ovr, ovs, bef, sta⟩ [] sent got = (beginT { (weighT { (⟨att, true, true, fst, lst, gt, plst, pgot, cnt, sum, smo, thr, ovr, ovs, bef, sta⟩ : Tr) with att := got } []).1 with past := true, plst := (weighT { (⟨att, true, true, fst, lst, gt, plst, pgot, cnt, sum, smo, thr, ovr, ovs, bef, sta⟩ : Tr) with att := got } []).1.lst, pgot := (weighT { (⟨att, true, true, fst, lst, gt, plst, pgot, cnt, sum, smo, thr, ovr, ovs, bef, sta⟩ : Tr) with att := got } []).1.got } sent got, (weighT { (⟨att, true, true, fst, lst, gt, plst, pgot, cnt, sum, smo, thr, ovr, ovs, bef, sta⟩ : Tr) with att := got } []).2) := by have := of_decide_eq_false h1; have h3 := of_decide_eq_false h2; simp [addT, this, h3]
  have hwq := (wQ_pts { (⟨att, true, true, fst, lst, gt, plst, pgot, cnt, sum, smo, thr, ovr, ovs, bef, sta⟩ : Tr) with att := got } []).pl
  have WW := wOK_to hW
  obtain ⟨l1, l2, p1, p2, g1, g2, q1, q2, dd1, dd2, _, _, _, _, _, _, _, _, _, _⟩ := WW
  dsimp only at hW hQ hT hwq l1 l2 p1 p2 g1 g2 q1 q2 dd1 dd2
  have z1 : IntKind.i64.wrap (lst - plst) = lst - plst := wrapL (by omega) (by omega)
  have z2 : IntKind.i64.wrap (gt - pgot) = gt - pgot := wrapL (by omega) (by omega)
  by_cases hA : 2000 < max (lst - plst) (gt - pgot)
  · have hk : wKl ⟨got, true, true, fst, lst, gt, plst, pgot, cnt, sum, smo, thr, ovr, ovs, bef, sta⟩ [] = true := by simp only [wKl, decide_eq_true hA, Bool.true_or]
    have hw : weighT ⟨got, true, true, fst, lst, gt, plst, pgot, cnt, sum, smo, thr, ovr, ovs, bef, sta⟩ [] = (clearT ⟨got, true, true, fst, lst, gt, plst, pgot, cnt, sum, smo, thr, ovr, ovs, bef, sta⟩, []) := by rw [weigh_eq, hk]; rfl
    have hq : wQ ⟨got, true, true, fst, lst, gt, plst, pgot, cnt, sum, smo, thr, ovr, ovs, bef, sta⟩ [] = .nil := by rw [wQ, hk]; rfl
    rw [hw] at hT
    rw [hq] at hQ
    have fin2 : ∀ (n : Nat) (r : Hp) (v : AV), v = adrU ⟨att, true, true, fst, lst, gt, plst, pgot, cnt, sum, smo, thr, ovr, ovs, bef, sta⟩ [] sent got 1 → hasS r Sh.nil 0 → Go.Ab.Ends 1 v r n U H 2 := fun n r v hv hr => fin 1 n r v (by decide) hv hr (by rw [hQ]; exact hasS_n)
    rcases Bool.eq_false_or_eq_true (decide (2000 < lst - plst)) with hd | hd
    · simp (config := { maxSteps := 400000 }) only [go_sem, Tr.l, k14, k29, k36, k37, trV, Tr.eta, hge, hrd0, hld, hrd2, List.length_nil, Nat.zero_mul, List.take_zero, ha, ha2, hb, w4, h1, h2, z1, z2, hd, clearT, simprocAttr]
      exact fin2 _ _ _ (by simp only [adrU, hS, hT, hE, hQ, beginT, clearT, Tr.l, Sh.v]) (by first | exact hasS_n | exact hasS_sl (by simp [hget_cons, hget_skip]) | exact hasS_sg (by simp [hget_cons, hget_skip]) | (simp [hasS_cons, hasS_hit, hasS_hit0, hasS_skip]; done))
    · have hd2 : decide (2000 < gt - pgot) = true := by have := of_decide_eq_false hd; exact decide_eq_true (by omega)
      simp (config := { maxSteps := 400000 }) only [go_sem, Tr.l, k14, k29, k36, k37, trV, Tr.eta, hge, hrd0, hld, hrd2, List.length_nil, Nat.zero_mul, List.take_zero, ha, ha2, hb, w4, h1, h2, z1, z2, hd, hd2, clearT, simprocAttr]
      exact fin2 _ _ _ (by simp only [adrU, hS, hT, hE, hQ, beginT, clearT, Tr.l, Sh.v]) (by first | exact hasS_n | exact hasS_sl (by simp [hget_cons, hget_skip]) | exact hasS_sg (by simp [hget_cons, hget_skip]) | (simp [hasS_cons, hasS_hit, hasS_hit0, hasS_skip]; done))
  · have hd : decide (2000 < lst - plst) = false := decide_eq_false (by omega)
    have hd2 : decide (2000 < gt - pgot) = false := decide_eq_false (by omega)
    have hr : rOK ⟨got, true, true, fst, lst, gt, plst, pgot, cnt, sum, smo, thr, ovr, ovs, bef, sta⟩ [] (lst - plst) (gt - pgot) = true := by
      have hs2 := next_same (y := wSmo ⟨got, true, true, fst, lst, gt, plst, pgot, cnt, sum, smo, thr, ovr, ovs, bef, sta⟩) hg rfl (show gt - pgot ≤ 2000 by omega)
      simp only [rOK, hW, decide_true, Bool.true_and, Bool.and_eq_true, decide_eq_true_eq, beq_iff_eq]
      exact ⟨by omega, hs2⟩
    have hwp : (weighT ⟨got, true, true, fst, lst, gt, plst, pgot, cnt, sum, smo, thr, ovr, ovs, bef, sta⟩ []).1.past = true := weigh_past _ _
    simp (config := { maxSteps := 400000 }) only [go_sem, Tr.l, k14, k29, k36, k37, trV, Tr.eta, hge, hrd0, hld, hrd2, List.length_nil, Nat.zero_mul, List.take_zero, ha, ha2, hb, w4, h1, h2, z1, z2, hd, hd2, hr, hwq, hwp, wU, simprocAttr]
    exact fin 6 _ _ _ (by decide) (by simp only [adrU, hS, hT, hE, hQ, beginT, Tr.l]) (by first | exact hasS_n | exact hasS_sl (by simp [hget_cons, hget_skip]) | exact hasS_sg (by simp [hget_cons, hget_skip]) | (simp [hasS_cons, hasS_hit, hasS_hit0, hasS_skip]; done)) (by rw [hQ]; exact by first | exact hasS_n | exact hasS_sl (by simp [hget_cons, hget_skip]) | exact hasS_sg (by simp [hget_cons, hget_skip]) | (simp [hasS_cons, hasS_hit, hasS_hit0, hasS_skip]; done))
theorem w16e1 (t : Tr) (kb : Blk) (o cap : Nat) (hkb : belL 0 kb.cells = true) (sent got : Int) : FTL Try.prog 16 [.agg (t.l (.sl 0 o 0 cap)), .i .i64 sent, .i .i64 got] [(0, kb)] 1 (adrU t [] sent got 1) ([(0, kb)] ++ (adrQ t [] sent got).h 1) 2 := by
  refine FTL.of_iw hT16 mo Try.func16 i16_eq (by simp [i16]) (iw_of_jw ?_)
  dsimp only [i16, T16]
  have fin : ∀ (k n : Nat) (r : Hp) (v : AV), k ≠ 0 → v = adrU t [] sent got k → hasS r (Sh.sl kb o 0 cap) 0 → hasS r (adrQ t [] sent got) k → Go.Ab.Ends 1 v r n (adrU t [] sent got 1) ([(0, kb)] ++ (adrQ t [] sent got).h 1) 2 := fun k n r v hk hv h1 h2 => Ends.s1n (s := (Sh.sl kb o 0 cap)) (U := adrU t [] sent got) hkb (adrQ_pts t [] sent got).pl hk hv (adrU_ren t [] sent got) (adrU_bel t [] sent got) h1 h2
  have hge := goodR_eq t []
  have hrd0 : rdL ptV 2 (Sh.sl kb o 0 cap) = some [] := rd_pts ⟨hkb, rfl, by simp [Sh.cs, cellsAt, rows]⟩
  have hld : decide (([] : List Pt).length ≤ 1000000000000) = true := rfl
  have hcq : copyQ [] = .sl { cells := [] } 0 0 0 := rfl
  have hrd2 : rdL ptV 2 (.sl { cells := [] } 0 0 0) = some [] := rfl
  obtain ⟨att, st, past, fst, lst, gt, plst, pgot, cnt, sum, smo, thr, ovr, ovs, bef, sta⟩ := t
  generalize hU : adrU ⟨att, st, past, fst, lst, gt, plst, pgot, cnt, sum, smo, thr, ovr, ovs, bef, sta⟩ [] sent got 1 = U at *
  generalize hH : [(0, kb)] ++ (adrQ ⟨att, st, past, fst, lst, gt, plst, pgot, cnt, sum, smo, thr, ovr, ovs, bef, sta⟩ [] sent got).h 1 = H at *
  cases hg : good ⟨att, st, past, fst, lst, gt, plst, pgot, cnt, sum, smo, thr, ovr, ovs, bef, sta⟩ []
  · rw [hg] at hge
    have hE : addE ⟨att, st, past, fst, lst, gt, plst, pgot, cnt, sum, smo, thr, ovr, ovs, bef, sta⟩ [] sent got = 290 := by simp [addE, hg]
    have hQ : adrQ ⟨att, st, past, fst, lst, gt, plst, pgot, cnt, sum, smo, thr, ovr, ovs, bef, sta⟩ [] sent got = .nil := by simp [adrQ, hE]
    have hS : addS ⟨att, st, past, fst, lst, gt, plst, pgot, cnt, sum, smo, thr, ovr, ovs, bef, sta⟩ [] sent got = (zTr, []) := by simp [addS, hE]
    simp (config := { maxSteps := 400000 }) only [go_sem, Tr.l, k14, k29, k36, k37, trV, Tr.eta, hge, hrd0, hld, hrd2, List.length_nil, Nat.zero_mul, List.take_zero, simprocAttr]
    exact fin 1 _ _ _ (by decide) (by simp only [adrU, hS, hE, hQ, zTr, Tr.l, Sh.v]) (by first | exact hasS_n | exact hasS_sl (by simp [hget_cons, hget_skip]) | exact hasS_sg (by simp [hget_cons, hget_skip]) | (simp [hasS_cons, hasS_hit, hasS_hit0, hasS_skip]; done)) (by rw [hQ]; exact hasS_n)
  rw [hg] at hge
  cases ha : inI 0 1099511627776 sent
  · have ha' : (tm sent && tm got) = false := by simp [tm, M40, ha]
    have hE : addE ⟨att, st, past, fst, lst, gt, plst, pgot, cnt, sum, smo, thr, ovr, ovs, bef, sta⟩ [] sent got = 2 := by simp [addE, hg, ha']
    have hQ : adrQ ⟨att, st, past, fst, lst, gt, plst, pgot, cnt, sum, smo, thr, ovr, ovs, bef, sta⟩ [] sent got = .nil := by simp [adrQ, hE]
    have hS : addS ⟨att, st, past, fst, lst, gt, plst, pgot, cnt, sum, smo, thr, ovr, ovs, bef, sta⟩ [] sent got = (zTr, []) := by simp [addS, hE]
    simp (config := { maxSteps := 400000 }) only [go_sem, Tr.l, k14, k29, k36, k37, trV, Tr.eta, hge, hrd0, hld, hrd2, List.length_nil, Nat.zero_mul, List.take_zero, ha, simprocAttr]
    exact fin 1 _ _ _ (by decide) (by simp only [adrU, hS, hE, hQ, zTr, Tr.l, Sh.v]) (by first | exact hasS_n | exact hasS_sl (by simp [hget_cons, hget_skip]) | exact hasS_sg (by simp [hget_cons, hget_skip]) | (simp [hasS_cons, hasS_hit, hasS_hit0, hasS_skip]; done)) (by rw [hQ]; exact hasS_n)
  cases ha2 : inI 0 1099511627776 got
  · have ha' : (tm sent && tm got) = false := by simp [tm, M40, ha2]
    have hE : addE ⟨att, st, past, fst, lst, gt, plst, pgot, cnt, sum, smo, thr, ovr, ovs, bef, sta⟩ [] sent got = 2 := by simp [addE, hg, ha']
    have hQ : adrQ ⟨att, st, past, fst, lst, gt, plst, pgot, cnt, sum, smo, thr, ovr, ovs, bef, sta⟩ [] sent got = .nil := by simp [adrQ, hE]
    have hS : addS ⟨att, st, past, fst, lst, gt, plst, pgot, cnt, sum, smo, thr, ovr, ovs, bef, sta⟩ [] sent got = (zTr, []) := by simp [addS, hE]
    simp (config := { maxSteps := 400000 }) only [go_sem, Tr.l, k14, k29, k36, k37, trV, Tr.eta, hge, hrd0, hld, hrd2, List.length_nil, Nat.zero_mul, List.take_zero, ha, ha2, simprocAttr]
    exact fin 1 _ _ _ (by decide) (by simp only [adrU, hS, hE, hQ, zTr, Tr.l, Sh.v]) (by first | exact hasS_n | exact hasS_sl (by simp [hget_cons, hget_skip]) | exact hasS_sg (by simp [hget_cons, hget_skip]) | (simp [hasS_cons, hasS_hit, hasS_hit0, hasS_skip]; done)) (by rw [hQ]; exact hasS_n)
  have ha' : (tm sent && tm got) = true := by simp [tm, M40, ha, ha2]
  rcases Bool.eq_false_or_eq_true (decide (got < att)) with hb | hb
  · have hb' : decide (got < att) = true := hb
    have hE : addE ⟨att, st, past, fst, lst, gt, plst, pgot, cnt, sum, smo, thr, ovr, ovs, bef, sta⟩ [] sent got = 2 := by simp only [addE, hg, ha', hb]; rfl
    have hQ : adrQ ⟨att, st, past, fst, lst, gt, plst, pgot, cnt, sum, smo, thr, ovr, ovs, bef, sta⟩ [] sent got = .nil := by simp [adrQ, hE]
    have hS : addS ⟨att, st, past, fst, lst, gt, plst, pgot, cnt, sum, smo, thr, ovr, ovs, bef, sta⟩ [] sent got = (zTr, []) := by simp [addS, hE]
    simp (config := { maxSteps := 400000 }) only [go_sem, Tr.l, k14, k29, k36, k37, trV, Tr.eta, hge, hrd0, hld, hrd2, List.length_nil, Nat.zero_mul, List.take_zero, ha, ha2, hb, simprocAttr]
    exact fin 1 _ _ _ (by decide) (by simp only [adrU, hS, hE, hQ, zTr, Tr.l, Sh.v]) (by first | exact hasS_n | exact hasS_sl (by simp [hget_cons, hget_skip]) | exact hasS_sg (by simp [hget_cons, hget_skip]) | (simp [hasS_cons, hasS_hit, hasS_hit0, hasS_skip]; done)) (by rw [hQ]; exact hasS_n)
  have hE : addE ⟨att, st, past, fst, lst, gt, plst, pgot, cnt, sum, smo, thr, ovr, ovs, bef, sta⟩ [] sent got = 0 := by simp only [addE, hg, ha', hb]; rfl
  have hS : addS ⟨att, st, past, fst, lst, gt, plst, pgot, cnt, sum, smo, thr, ovr, ovs, bef, sta⟩ [] sent got = addT ⟨att, st, past, fst, lst, gt, plst, pgot, cnt, sum, smo, thr, ovr, ovs, bef, sta⟩ [] sent got := by simp [addS, hE]
  obtain ⟨gf, gl⟩ := good_rng hg
  dsimp only at gf
  have w4 : IntKind.i64.wrap (fst + 4) = fst + 4 := wrapL (by omega) (by omega)
  have hcp := (copyQ_pts []).pl
  cases st
  · have hQ : adrQ ⟨att, false, past, fst, lst, gt, plst, pgot, cnt, sum, smo, thr, ovr, ovs, bef, sta⟩ [] sent got = copyQ [] := by simp [adrQ, hE]
    have hT : addT ⟨att, false, past, fst, lst, gt, plst, pgot, cnt, sum, smo, thr, ovr, ovs, bef, sta⟩ [] sent got = (beginT { (⟨att, false, past, fst, lst, gt, plst, pgot, cnt, sum, smo, thr, ovr, ovs, bef, sta⟩ : Tr) with att := got, st := true } sent got, []) := by simp [addT]
    simp (config := { maxSteps := 400000 }) only [go_sem, Tr.l, k14, k29, k36, k37, trV, Tr.eta, hge, hrd0, hld, hrd2, List.length_nil, Nat.zero_mul, List.take_zero, ha, ha2, hb, w4, simprocAttr]
    exact fin 4 _ _ _ (by decide) (by simp only [adrU, hS, hT, hE, hQ, hcq, beginT, Tr.l, Sh.v]) (by first | exact hasS_n | exact hasS_sl (by simp [hget_cons, hget_skip]) | exact hasS_sg (by simp [hget_cons, hget_skip]) | (simp [hasS_cons, hasS_hit, hasS_hit0, hasS_skip]; done)) (by rw [hQ, hcq]; exact by first | exact hasS_n | exact hasS_sl (by simp [hget_cons, hget_skip]) | exact hasS_sg (by simp [hget_cons, hget_skip]) | (simp [hasS_cons, hasS_hit, hasS_hit0, hasS_skip]; done))
  rcases Bool.eq_false_or_eq_true (decide (sent < fst)) with h1 | h1
  · have hQ : adrQ ⟨att, true, past, fst, lst, gt, plst, pgot, cnt, sum, smo, thr, ovr, ovs, bef, sta⟩ [] sent got = copyQ [] := by simp [adrQ, hE, h1]
    have hT : addT ⟨att, true, past, fst, lst, gt, plst, pgot, cnt, sum, smo, thr, ovr, ovs, bef, sta⟩ [] sent got = ({ (⟨att, true, past, fst, lst, gt, plst, pgot, cnt, sum, smo, thr, ovr, ovs, bef, sta⟩ : Tr) with att := got }, []) := by have := of_decide_eq_true h1; simp [addT, this]
    simp (config := { maxSteps := 400000 }) only [go_sem, Tr.l, k14, k29, k36, k37, trV, Tr.eta, hge, hrd0, hld, hrd2, List.length_nil, Nat.zero_mul, List.take_zero, ha, ha2, hb, w4, h1, simprocAttr]
    exact fin 4 _ _ _ (by decide) (by simp only [adrU, hS, hT, hE, hQ, hcq, beginT, Tr.l, Sh.v]) (by first | exact hasS_n | exact hasS_sl (by simp [hget_cons, hget_skip]) | exact hasS_sg (by simp [hget_cons, hget_skip]) | (simp [hasS_cons, hasS_hit, hasS_hit0, hasS_skip]; done)) (by rw [hQ, hcq]; exact by first | exact hasS_n | exact hasS_sl (by simp [hget_cons, hget_skip]) | exact hasS_sg (by simp [hget_cons, hget_skip]) | (simp [hasS_cons, hasS_hit, hasS_hit0, hasS_skip]; done))
  rcases Bool.eq_false_or_eq_true (decide (sent ≤ fst + 4)) with h2 | h2
  · have hQ : adrQ ⟨att, true, past, fst, lst, gt, plst, pgot, cnt, sum, smo, thr, ovr, ovs, bef, sta⟩ [] sent got = copyQ [] := by simp [adrQ, hE, h1, h2]
    have hT : addT ⟨att, true, past, fst, lst, gt, plst, pgot, cnt, sum, smo, thr, ovr, ovs, bef, sta⟩ [] sent got = ({ (⟨att, true, past, fst, lst, gt, plst, pgot, cnt, sum, smo, thr, ovr, ovs, bef, sta⟩ : Tr) with att := got, lst := max lst sent, got := got }, []) := by have := of_decide_eq_false h1; have h3 := of_decide_eq_true h2; simp [addT, this, h3]
    simp (config := { maxSteps := 400000 }) only [go_sem, Tr.l, k14, k29, k36, k37, trV, Tr.eta, hge, hrd0, hld, hrd2, List.length_nil, Nat.zero_mul, List.take_zero, ha, ha2, hb, w4, h1, h2, simprocAttr]
    exact fin 4 _ _ _ (by decide) (by simp only [adrU, hS, hT, hE, hQ, hcq, beginT, Tr.l, Sh.v]) (by first | exact hasS_n | exact hasS_sl (by simp [hget_cons, hget_skip]) | exact hasS_sg (by simp [hget_cons, hget_skip]) | (simp [hasS_cons, hasS_hit, hasS_hit0, hasS_skip]; done)) (by rw [hQ, hcq]; exact by first | exact hasS_n | exact hasS_sl (by simp [hget_cons, hget_skip]) | exact hasS_sg (by simp [hget_cons, hget_skip]) | (simp [hasS_cons, hasS_hit, hasS_hit0, hasS_skip]; done))
  cases past
  · have hQ : adrQ ⟨att, true, false, fst, lst, gt, plst, pgot, cnt, sum, smo, thr, ovr, ovs, bef, sta⟩ [] sent got = copyQ [] := by simp [adrQ, hE, h1, h2]
    have hT : addT ⟨att, true, false, fst, lst, gt, plst, pgot, cnt, sum, smo, thr, ovr, ovs, bef, sta⟩ [] sent got = (beginT { (⟨att, true, false, fst, lst, gt, plst, pgot, cnt, sum, smo, thr, ovr, ovs, bef, sta⟩ : Tr) with att := got, past := true, plst := lst, pgot := gt } sent got, []) := by have := of_decide_eq_false h1; have h3 := of_decide_eq_false h2; simp [addT, this, h3]
    simp (config := { maxSteps := 400000 }) only [go_sem, Tr.l, k14, k29, k36, k37, trV, Tr.eta, hge, hrd0, hld, hrd2, List.length_nil, Nat.zero_mul, List.take_zero, ha, ha2, hb, w4, h1, h2, simprocAttr]
    exact fin 4 _ _ _ (by decide) (by simp only [adrU, hS, hT, hE, hQ, hcq, beginT, Tr.l, Sh.v]) (by first | exact hasS_n | exact hasS_sl (by simp [hget_cons, hget_skip]) | exact hasS_sg (by simp [hget_cons, hget_skip]) | (simp [hasS_cons, hasS_hit, hasS_hit0, hasS_skip]; done)) (by rw [hQ, hcq]; exact by first | exact hasS_n | exact hasS_sl (by simp [hget_cons, hget_skip]) | exact hasS_sg (by simp [hget_cons, hget_skip]) | (simp [hasS_cons, hasS_hit, hasS_hit0, hasS_skip]; done))
  have hW := good_w (got := got) hg rfl rfl
  have hQ : adrQ ⟨att, true, true, fst, lst, gt, plst, pgot, cnt, sum, smo, thr, ovr, ovs, bef, sta⟩ [] sent got = wQ { (⟨att, true, true, fst, lst, gt, plst, pgot, cnt, sum, smo, thr, ovr, ovs, bef, sta⟩ : Tr) with att := got } [] := by simp [adrQ, hE, h1, h2]
  have hT : addT ⟨att, true, true, fst, lst, gt, plst, pgot, cnt, sum, smo, thr, ovr, ovs, bef, sta⟩ [] sent got = (beginT { (weighT { (⟨att, true, true, fst, lst, gt, plst, pgot, cnt, sum, smo, thr, ovr, ovs, bef, sta⟩ : Tr) with att := got } []).1 with past := true, plst := (weighT { (⟨att, true, true, fst, lst, gt, plst, pgot, cnt, sum, smo, thr, ovr, ovs, bef, sta⟩ : Tr) with att := got } []).1.lst, pgot := (weighT { (⟨att, true, true, fst, lst, gt, plst, pgot, cnt, sum, smo, thr, ovr, ovs, bef, sta⟩ : Tr) with att := got } []).1.got } sent got, (weighT { (⟨att, true, true, fst, lst, gt, plst, pgot, cnt, sum, smo, thr, ovr, ovs, bef, sta⟩ : Tr) with att := got } []).2) := by have := of_decide_eq_false h1; have h3 := of_decide_eq_false h2; simp [addT, this, h3]
  have hwq := (wQ_pts { (⟨att, true, true, fst, lst, gt, plst, pgot, cnt, sum, smo, thr, ovr, ovs, bef, sta⟩ : Tr) with att := got } []).pl
  have WW := wOK_to hW
  obtain ⟨l1, l2, p1, p2, g1, g2, q1, q2, dd1, dd2, _, _, _, _, _, _, _, _, _, _⟩ := WW
  dsimp only at hW hQ hT hwq l1 l2 p1 p2 g1 g2 q1 q2 dd1 dd2
  have z1 : IntKind.i64.wrap (lst - plst) = lst - plst := wrapL (by omega) (by omega)
  have z2 : IntKind.i64.wrap (gt - pgot) = gt - pgot := wrapL (by omega) (by omega)
  by_cases hA : 2000 < max (lst - plst) (gt - pgot)
  · have hk : wKl ⟨got, true, true, fst, lst, gt, plst, pgot, cnt, sum, smo, thr, ovr, ovs, bef, sta⟩ [] = true := by simp only [wKl, decide_eq_true hA, Bool.true_or]
    have hw : weighT ⟨got, true, true, fst, lst, gt, plst, pgot, cnt, sum, smo, thr, ovr, ovs, bef, sta⟩ [] = (clearT ⟨got, true, true, fst, lst, gt, plst, pgot, cnt, sum, smo, thr, ovr, ovs, bef, sta⟩, []) := by rw [weigh_eq, hk]; rfl
    have hq : wQ ⟨got, true, true, fst, lst, gt, plst, pgot, cnt, sum, smo, thr, ovr, ovs, bef, sta⟩ [] = .nil := by rw [wQ, hk]; rfl
    rw [hw] at hT
    rw [hq] at hQ
    have fin2 : ∀ (n : Nat) (r : Hp) (v : AV), v = adrU ⟨att, true, true, fst, lst, gt, plst, pgot, cnt, sum, smo, thr, ovr, ovs, bef, sta⟩ [] sent got 1 → hasS r (Sh.sl kb o 0 cap) 0 → Go.Ab.Ends 1 v r n U H 2 := fun n r v hv hr => fin 1 n r v (by decide) hv hr (by rw [hQ]; exact hasS_n)
    rcases Bool.eq_false_or_eq_true (decide (2000 < lst - plst)) with hd | hd
    · simp (config := { maxSteps := 400000 }) only [go_sem, Tr.l, k14, k29, k36, k37, trV, Tr.eta, hge, hrd0, hld, hrd2, List.length_nil, Nat.zero_mul, List.take_zero, ha, ha2, hb, w4, h1, h2, z1, z2, hd, clearT, simprocAttr]
      exact fin2 _ _ _ (by simp only [adrU, hS, hT, hE, hQ, beginT, clearT, Tr.l, Sh.v]) (by first | exact hasS_n | exact hasS_sl (by simp [hget_cons, hget_skip]) | exact hasS_sg (by simp [hget_cons, hget_skip]) | (simp [hasS_cons, hasS_hit, hasS_hit0, hasS_skip]; done))
    · have hd2 : decide (2000 < gt - pgot) = true := by have := of_decide_eq_false hd; exact decide_eq_true (by omega)
      simp (config := { maxSteps := 400000 }) only [go_sem, Tr.l, k14, k29, k36, k37, trV, Tr.eta, hge, hrd0, hld, hrd2, List.length_nil, Nat.zero_mul, List.take_zero, ha, ha2, hb, w4, h1, h2, z1, z2, hd, hd2, clearT, simprocAttr]
      exact fin2 _ _ _ (by simp only [adrU, hS, hT, hE, hQ, beginT, clearT, Tr.l, Sh.v]) (by first | exact hasS_n | exact hasS_sl (by simp [hget_cons, hget_skip]) | exact hasS_sg (by simp [hget_cons, hget_skip]) | (simp [hasS_cons, hasS_hit, hasS_hit0, hasS_skip]; done))
  · have hd : decide (2000 < lst - plst) = false := decide_eq_false (by omega)
    have hd2 : decide (2000 < gt - pgot) = false := decide_eq_false (by omega)
    have hr : rOK ⟨got, true, true, fst, lst, gt, plst, pgot, cnt, sum, smo, thr, ovr, ovs, bef, sta⟩ [] (lst - plst) (gt - pgot) = true := by
      have hs2 := next_same (y := wSmo ⟨got, true, true, fst, lst, gt, plst, pgot, cnt, sum, smo, thr, ovr, ovs, bef, sta⟩) hg rfl (show gt - pgot ≤ 2000 by omega)
      simp only [rOK, hW, decide_true, Bool.true_and, Bool.and_eq_true, decide_eq_true_eq, beq_iff_eq]
      exact ⟨by omega, hs2⟩
    have hwp : (weighT ⟨got, true, true, fst, lst, gt, plst, pgot, cnt, sum, smo, thr, ovr, ovs, bef, sta⟩ []).1.past = true := weigh_past _ _
    simp (config := { maxSteps := 400000 }) only [go_sem, Tr.l, k14, k29, k36, k37, trV, Tr.eta, hge, hrd0, hld, hrd2, List.length_nil, Nat.zero_mul, List.take_zero, ha, ha2, hb, w4, h1, h2, z1, z2, hd, hd2, hr, hwq, hwp, wU, simprocAttr]
    exact fin 6 _ _ _ (by decide) (by simp only [adrU, hS, hT, hE, hQ, beginT, Tr.l]) (by first | exact hasS_n | exact hasS_sl (by simp [hget_cons, hget_skip]) | exact hasS_sg (by simp [hget_cons, hget_skip]) | (simp [hasS_cons, hasS_hit, hasS_hit0, hasS_skip]; done)) (by rw [hQ]; exact by first | exact hasS_n | exact hasS_sl (by simp [hget_cons, hget_skip]) | exact hasS_sg (by simp [hget_cons, hget_skip]) | (simp [hasS_cons, hasS_hit, hasS_hit0, hasS_skip]; done))
theorem w16e2 (t : Tr) (kb : Blk) (o : Nat) (hkb : belL 0 kb.cells = true) (sent got : Int) : FTL Try.prog 16 [.agg (t.l (.sg 0 o 0)), .i .i64 sent, .i .i64 got] [(0, kb)] 1 (adrU t [] sent got 1) ([(0, kb)] ++ (adrQ t [] sent got).h 1) 2 := by
  refine FTL.of_iw hT16 mo Try.func16 i16_eq (by simp [i16]) (iw_of_jw ?_)
  dsimp only [i16, T16]
  have fin : ∀ (k n : Nat) (r : Hp) (v : AV), k ≠ 0 → v = adrU t [] sent got k → hasS r (Sh.sg kb o 0) 0 → hasS r (adrQ t [] sent got) k → Go.Ab.Ends 1 v r n (adrU t [] sent got 1) ([(0, kb)] ++ (adrQ t [] sent got).h 1) 2 := fun k n r v hk hv h1 h2 => Ends.s1n (s := (Sh.sg kb o 0)) (U := adrU t [] sent got) hkb (adrQ_pts t [] sent got).pl hk hv (adrU_ren t [] sent got) (adrU_bel t [] sent got) h1 h2
  have hge := goodR_eq t []
  have hrd0 : rdL ptV 2 (Sh.sg kb o 0) = some [] := rd_pts ⟨hkb, rfl, by simp [Sh.cs, cellsAt, rows]⟩
  have hld : decide (([] : List Pt).length ≤ 1000000000000) = true := rfl
  have hcq : copyQ [] = .sl { cells := [] } 0 0 0 := rfl
  have hrd2 : rdL ptV 2 (.sl { cells := [] } 0 0 0) = some [] := rfl
  obtain ⟨att, st, past, fst, lst, gt, plst, pgot, cnt, sum, smo, thr, ovr, ovs, bef, sta⟩ := t
  generalize hU : adrU ⟨att, st, past, fst, lst, gt, plst, pgot, cnt, sum, smo, thr, ovr, ovs, bef, sta⟩ [] sent got 1 = U at *
  generalize hH : [(0, kb)] ++ (adrQ ⟨att, st, past, fst, lst, gt, plst, pgot, cnt, sum, smo, thr, ovr, ovs, bef, sta⟩ [] sent got).h 1 = H at *
  cases hg : good ⟨att, st, past, fst, lst, gt, plst, pgot, cnt, sum, smo, thr, ovr, ovs, bef, sta⟩ []
  · rw [hg] at hge
    have hE : addE ⟨att, st, past, fst, lst, gt, plst, pgot, cnt, sum, smo, thr, ovr, ovs, bef, sta⟩ [] sent got = 290 := by simp [addE, hg]
    have hQ : adrQ ⟨att, st, past, fst, lst, gt, plst, pgot, cnt, sum, smo, thr, ovr, ovs, bef, sta⟩ [] sent got = .nil := by simp [adrQ, hE]
    have hS : addS ⟨att, st, past, fst, lst, gt, plst, pgot, cnt, sum, smo, thr, ovr, ovs, bef, sta⟩ [] sent got = (zTr, []) := by simp [addS, hE]
    simp (config := { maxSteps := 400000 }) only [go_sem, Tr.l, k14, k29, k36, k37, trV, Tr.eta, hge, hrd0, hld, hrd2, List.length_nil, Nat.zero_mul, List.take_zero, simprocAttr]
    exact fin 1 _ _ _ (by decide) (by simp only [adrU, hS, hE, hQ, zTr, Tr.l, Sh.v]) (by first | exact hasS_n | exact hasS_sl (by simp [hget_cons, hget_skip]) | exact hasS_sg (by simp [hget_cons, hget_skip]) | (simp [hasS_cons, hasS_hit, hasS_hit0, hasS_skip]; done)) (by rw [hQ]; exact hasS_n)
  rw [hg] at hge
  cases ha : inI 0 1099511627776 sent
  · have ha' : (tm sent && tm got) = false := by simp [tm, M40, ha]
    have hE : addE ⟨att, st, past, fst, lst, gt, plst, pgot, cnt, sum, smo, thr, ovr, ovs, bef, sta⟩ [] sent got = 2 := by simp [addE, hg, ha']
    have hQ : adrQ ⟨att, st, past, fst, lst, gt, plst, pgot, cnt, sum, smo, thr, ovr, ovs, bef, sta⟩ [] sent got = .nil := by simp [adrQ, hE]
    have hS : addS ⟨att, st, past, fst, lst, gt, plst, pgot, cnt, sum, smo, thr, ovr, ovs, bef, sta⟩ [] sent got = (zTr, []) := by simp [addS, hE]
    simp (config := { maxSteps := 400000 }) only [go_sem, Tr.l, k14, k29, k36, k37, trV, Tr.eta, hge, hrd0, hld, hrd2, List.length_nil, Nat.zero_mul, List.take_zero, ha, simprocAttr]
    exact fin 1 _ _ _ (by decide) (by simp only [adrU, hS, hE, hQ, zTr, Tr.l, Sh.v]) (by first | exact hasS_n | exact hasS_sl (by simp [hget_cons, hget_skip]) | exact hasS_sg (by simp [hget_cons, hget_skip]) | (simp [hasS_cons, hasS_hit, hasS_hit0, hasS_skip]; done)) (by rw [hQ]; exact hasS_n)
  cases ha2 : inI 0 1099511627776 got
  · have ha' : (tm sent && tm got) = false := by simp [tm, M40, ha2]
    have hE : addE ⟨att, st, past, fst, lst, gt, plst, pgot, cnt, sum, smo, thr, ovr, ovs, bef, sta⟩ [] sent got = 2 := by simp [addE, hg, ha']
    have hQ : adrQ ⟨att, st, past, fst, lst, gt, plst, pgot, cnt, sum, smo, thr, ovr, ovs, bef, sta⟩ [] sent got = .nil := by simp [adrQ, hE]
    have hS : addS ⟨att, st, past, fst, lst, gt, plst, pgot, cnt, sum, smo, thr, ovr, ovs, bef, sta⟩ [] sent got = (zTr, []) := by simp [addS, hE]
    simp (config := { maxSteps := 400000 }) only [go_sem, Tr.l, k14, k29, k36, k37, trV, Tr.eta, hge, hrd0, hld, hrd2, List.length_nil, Nat.zero_mul, List.take_zero, ha, ha2, simprocAttr]
    exact fin 1 _ _ _ (by decide) (by simp only [adrU, hS, hE, hQ, zTr, Tr.l, Sh.v]) (by first | exact hasS_n | exact hasS_sl (by simp [hget_cons, hget_skip]) | exact hasS_sg (by simp [hget_cons, hget_skip]) | (simp [hasS_cons, hasS_hit, hasS_hit0, hasS_skip]; done)) (by rw [hQ]; exact hasS_n)
  have ha' : (tm sent && tm got) = true := by simp [tm, M40, ha, ha2]
  rcases Bool.eq_false_or_eq_true (decide (got < att)) with hb | hb
  · have hb' : decide (got < att) = true := hb
    have hE : addE ⟨att, st, past, fst, lst, gt, plst, pgot, cnt, sum, smo, thr, ovr, ovs, bef, sta⟩ [] sent got = 2 := by simp only [addE, hg, ha', hb]; rfl
    have hQ : adrQ ⟨att, st, past, fst, lst, gt, plst, pgot, cnt, sum, smo, thr, ovr, ovs, bef, sta⟩ [] sent got = .nil := by simp [adrQ, hE]
    have hS : addS ⟨att, st, past, fst, lst, gt, plst, pgot, cnt, sum, smo, thr, ovr, ovs, bef, sta⟩ [] sent got = (zTr, []) := by simp [addS, hE]
    simp (config := { maxSteps := 400000 }) only [go_sem, Tr.l, k14, k29, k36, k37, trV, Tr.eta, hge, hrd0, hld, hrd2, List.length_nil, Nat.zero_mul, List.take_zero, ha, ha2, hb, simprocAttr]
    exact fin 1 _ _ _ (by decide) (by simp only [adrU, hS, hE, hQ, zTr, Tr.l, Sh.v]) (by first | exact hasS_n | exact hasS_sl (by simp [hget_cons, hget_skip]) | exact hasS_sg (by simp [hget_cons, hget_skip]) | (simp [hasS_cons, hasS_hit, hasS_hit0, hasS_skip]; done)) (by rw [hQ]; exact hasS_n)
  have hE : addE ⟨att, st, past, fst, lst, gt, plst, pgot, cnt, sum, smo, thr, ovr, ovs, bef, sta⟩ [] sent got = 0 := by simp only [addE, hg, ha', hb]; rfl
  have hS : addS ⟨att, st, past, fst, lst, gt, plst, pgot, cnt, sum, smo, thr, ovr, ovs, bef, sta⟩ [] sent got = addT ⟨att, st, past, fst, lst, gt, plst, pgot, cnt, sum, smo, thr, ovr, ovs, bef, sta⟩ [] sent got := by simp [addS, hE]
  obtain ⟨gf, gl⟩ := good_rng hg
  dsimp only at gf
  have w4 : IntKind.i64.wrap (fst + 4) = fst + 4 := wrapL (by omega) (by omega)
  have hcp := (copyQ_pts []).pl
  cases st
  · have hQ : adrQ ⟨att, false, past, fst, lst, gt, plst, pgot, cnt, sum, smo, thr, ovr, ovs, bef, sta⟩ [] sent got = copyQ [] := by simp [adrQ, hE]
    have hT : addT ⟨att, false, past, fst, lst, gt, plst, pgot, cnt, sum, smo, thr, ovr, ovs, bef, sta⟩ [] sent got = (beginT { (⟨att, false, past, fst, lst, gt, plst, pgot, cnt, sum, smo, thr, ovr, ovs, bef, sta⟩ : Tr) with att := got, st := true } sent got, []) := by simp [addT]
    simp (config := { maxSteps := 400000 }) only [go_sem, Tr.l, k14, k29, k36, k37, trV, Tr.eta, hge, hrd0, hld, hrd2, List.length_nil, Nat.zero_mul, List.take_zero, ha, ha2, hb, w4, simprocAttr]
    exact fin 4 _ _ _ (by decide) (by simp only [adrU, hS, hT, hE, hQ, hcq, beginT, Tr.l, Sh.v]) (by first | exact hasS_n | exact hasS_sl (by simp [hget_cons, hget_skip]) | exact hasS_sg (by simp [hget_cons, hget_skip]) | (simp [hasS_cons, hasS_hit, hasS_hit0, hasS_skip]; done)) (by rw [hQ, hcq]; exact by first | exact hasS_n | exact hasS_sl (by simp [hget_cons, hget_skip]) | exact hasS_sg (by simp [hget_cons, hget_skip]) | (simp [hasS_cons, hasS_hit, hasS_hit0, hasS_skip]; done))
  rcases Bool.eq_false_or_eq_true (decide (sent < fst)) with h1 | h1
  · have hQ : adrQ ⟨att, true, past, fst, lst, gt, plst, pgot, cnt, sum, smo, thr, ovr, ovs, bef, sta⟩ [] sent got = copyQ [] := by simp [adrQ, hE, h1]
    have hT : addT ⟨att, true, past, fst, lst, gt, plst, pgot, cnt, sum, smo, thr, ovr, ovs, bef, sta⟩ [] sent got = ({ (⟨att, true, past, fst, lst, gt, plst, pgot, cnt, sum, smo, thr, ovr, ovs, bef, sta⟩ : Tr) with att := got }, []) := by have := of_decide_eq_true h1; simp [addT, this]
    simp (config := { maxSteps := 400000 }) only [go_sem, Tr.l, k14, k29, k36, k37, trV, Tr.eta, hge, hrd0, hld, hrd2, List.length_nil, Nat.zero_mul, List.take_zero, ha, ha2, hb, w4, h1, simprocAttr]
    exact fin 4 _ _ _ (by decide) (by simp only [adrU, hS, hT, hE, hQ, hcq, beginT, Tr.l, Sh.v]) (by first | exact hasS_n | exact hasS_sl (by simp [hget_cons, hget_skip]) | exact hasS_sg (by simp [hget_cons, hget_skip]) | (simp [hasS_cons, hasS_hit, hasS_hit0, hasS_skip]; done)) (by rw [hQ, hcq]; exact by first | exact hasS_n | exact hasS_sl (by simp [hget_cons, hget_skip]) | exact hasS_sg (by simp [hget_cons, hget_skip]) | (simp [hasS_cons, hasS_hit, hasS_hit0, hasS_skip]; done))
  rcases Bool.eq_false_or_eq_true (decide (sent ≤ fst + 4)) with h2 | h2
  · have hQ : adrQ ⟨att, true, past, fst, lst, gt, plst, pgot, cnt, sum, smo, thr, ovr, ovs, bef, sta⟩ [] sent got = copyQ [] := by simp [adrQ, hE, h1, h2]
    have hT : addT ⟨att, true, past, fst, lst, gt, plst, pgot, cnt, sum, smo, thr, ovr, ovs, bef, sta⟩ [] sent got = ({ (⟨att, true, past, fst, lst, gt, plst, pgot, cnt, sum, smo, thr, ovr, ovs, bef, sta⟩ : Tr) with att := got, lst := max lst sent, got := got }, []) := by have := of_decide_eq_false h1; have h3 := of_decide_eq_true h2; simp [addT, this, h3]
    simp (config := { maxSteps := 400000 }) only [go_sem, Tr.l, k14, k29, k36, k37, trV, Tr.eta, hge, hrd0, hld, hrd2, List.length_nil, Nat.zero_mul, List.take_zero, ha, ha2, hb, w4, h1, h2, simprocAttr]
    exact fin 4 _ _ _ (by decide) (by simp only [adrU, hS, hT, hE, hQ, hcq, beginT, Tr.l, Sh.v]) (by first | exact hasS_n | exact hasS_sl (by simp [hget_cons, hget_skip]) | exact hasS_sg (by simp [hget_cons, hget_skip]) | (simp [hasS_cons, hasS_hit, hasS_hit0, hasS_skip]; done)) (by rw [hQ, hcq]; exact by first | exact hasS_n | exact hasS_sl (by simp [hget_cons, hget_skip]) | exact hasS_sg (by simp [hget_cons, hget_skip]) | (simp [hasS_cons, hasS_hit, hasS_hit0, hasS_skip]; done))
  cases past
  · have hQ : adrQ ⟨att, true, false, fst, lst, gt, plst, pgot, cnt, sum, smo, thr, ovr, ovs, bef, sta⟩ [] sent got = copyQ [] := by simp [adrQ, hE, h1, h2]
    have hT : addT ⟨att, true, false, fst, lst, gt, plst, pgot, cnt, sum, smo, thr, ovr, ovs, bef, sta⟩ [] sent got = (beginT { (⟨att, true, false, fst, lst, gt, plst, pgot, cnt, sum, smo, thr, ovr, ovs, bef, sta⟩ : Tr) with att := got, past := true, plst := lst, pgot := gt } sent got, []) := by have := of_decide_eq_false h1; have h3 := of_decide_eq_false h2; simp [addT, this, h3]
    simp (config := { maxSteps := 400000 }) only [go_sem, Tr.l, k14, k29, k36, k37, trV, Tr.eta, hge, hrd0, hld, hrd2, List.length_nil, Nat.zero_mul, List.take_zero, ha, ha2, hb, w4, h1, h2, simprocAttr]
    exact fin 4 _ _ _ (by decide) (by simp only [adrU, hS, hT, hE, hQ, hcq, beginT, Tr.l, Sh.v]) (by first | exact hasS_n | exact hasS_sl (by simp [hget_cons, hget_skip]) | exact hasS_sg (by simp [hget_cons, hget_skip]) | (simp [hasS_cons, hasS_hit, hasS_hit0, hasS_skip]; done)) (by rw [hQ, hcq]; exact by first | exact hasS_n | exact hasS_sl (by simp [hget_cons, hget_skip]) | exact hasS_sg (by simp [hget_cons, hget_skip]) | (simp [hasS_cons, hasS_hit, hasS_hit0, hasS_skip]; done))
  have hW := good_w (got := got) hg rfl rfl
  have hQ : adrQ ⟨att, true, true, fst, lst, gt, plst, pgot, cnt, sum, smo, thr, ovr, ovs, bef, sta⟩ [] sent got = wQ { (⟨att, true, true, fst, lst, gt, plst, pgot, cnt, sum, smo, thr, ovr, ovs, bef, sta⟩ : Tr) with att := got } [] := by simp [adrQ, hE, h1, h2]
  have hT : addT ⟨att, true, true, fst, lst, gt, plst, pgot, cnt, sum, smo, thr, ovr, ovs, bef, sta⟩ [] sent got = (beginT { (weighT { (⟨att, true, true, fst, lst, gt, plst, pgot, cnt, sum, smo, thr, ovr, ovs, bef, sta⟩ : Tr) with att := got } []).1 with past := true, plst := (weighT { (⟨att, true, true, fst, lst, gt, plst, pgot, cnt, sum, smo, thr, ovr, ovs, bef, sta⟩ : Tr) with att := got } []).1.lst, pgot := (weighT { (⟨att, true, true, fst, lst, gt, plst, pgot, cnt, sum, smo, thr, ovr, ovs, bef, sta⟩ : Tr) with att := got } []).1.got } sent got, (weighT { (⟨att, true, true, fst, lst, gt, plst, pgot, cnt, sum, smo, thr, ovr, ovs, bef, sta⟩ : Tr) with att := got } []).2) := by have := of_decide_eq_false h1; have h3 := of_decide_eq_false h2; simp [addT, this, h3]
  have hwq := (wQ_pts { (⟨att, true, true, fst, lst, gt, plst, pgot, cnt, sum, smo, thr, ovr, ovs, bef, sta⟩ : Tr) with att := got } []).pl
  have WW := wOK_to hW
  obtain ⟨l1, l2, p1, p2, g1, g2, q1, q2, dd1, dd2, _, _, _, _, _, _, _, _, _, _⟩ := WW
  dsimp only at hW hQ hT hwq l1 l2 p1 p2 g1 g2 q1 q2 dd1 dd2
  have z1 : IntKind.i64.wrap (lst - plst) = lst - plst := wrapL (by omega) (by omega)
  have z2 : IntKind.i64.wrap (gt - pgot) = gt - pgot := wrapL (by omega) (by omega)
  by_cases hA : 2000 < max (lst - plst) (gt - pgot)
  · have hk : wKl ⟨got, true, true, fst, lst, gt, plst, pgot, cnt, sum, smo, thr, ovr, ovs, bef, sta⟩ [] = true := by simp only [wKl, decide_eq_true hA, Bool.true_or]
    have hw : weighT ⟨got, true, true, fst, lst, gt, plst, pgot, cnt, sum, smo, thr, ovr, ovs, bef, sta⟩ [] = (clearT ⟨got, true, true, fst, lst, gt, plst, pgot, cnt, sum, smo, thr, ovr, ovs, bef, sta⟩, []) := by rw [weigh_eq, hk]; rfl
    have hq : wQ ⟨got, true, true, fst, lst, gt, plst, pgot, cnt, sum, smo, thr, ovr, ovs, bef, sta⟩ [] = .nil := by rw [wQ, hk]; rfl
    rw [hw] at hT
    rw [hq] at hQ
    have fin2 : ∀ (n : Nat) (r : Hp) (v : AV), v = adrU ⟨att, true, true, fst, lst, gt, plst, pgot, cnt, sum, smo, thr, ovr, ovs, bef, sta⟩ [] sent got 1 → hasS r (Sh.sg kb o 0) 0 → Go.Ab.Ends 1 v r n U H 2 := fun n r v hv hr => fin 1 n r v (by decide) hv hr (by rw [hQ]; exact hasS_n)
    rcases Bool.eq_false_or_eq_true (decide (2000 < lst - plst)) with hd | hd
    · simp (config := { maxSteps := 400000 }) only [go_sem, Tr.l, k14, k29, k36, k37, trV, Tr.eta, hge, hrd0, hld, hrd2, List.length_nil, Nat.zero_mul, List.take_zero, ha, ha2, hb, w4, h1, h2, z1, z2, hd, clearT, simprocAttr]
      exact fin2 _ _ _ (by simp only [adrU, hS, hT, hE, hQ, beginT, clearT, Tr.l, Sh.v]) (by first | exact hasS_n | exact hasS_sl (by simp [hget_cons, hget_skip]) | exact hasS_sg (by simp [hget_cons, hget_skip]) | (simp [hasS_cons, hasS_hit, hasS_hit0, hasS_skip]; done))
    · have hd2 : decide (2000 < gt - pgot) = true := by have := of_decide_eq_false hd; exact decide_eq_true (by omega)
      simp (config := { maxSteps := 400000 }) only [go_sem, Tr.l, k14, k29, k36, k37, trV, Tr.eta, hge, hrd0, hld, hrd2, List.length_nil, Nat.zero_mul, List.take_zero, ha, ha2, hb, w4, h1, h2, z1, z2, hd, hd2, clearT, simprocAttr]
      exact fin2 _ _ _ (by simp only [adrU, hS, hT, hE, hQ, beginT, clearT, Tr.l, Sh.v]) (by first | exact hasS_n | exact hasS_sl (by simp [hget_cons, hget_skip]) | exact hasS_sg (by simp [hget_cons, hget_skip]) | (simp [hasS_cons, hasS_hit, hasS_hit0, hasS_skip]; done))
  · have hd : decide (2000 < lst - plst) = false := decide_eq_false (by omega)
    have hd2 : decide (2000 < gt - pgot) = false := decide_eq_false (by omega)
    have hr : rOK ⟨got, true, true, fst, lst, gt, plst, pgot, cnt, sum, smo, thr, ovr, ovs, bef, sta⟩ [] (lst - plst) (gt - pgot) = true := by
      have hs2 := next_same (y := wSmo ⟨got, true, true, fst, lst, gt, plst, pgot, cnt, sum, smo, thr, ovr, ovs, bef, sta⟩) hg rfl (show gt - pgot ≤ 2000 by omega)
      simp only [rOK, hW, decide_true, Bool.true_and, Bool.and_eq_true, decide_eq_true_eq, beq_iff_eq]
      exact ⟨by omega, hs2⟩
    have hwp : (weighT ⟨got, true, true, fst, lst, gt, plst, pgot, cnt, sum, smo, thr, ovr, ovs, bef, sta⟩ []).1.past = true := weigh_past _ _
    simp (config := { maxSteps := 400000 }) only [go_sem, Tr.l, k14, k29, k36, k37, trV, Tr.eta, hge, hrd0, hld, hrd2, List.length_nil, Nat.zero_mul, List.take_zero, ha, ha2, hb, w4, h1, h2, z1, z2, hd, hd2, hr, hwq, hwp, wU, simprocAttr]
    exact fin 6 _ _ _ (by decide) (by simp only [adrU, hS, hT, hE, hQ, beginT, Tr.l]) (by first | exact hasS_n | exact hasS_sl (by simp [hget_cons, hget_skip]) | exact hasS_sg (by simp [hget_cons, hget_skip]) | (simp [hasS_cons, hasS_hit, hasS_hit0, hasS_skip]; done)) (by rw [hQ]; exact by first | exact hasS_n | exact hasS_sl (by simp [hget_cons, hget_skip]) | exact hasS_sg (by simp [hget_cons, hget_skip]) | (simp [hasS_cons, hasS_hit, hasS_hit0, hasS_skip]; done))
theorem w16f1 (t : Tr) (kb : Blk) (o cap : Nat) (hkb : belL 0 kb.cells = true) (l : List Pt) (h1l : 1 ≤ l.length) (hl : l.length ≤ 1000000) (hc : cellsAt kb.cells o (l.length * 2) = rows Pt.l l) (sent got : Int) : FTL Try.prog 16 [.agg (t.l (.sl 0 o l.length cap)), .i .i64 sent, .i .i64 got] [(0, kb)] 1 (adrU t l sent got 1) ([(0, kb)] ++ (adrQ t l sent got).h 1) 2 := by
  refine FTL.of_iw hT16 mo Try.func16 i16_eq (by simp [i16]) (iw_of_jw ?_)
  dsimp only [i16, T16]
  have fin : ∀ (k n : Nat) (r : Hp) (v : AV), k ≠ 0 → v = adrU t l sent got k → hasS r (Sh.sl kb o l.length cap) 0 → hasS r (adrQ t l sent got) k → Go.Ab.Ends 1 v r n (adrU t l sent got 1) ([(0, kb)] ++ (adrQ t l sent got).h 1) 2 := fun k n r v hk hv h1 h2 => Ends.s1n (s := (Sh.sl kb o l.length cap)) (U := adrU t l sent got) hkb (adrQ_pts t l sent got).pl hk hv (adrU_ren t l sent got) (adrU_bel t l sent got) h1 h2
  have hge := goodR_eq t l
  have hrd0 : rdL ptV 2 (Sh.sl kb o l.length cap) = some l := rd_pts ⟨hkb, rfl, hc⟩
  have hld : decide (l.length ≤ 1000000000000) = true := decide_eq_true (by omega)
  have hcq : copyQ l = .sg { cells := rows Pt.l l, gr := some 2 } 0 l.length := by simp only [copyQ, show ¬ l.length = 0 by omega, if_false]
  have hrd2 : rdL ptV 2 (.sg { cells := rows Pt.l l, gr := some 2 } 0 l.length) = some l := rd_pts (sg_pts l)
  have hc' : List.take (l.length * 2) (List.drop o kb.cells) = rows Pt.l l := hc
  have hrl : (rows Pt.l l).length = l.length * 2 := rows_len Pt.len
  have gm0 : decide (16 * l.length ≤ growMax) = true := decide_eq_true (by simp only [growMax]; omega)
  have e0 : decide (l.length = 0) = false := decide_eq_false (by omega)
  have e00 : decide (l.length ≤ 0) = false := decide_eq_false (by omega)
  obtain ⟨att, st, past, fst, lst, gt, plst, pgot, cnt, sum, smo, thr, ovr, ovs, bef, sta⟩ := t
  generalize hU : adrU ⟨att, st, past, fst, lst, gt, plst, pgot, cnt, sum, smo, thr, ovr, ovs, bef, sta⟩ l sent got 1 = U at *
  generalize hH : [(0, kb)] ++ (adrQ ⟨att, st, past, fst, lst, gt, plst, pgot, cnt, sum, smo, thr, ovr, ovs, bef, sta⟩ l sent got).h 1 = H at *
  cases hg : good ⟨att, st, past, fst, lst, gt, plst, pgot, cnt, sum, smo, thr, ovr, ovs, bef, sta⟩ l
  · rw [hg] at hge
    have hE : addE ⟨att, st, past, fst, lst, gt, plst, pgot, cnt, sum, smo, thr, ovr, ovs, bef, sta⟩ l sent got = 290 := by simp [addE, hg]
    have hQ : adrQ ⟨att, st, past, fst, lst, gt, plst, pgot, cnt, sum, smo, thr, ovr, ovs, bef, sta⟩ l sent got = .nil := by simp [adrQ, hE]
    have hS : addS ⟨att, st, past, fst, lst, gt, plst, pgot, cnt, sum, smo, thr, ovr, ovs, bef, sta⟩ l sent got = (zTr, []) := by simp [addS, hE]
    simp (config := { maxSteps := 400000 }) only [go_sem, Tr.l, k14, k29, k36, k37, trV, Tr.eta, hge, hrd0, hld, hrd2, hc', hrl, gm0, e0, e00, simprocAttr]
    exact fin 1 _ _ _ (by decide) (by simp only [adrU, hS, hE, hQ, zTr, Tr.l, Sh.v]) (by first | exact hasS_n | exact hasS_sl (by simp [hget_cons, hget_skip]) | exact hasS_sg (by simp [hget_cons, hget_skip]) | (simp [hasS_cons, hasS_hit, hasS_hit0, hasS_skip]; done)) (by rw [hQ]; exact hasS_n)
  rw [hg] at hge
  cases ha : inI 0 1099511627776 sent
  · have ha' : (tm sent && tm got) = false := by simp [tm, M40, ha]
    have hE : addE ⟨att, st, past, fst, lst, gt, plst, pgot, cnt, sum, smo, thr, ovr, ovs, bef, sta⟩ l sent got = 2 := by simp [addE, hg, ha']
    have hQ : adrQ ⟨att, st, past, fst, lst, gt, plst, pgot, cnt, sum, smo, thr, ovr, ovs, bef, sta⟩ l sent got = .nil := by simp [adrQ, hE]
    have hS : addS ⟨att, st, past, fst, lst, gt, plst, pgot, cnt, sum, smo, thr, ovr, ovs, bef, sta⟩ l sent got = (zTr, []) := by simp [addS, hE]
    simp (config := { maxSteps := 400000 }) only [go_sem, Tr.l, k14, k29, k36, k37, trV, Tr.eta, hge, hrd0, hld, hrd2, hc', hrl, gm0, e0, e00, ha, simprocAttr]
    exact fin 1 _ _ _ (by decide) (by simp only [adrU, hS, hE, hQ, zTr, Tr.l, Sh.v]) (by first | exact hasS_n | exact hasS_sl (by simp [hget_cons, hget_skip]) | exact hasS_sg (by simp [hget_cons, hget_skip]) | (simp [hasS_cons, hasS_hit, hasS_hit0, hasS_skip]; done)) (by rw [hQ]; exact hasS_n)
  cases ha2 : inI 0 1099511627776 got
  · have ha' : (tm sent && tm got) = false := by simp [tm, M40, ha2]
    have hE : addE ⟨att, st, past, fst, lst, gt, plst, pgot, cnt, sum, smo, thr, ovr, ovs, bef, sta⟩ l sent got = 2 := by simp [addE, hg, ha']
    have hQ : adrQ ⟨att, st, past, fst, lst, gt, plst, pgot, cnt, sum, smo, thr, ovr, ovs, bef, sta⟩ l sent got = .nil := by simp [adrQ, hE]
    have hS : addS ⟨att, st, past, fst, lst, gt, plst, pgot, cnt, sum, smo, thr, ovr, ovs, bef, sta⟩ l sent got = (zTr, []) := by simp [addS, hE]
    simp (config := { maxSteps := 400000 }) only [go_sem, Tr.l, k14, k29, k36, k37, trV, Tr.eta, hge, hrd0, hld, hrd2, hc', hrl, gm0, e0, e00, ha, ha2, simprocAttr]
    exact fin 1 _ _ _ (by decide) (by simp only [adrU, hS, hE, hQ, zTr, Tr.l, Sh.v]) (by first | exact hasS_n | exact hasS_sl (by simp [hget_cons, hget_skip]) | exact hasS_sg (by simp [hget_cons, hget_skip]) | (simp [hasS_cons, hasS_hit, hasS_hit0, hasS_skip]; done)) (by rw [hQ]; exact hasS_n)
  have ha' : (tm sent && tm got) = true := by simp [tm, M40, ha, ha2]
  rcases Bool.eq_false_or_eq_true (decide (got < att)) with hb | hb
  · have hb' : decide (got < att) = true := hb
    have hE : addE ⟨att, st, past, fst, lst, gt, plst, pgot, cnt, sum, smo, thr, ovr, ovs, bef, sta⟩ l sent got = 2 := by simp only [addE, hg, ha', hb]; rfl
    have hQ : adrQ ⟨att, st, past, fst, lst, gt, plst, pgot, cnt, sum, smo, thr, ovr, ovs, bef, sta⟩ l sent got = .nil := by simp [adrQ, hE]
    have hS : addS ⟨att, st, past, fst, lst, gt, plst, pgot, cnt, sum, smo, thr, ovr, ovs, bef, sta⟩ l sent got = (zTr, []) := by simp [addS, hE]
    simp (config := { maxSteps := 400000 }) only [go_sem, Tr.l, k14, k29, k36, k37, trV, Tr.eta, hge, hrd0, hld, hrd2, hc', hrl, gm0, e0, e00, ha, ha2, hb, simprocAttr]
    exact fin 1 _ _ _ (by decide) (by simp only [adrU, hS, hE, hQ, zTr, Tr.l, Sh.v]) (by first | exact hasS_n | exact hasS_sl (by simp [hget_cons, hget_skip]) | exact hasS_sg (by simp [hget_cons, hget_skip]) | (simp [hasS_cons, hasS_hit, hasS_hit0, hasS_skip]; done)) (by rw [hQ]; exact hasS_n)
  have hE : addE ⟨att, st, past, fst, lst, gt, plst, pgot, cnt, sum, smo, thr, ovr, ovs, bef, sta⟩ l sent got = 0 := by simp only [addE, hg, ha', hb]; rfl
  have hS : addS ⟨att, st, past, fst, lst, gt, plst, pgot, cnt, sum, smo, thr, ovr, ovs, bef, sta⟩ l sent got = addT ⟨att, st, past, fst, lst, gt, plst, pgot, cnt, sum, smo, thr, ovr, ovs, bef, sta⟩ l sent got := by simp [addS, hE]
  obtain ⟨gf, gl⟩ := good_rng hg
  dsimp only at gf
  have w4 : IntKind.i64.wrap (fst + 4) = fst + 4 := wrapL (by omega) (by omega)
  have hcp := (copyQ_pts l).pl
  cases st
  · have hQ : adrQ ⟨att, false, past, fst, lst, gt, plst, pgot, cnt, sum, smo, thr, ovr, ovs, bef, sta⟩ l sent got = copyQ l := by simp [adrQ, hE]
    have hT : addT ⟨att, false, past, fst, lst, gt, plst, pgot, cnt, sum, smo, thr, ovr, ovs, bef, sta⟩ l sent got = (beginT { (⟨att, false, past, fst, lst, gt, plst, pgot, cnt, sum, smo, thr, ovr, ovs, bef, sta⟩ : Tr) with att := got, st := true } sent got, l) := by simp [addT]
    simp (config := { maxSteps := 400000 }) only [go_sem, Tr.l, k14, k29, k36, k37, trV, Tr.eta, hge, hrd0, hld, hrd2, hc', hrl, gm0, e0, e00, ha, ha2, hb, w4, simprocAttr]
    exact fin 5 _ _ _ (by decide) (by simp only [adrU, hS, hT, hE, hQ, hcq, beginT, Tr.l, Sh.v]) (by first | exact hasS_n | exact hasS_sl (by simp [hget_cons, hget_skip]) | exact hasS_sg (by simp [hget_cons, hget_skip]) | (simp [hasS_cons, hasS_hit, hasS_hit0, hasS_skip]; done)) (by rw [hQ, hcq]; exact by first | exact hasS_n | exact hasS_sl (by simp [hget_cons, hget_skip]) | exact hasS_sg (by simp [hget_cons, hget_skip]) | (simp [hasS_cons, hasS_hit, hasS_hit0, hasS_skip]; done))
  rcases Bool.eq_false_or_eq_true (decide (sent < fst)) with h1 | h1
  · have hQ : adrQ ⟨att, true, past, fst, lst, gt, plst, pgot, cnt, sum, smo, thr, ovr, ovs, bef, sta⟩ l sent got = copyQ l := by simp [adrQ, hE, h1]
    have hT : addT ⟨att, true, past, fst, lst, gt, plst, pgot, cnt, sum, smo, thr, ovr, ovs, bef, sta⟩ l sent got = ({ (⟨att, true, past, fst, lst, gt, plst, pgot, cnt, sum, smo, thr, ovr, ovs, bef, sta⟩ : Tr) with att := got }, l) := by have := of_decide_eq_true h1; simp [addT, this]
    simp (config := { maxSteps := 400000 }) only [go_sem, Tr.l, k14, k29, k36, k37, trV, Tr.eta, hge, hrd0, hld, hrd2, hc', hrl, gm0, e0, e00, ha, ha2, hb, w4, h1, simprocAttr]
    exact fin 5 _ _ _ (by decide) (by simp only [adrU, hS, hT, hE, hQ, hcq, beginT, Tr.l, Sh.v]) (by first | exact hasS_n | exact hasS_sl (by simp [hget_cons, hget_skip]) | exact hasS_sg (by simp [hget_cons, hget_skip]) | (simp [hasS_cons, hasS_hit, hasS_hit0, hasS_skip]; done)) (by rw [hQ, hcq]; exact by first | exact hasS_n | exact hasS_sl (by simp [hget_cons, hget_skip]) | exact hasS_sg (by simp [hget_cons, hget_skip]) | (simp [hasS_cons, hasS_hit, hasS_hit0, hasS_skip]; done))
  rcases Bool.eq_false_or_eq_true (decide (sent ≤ fst + 4)) with h2 | h2
  · have hQ : adrQ ⟨att, true, past, fst, lst, gt, plst, pgot, cnt, sum, smo, thr, ovr, ovs, bef, sta⟩ l sent got = copyQ l := by simp [adrQ, hE, h1, h2]
    have hT : addT ⟨att, true, past, fst, lst, gt, plst, pgot, cnt, sum, smo, thr, ovr, ovs, bef, sta⟩ l sent got = ({ (⟨att, true, past, fst, lst, gt, plst, pgot, cnt, sum, smo, thr, ovr, ovs, bef, sta⟩ : Tr) with att := got, lst := max lst sent, got := got }, l) := by have := of_decide_eq_false h1; have h3 := of_decide_eq_true h2; simp [addT, this, h3]
    simp (config := { maxSteps := 400000 }) only [go_sem, Tr.l, k14, k29, k36, k37, trV, Tr.eta, hge, hrd0, hld, hrd2, hc', hrl, gm0, e0, e00, ha, ha2, hb, w4, h1, h2, simprocAttr]
    exact fin 5 _ _ _ (by decide) (by simp only [adrU, hS, hT, hE, hQ, hcq, beginT, Tr.l, Sh.v]) (by first | exact hasS_n | exact hasS_sl (by simp [hget_cons, hget_skip]) | exact hasS_sg (by simp [hget_cons, hget_skip]) | (simp [hasS_cons, hasS_hit, hasS_hit0, hasS_skip]; done)) (by rw [hQ, hcq]; exact by first | exact hasS_n | exact hasS_sl (by simp [hget_cons, hget_skip]) | exact hasS_sg (by simp [hget_cons, hget_skip]) | (simp [hasS_cons, hasS_hit, hasS_hit0, hasS_skip]; done))
  cases past
  · have hQ : adrQ ⟨att, true, false, fst, lst, gt, plst, pgot, cnt, sum, smo, thr, ovr, ovs, bef, sta⟩ l sent got = copyQ l := by simp [adrQ, hE, h1, h2]
    have hT : addT ⟨att, true, false, fst, lst, gt, plst, pgot, cnt, sum, smo, thr, ovr, ovs, bef, sta⟩ l sent got = (beginT { (⟨att, true, false, fst, lst, gt, plst, pgot, cnt, sum, smo, thr, ovr, ovs, bef, sta⟩ : Tr) with att := got, past := true, plst := lst, pgot := gt } sent got, l) := by have := of_decide_eq_false h1; have h3 := of_decide_eq_false h2; simp [addT, this, h3]
    simp (config := { maxSteps := 400000 }) only [go_sem, Tr.l, k14, k29, k36, k37, trV, Tr.eta, hge, hrd0, hld, hrd2, hc', hrl, gm0, e0, e00, ha, ha2, hb, w4, h1, h2, simprocAttr]
    exact fin 5 _ _ _ (by decide) (by simp only [adrU, hS, hT, hE, hQ, hcq, beginT, Tr.l, Sh.v]) (by first | exact hasS_n | exact hasS_sl (by simp [hget_cons, hget_skip]) | exact hasS_sg (by simp [hget_cons, hget_skip]) | (simp [hasS_cons, hasS_hit, hasS_hit0, hasS_skip]; done)) (by rw [hQ, hcq]; exact by first | exact hasS_n | exact hasS_sl (by simp [hget_cons, hget_skip]) | exact hasS_sg (by simp [hget_cons, hget_skip]) | (simp [hasS_cons, hasS_hit, hasS_hit0, hasS_skip]; done))
  have hW := good_w (got := got) hg rfl rfl
  have hQ : adrQ ⟨att, true, true, fst, lst, gt, plst, pgot, cnt, sum, smo, thr, ovr, ovs, bef, sta⟩ l sent got = wQ { (⟨att, true, true, fst, lst, gt, plst, pgot, cnt, sum, smo, thr, ovr, ovs, bef, sta⟩ : Tr) with att := got } l := by simp [adrQ, hE, h1, h2]
  have hT : addT ⟨att, true, true, fst, lst, gt, plst, pgot, cnt, sum, smo, thr, ovr, ovs, bef, sta⟩ l sent got = (beginT { (weighT { (⟨att, true, true, fst, lst, gt, plst, pgot, cnt, sum, smo, thr, ovr, ovs, bef, sta⟩ : Tr) with att := got } l).1 with past := true, plst := (weighT { (⟨att, true, true, fst, lst, gt, plst, pgot, cnt, sum, smo, thr, ovr, ovs, bef, sta⟩ : Tr) with att := got } l).1.lst, pgot := (weighT { (⟨att, true, true, fst, lst, gt, plst, pgot, cnt, sum, smo, thr, ovr, ovs, bef, sta⟩ : Tr) with att := got } l).1.got } sent got, (weighT { (⟨att, true, true, fst, lst, gt, plst, pgot, cnt, sum, smo, thr, ovr, ovs, bef, sta⟩ : Tr) with att := got } l).2) := by have := of_decide_eq_false h1; have h3 := of_decide_eq_false h2; simp [addT, this, h3]
  have hwq := (wQ_pts { (⟨att, true, true, fst, lst, gt, plst, pgot, cnt, sum, smo, thr, ovr, ovs, bef, sta⟩ : Tr) with att := got } l).pl
  have WW := wOK_to hW
  obtain ⟨l1, l2, p1, p2, g1, g2, q1, q2, dd1, dd2, _, _, _, _, _, _, _, _, _, _⟩ := WW
  dsimp only at hW hQ hT hwq l1 l2 p1 p2 g1 g2 q1 q2 dd1 dd2
  have z1 : IntKind.i64.wrap (lst - plst) = lst - plst := wrapL (by omega) (by omega)
  have z2 : IntKind.i64.wrap (gt - pgot) = gt - pgot := wrapL (by omega) (by omega)
  by_cases hA : 2000 < max (lst - plst) (gt - pgot)
  · have hk : wKl ⟨got, true, true, fst, lst, gt, plst, pgot, cnt, sum, smo, thr, ovr, ovs, bef, sta⟩ l = true := by simp only [wKl, decide_eq_true hA, Bool.true_or]
    have hw : weighT ⟨got, true, true, fst, lst, gt, plst, pgot, cnt, sum, smo, thr, ovr, ovs, bef, sta⟩ l = (clearT ⟨got, true, true, fst, lst, gt, plst, pgot, cnt, sum, smo, thr, ovr, ovs, bef, sta⟩, []) := by rw [weigh_eq, hk]; rfl
    have hq : wQ ⟨got, true, true, fst, lst, gt, plst, pgot, cnt, sum, smo, thr, ovr, ovs, bef, sta⟩ l = .nil := by rw [wQ, hk]; rfl
    rw [hw] at hT
    rw [hq] at hQ
    have fin2 : ∀ (n : Nat) (r : Hp) (v : AV), v = adrU ⟨att, true, true, fst, lst, gt, plst, pgot, cnt, sum, smo, thr, ovr, ovs, bef, sta⟩ l sent got 1 → hasS r (Sh.sl kb o l.length cap) 0 → Go.Ab.Ends 1 v r n U H 2 := fun n r v hv hr => fin 1 n r v (by decide) hv hr (by rw [hQ]; exact hasS_n)
    rcases Bool.eq_false_or_eq_true (decide (2000 < lst - plst)) with hd | hd
    · simp (config := { maxSteps := 400000 }) only [go_sem, Tr.l, k14, k29, k36, k37, trV, Tr.eta, hge, hrd0, hld, hrd2, hc', hrl, gm0, e0, e00, ha, ha2, hb, w4, h1, h2, z1, z2, hd, clearT, simprocAttr]
      exact fin2 _ _ _ (by simp only [adrU, hS, hT, hE, hQ, beginT, clearT, Tr.l, Sh.v]) (by first | exact hasS_n | exact hasS_sl (by simp [hget_cons, hget_skip]) | exact hasS_sg (by simp [hget_cons, hget_skip]) | (simp [hasS_cons, hasS_hit, hasS_hit0, hasS_skip]; done))
    · have hd2 : decide (2000 < gt - pgot) = true := by have := of_decide_eq_false hd; exact decide_eq_true (by omega)
      simp (config := { maxSteps := 400000 }) only [go_sem, Tr.l, k14, k29, k36, k37, trV, Tr.eta, hge, hrd0, hld, hrd2, hc', hrl, gm0, e0, e00, ha, ha2, hb, w4, h1, h2, z1, z2, hd, hd2, clearT, simprocAttr]
      exact fin2 _ _ _ (by simp only [adrU, hS, hT, hE, hQ, beginT, clearT, Tr.l, Sh.v]) (by first | exact hasS_n | exact hasS_sl (by simp [hget_cons, hget_skip]) | exact hasS_sg (by simp [hget_cons, hget_skip]) | (simp [hasS_cons, hasS_hit, hasS_hit0, hasS_skip]; done))
  · have hd : decide (2000 < lst - plst) = false := decide_eq_false (by omega)
    have hd2 : decide (2000 < gt - pgot) = false := decide_eq_false (by omega)
    have hr : rOK ⟨got, true, true, fst, lst, gt, plst, pgot, cnt, sum, smo, thr, ovr, ovs, bef, sta⟩ l (lst - plst) (gt - pgot) = true := by
      have hs2 := next_same (y := wSmo ⟨got, true, true, fst, lst, gt, plst, pgot, cnt, sum, smo, thr, ovr, ovs, bef, sta⟩) hg rfl (show gt - pgot ≤ 2000 by omega)
      simp only [rOK, hW, decide_true, Bool.true_and, Bool.and_eq_true, decide_eq_true_eq, beq_iff_eq]
      exact ⟨by omega, hs2⟩
    have hwp : (weighT ⟨got, true, true, fst, lst, gt, plst, pgot, cnt, sum, smo, thr, ovr, ovs, bef, sta⟩ l).1.past = true := weigh_past _ _
    simp (config := { maxSteps := 400000 }) only [go_sem, Tr.l, k14, k29, k36, k37, trV, Tr.eta, hge, hrd0, hld, hrd2, hc', hrl, gm0, e0, e00, ha, ha2, hb, w4, h1, h2, z1, z2, hd, hd2, hr, hwq, hwp, wU, simprocAttr]
    exact fin 7 _ _ _ (by decide) (by simp only [adrU, hS, hT, hE, hQ, beginT, Tr.l]) (by first | exact hasS_n | exact hasS_sl (by simp [hget_cons, hget_skip]) | exact hasS_sg (by simp [hget_cons, hget_skip]) | (simp [hasS_cons, hasS_hit, hasS_hit0, hasS_skip]; done)) (by rw [hQ]; exact by first | exact hasS_n | exact hasS_sl (by simp [hget_cons, hget_skip]) | exact hasS_sg (by simp [hget_cons, hget_skip]) | (simp [hasS_cons, hasS_hit, hasS_hit0, hasS_skip]; done))
theorem w16f2 (t : Tr) (kb : Blk) (o : Nat) (hkb : belL 0 kb.cells = true) (l : List Pt) (h1l : 1 ≤ l.length) (hl : l.length ≤ 1000000) (hc : cellsAt kb.cells o (l.length * 2) = rows Pt.l l) (sent got : Int) : FTL Try.prog 16 [.agg (t.l (.sg 0 o l.length)), .i .i64 sent, .i .i64 got] [(0, kb)] 1 (adrU t l sent got 1) ([(0, kb)] ++ (adrQ t l sent got).h 1) 2 := by
  refine FTL.of_iw hT16 mo Try.func16 i16_eq (by simp [i16]) (iw_of_jw ?_)
  dsimp only [i16, T16]
  have fin : ∀ (k n : Nat) (r : Hp) (v : AV), k ≠ 0 → v = adrU t l sent got k → hasS r (Sh.sg kb o l.length) 0 → hasS r (adrQ t l sent got) k → Go.Ab.Ends 1 v r n (adrU t l sent got 1) ([(0, kb)] ++ (adrQ t l sent got).h 1) 2 := fun k n r v hk hv h1 h2 => Ends.s1n (s := (Sh.sg kb o l.length)) (U := adrU t l sent got) hkb (adrQ_pts t l sent got).pl hk hv (adrU_ren t l sent got) (adrU_bel t l sent got) h1 h2
  have hge := goodR_eq t l
  have hrd0 : rdL ptV 2 (Sh.sg kb o l.length) = some l := rd_pts ⟨hkb, rfl, hc⟩
  have hld : decide (l.length ≤ 1000000000000) = true := decide_eq_true (by omega)
  have hcq : copyQ l = .sg { cells := rows Pt.l l, gr := some 2 } 0 l.length := by simp only [copyQ, show ¬ l.length = 0 by omega, if_false]
  have hrd2 : rdL ptV 2 (.sg { cells := rows Pt.l l, gr := some 2 } 0 l.length) = some l := rd_pts (sg_pts l)
  have hc' : List.take (l.length * 2) (List.drop o kb.cells) = rows Pt.l l := hc
  have hrl : (rows Pt.l l).length = l.length * 2 := rows_len Pt.len
  have gm0 : decide (16 * l.length ≤ growMax) = true := decide_eq_true (by simp only [growMax]; omega)
  have e0 : decide (l.length = 0) = false := decide_eq_false (by omega)
  have e00 : decide (l.length ≤ 0) = false := decide_eq_false (by omega)
  obtain ⟨att, st, past, fst, lst, gt, plst, pgot, cnt, sum, smo, thr, ovr, ovs, bef, sta⟩ := t
  generalize hU : adrU ⟨att, st, past, fst, lst, gt, plst, pgot, cnt, sum, smo, thr, ovr, ovs, bef, sta⟩ l sent got 1 = U at *
  generalize hH : [(0, kb)] ++ (adrQ ⟨att, st, past, fst, lst, gt, plst, pgot, cnt, sum, smo, thr, ovr, ovs, bef, sta⟩ l sent got).h 1 = H at *
  cases hg : good ⟨att, st, past, fst, lst, gt, plst, pgot, cnt, sum, smo, thr, ovr, ovs, bef, sta⟩ l
  · rw [hg] at hge
    have hE : addE ⟨att, st, past, fst, lst, gt, plst, pgot, cnt, sum, smo, thr, ovr, ovs, bef, sta⟩ l sent got = 290 := by simp [addE, hg]
    have hQ : adrQ ⟨att, st, past, fst, lst, gt, plst, pgot, cnt, sum, smo, thr, ovr, ovs, bef, sta⟩ l sent got = .nil := by simp [adrQ, hE]
    have hS : addS ⟨att, st, past, fst, lst, gt, plst, pgot, cnt, sum, smo, thr, ovr, ovs, bef, sta⟩ l sent got = (zTr, []) := by simp [addS, hE]
    simp (config := { maxSteps := 400000 }) only [go_sem, Tr.l, k14, k29, k36, k37, trV, Tr.eta, hge, hrd0, hld, hrd2, hc', hrl, gm0, e0, e00, simprocAttr]
    exact fin 1 _ _ _ (by decide) (by simp only [adrU, hS, hE, hQ, zTr, Tr.l, Sh.v]) (by first | exact hasS_n | exact hasS_sl (by simp [hget_cons, hget_skip]) | exact hasS_sg (by simp [hget_cons, hget_skip]) | (simp [hasS_cons, hasS_hit, hasS_hit0, hasS_skip]; done)) (by rw [hQ]; exact hasS_n)
  rw [hg] at hge
  cases ha : inI 0 1099511627776 sent
  · have ha' : (tm sent && tm got) = false := by simp [tm, M40, ha]
    have hE : addE ⟨att, st, past, fst, lst, gt, plst, pgot, cnt, sum, smo, thr, ovr, ovs, bef, sta⟩ l sent got = 2 := by simp [addE, hg, ha']
    have hQ : adrQ ⟨att, st, past, fst, lst, gt, plst, pgot, cnt, sum, smo, thr, ovr, ovs, bef, sta⟩ l sent got = .nil := by simp [adrQ, hE]
    have hS : addS ⟨att, st, past, fst, lst, gt, plst, pgot, cnt, sum, smo, thr, ovr, ovs, bef, sta⟩ l sent got = (zTr, []) := by simp [addS, hE]
    simp (config := { maxSteps := 400000 }) only [go_sem, Tr.l, k14, k29, k36, k37, trV, Tr.eta, hge, hrd0, hld, hrd2, hc', hrl, gm0, e0, e00, ha, simprocAttr]
    exact fin 1 _ _ _ (by decide) (by simp only [adrU, hS, hE, hQ, zTr, Tr.l, Sh.v]) (by first | exact hasS_n | exact hasS_sl (by simp [hget_cons, hget_skip]) | exact hasS_sg (by simp [hget_cons, hget_skip]) | (simp [hasS_cons, hasS_hit, hasS_hit0, hasS_skip]; done)) (by rw [hQ]; exact hasS_n)
  cases ha2 : inI 0 1099511627776 got
  · have ha' : (tm sent && tm got) = false := by simp [tm, M40, ha2]
    have hE : addE ⟨att, st, past, fst, lst, gt, plst, pgot, cnt, sum, smo, thr, ovr, ovs, bef, sta⟩ l sent got = 2 := by simp [addE, hg, ha']
    have hQ : adrQ ⟨att, st, past, fst, lst, gt, plst, pgot, cnt, sum, smo, thr, ovr, ovs, bef, sta⟩ l sent got = .nil := by simp [adrQ, hE]
    have hS : addS ⟨att, st, past, fst, lst, gt, plst, pgot, cnt, sum, smo, thr, ovr, ovs, bef, sta⟩ l sent got = (zTr, []) := by simp [addS, hE]
    simp (config := { maxSteps := 400000 }) only [go_sem, Tr.l, k14, k29, k36, k37, trV, Tr.eta, hge, hrd0, hld, hrd2, hc', hrl, gm0, e0, e00, ha, ha2, simprocAttr]
    exact fin 1 _ _ _ (by decide) (by simp only [adrU, hS, hE, hQ, zTr, Tr.l, Sh.v]) (by first | exact hasS_n | exact hasS_sl (by simp [hget_cons, hget_skip]) | exact hasS_sg (by simp [hget_cons, hget_skip]) | (simp [hasS_cons, hasS_hit, hasS_hit0, hasS_skip]; done)) (by rw [hQ]; exact hasS_n)
  have ha' : (tm sent && tm got) = true := by simp [tm, M40, ha, ha2]
  rcases Bool.eq_false_or_eq_true (decide (got < att)) with hb | hb
  · have hb' : decide (got < att) = true := hb
    have hE : addE ⟨att, st, past, fst, lst, gt, plst, pgot, cnt, sum, smo, thr, ovr, ovs, bef, sta⟩ l sent got = 2 := by simp only [addE, hg, ha', hb]; rfl
    have hQ : adrQ ⟨att, st, past, fst, lst, gt, plst, pgot, cnt, sum, smo, thr, ovr, ovs, bef, sta⟩ l sent got = .nil := by simp [adrQ, hE]
    have hS : addS ⟨att, st, past, fst, lst, gt, plst, pgot, cnt, sum, smo, thr, ovr, ovs, bef, sta⟩ l sent got = (zTr, []) := by simp [addS, hE]
    simp (config := { maxSteps := 400000 }) only [go_sem, Tr.l, k14, k29, k36, k37, trV, Tr.eta, hge, hrd0, hld, hrd2, hc', hrl, gm0, e0, e00, ha, ha2, hb, simprocAttr]
    exact fin 1 _ _ _ (by decide) (by simp only [adrU, hS, hE, hQ, zTr, Tr.l, Sh.v]) (by first | exact hasS_n | exact hasS_sl (by simp [hget_cons, hget_skip]) | exact hasS_sg (by simp [hget_cons, hget_skip]) | (simp [hasS_cons, hasS_hit, hasS_hit0, hasS_skip]; done)) (by rw [hQ]; exact hasS_n)
  have hE : addE ⟨att, st, past, fst, lst, gt, plst, pgot, cnt, sum, smo, thr, ovr, ovs, bef, sta⟩ l sent got = 0 := by simp only [addE, hg, ha', hb]; rfl
  have hS : addS ⟨att, st, past, fst, lst, gt, plst, pgot, cnt, sum, smo, thr, ovr, ovs, bef, sta⟩ l sent got = addT ⟨att, st, past, fst, lst, gt, plst, pgot, cnt, sum, smo, thr, ovr, ovs, bef, sta⟩ l sent got := by simp [addS, hE]
  obtain ⟨gf, gl⟩ := good_rng hg
  dsimp only at gf
  have w4 : IntKind.i64.wrap (fst + 4) = fst + 4 := wrapL (by omega) (by omega)
  have hcp := (copyQ_pts l).pl
  cases st
  · have hQ : adrQ ⟨att, false, past, fst, lst, gt, plst, pgot, cnt, sum, smo, thr, ovr, ovs, bef, sta⟩ l sent got = copyQ l := by simp [adrQ, hE]
    have hT : addT ⟨att, false, past, fst, lst, gt, plst, pgot, cnt, sum, smo, thr, ovr, ovs, bef, sta⟩ l sent got = (beginT { (⟨att, false, past, fst, lst, gt, plst, pgot, cnt, sum, smo, thr, ovr, ovs, bef, sta⟩ : Tr) with att := got, st := true } sent got, l) := by simp [addT]
    simp (config := { maxSteps := 400000 }) only [go_sem, Tr.l, k14, k29, k36, k37, trV, Tr.eta, hge, hrd0, hld, hrd2, hc', hrl, gm0, e0, e00, ha, ha2, hb, w4, simprocAttr]
    exact fin 5 _ _ _ (by decide) (by simp only [adrU, hS, hT, hE, hQ, hcq, beginT, Tr.l, Sh.v]) (by first | exact hasS_n | exact hasS_sl (by simp [hget_cons, hget_skip]) | exact hasS_sg (by simp [hget_cons, hget_skip]) | (simp [hasS_cons, hasS_hit, hasS_hit0, hasS_skip]; done)) (by rw [hQ, hcq]; exact by first | exact hasS_n | exact hasS_sl (by simp [hget_cons, hget_skip]) | exact hasS_sg (by simp [hget_cons, hget_skip]) | (simp [hasS_cons, hasS_hit, hasS_hit0, hasS_skip]; done))
  rcases Bool.eq_false_or_eq_true (decide (sent < fst)) with h1 | h1
  · have hQ : adrQ ⟨att, true, past, fst, lst, gt, plst, pgot, cnt, sum, smo, thr, ovr, ovs, bef, sta⟩ l sent got = copyQ l := by simp [adrQ, hE, h1]
    have hT : addT ⟨att, true, past, fst, lst, gt, plst, pgot, cnt, sum, smo, thr, ovr, ovs, bef, sta⟩ l sent got = ({ (⟨att, true, past, fst, lst, gt, plst, pgot, cnt, sum, smo, thr, ovr, ovs, bef, sta⟩ : Tr) with att := got }, l) := by have := of_decide_eq_true h1; simp [addT, this]
    simp (config := { maxSteps := 400000 }) only [go_sem, Tr.l, k14, k29, k36, k37, trV, Tr.eta, hge, hrd0, hld, hrd2, hc', hrl, gm0, e0, e00, ha, ha2, hb, w4, h1, simprocAttr]
    exact fin 5 _ _ _ (by decide) (by simp only [adrU, hS, hT, hE, hQ, hcq, beginT, Tr.l, Sh.v]) (by first | exact hasS_n | exact hasS_sl (by simp [hget_cons, hget_skip]) | exact hasS_sg (by simp [hget_cons, hget_skip]) | (simp [hasS_cons, hasS_hit, hasS_hit0, hasS_skip]; done)) (by rw [hQ, hcq]; exact by first | exact hasS_n | exact hasS_sl (by simp [hget_cons, hget_skip]) | exact hasS_sg (by simp [hget_cons, hget_skip]) | (simp [hasS_cons, hasS_hit, hasS_hit0, hasS_skip]; done))
  rcases Bool.eq_false_or_eq_true (decide (sent ≤ fst + 4)) with h2 | h2
  · have hQ : adrQ ⟨att, true, past, fst, lst, gt, plst, pgot, cnt, sum, smo, thr, ovr, ovs, bef, sta⟩ l sent got = copyQ l := by simp [adrQ, hE, h1, h2]
    have hT : addT ⟨att, true, past, fst, lst, gt, plst, pgot, cnt, sum, smo, thr, ovr, ovs, bef, sta⟩ l sent got = ({ (⟨att, true, past, fst, lst, gt, plst, pgot, cnt, sum, smo, thr, ovr, ovs, bef, sta⟩ : Tr) with att := got, lst := max lst sent, got := got }, l) := by have := of_decide_eq_false h1; have h3 := of_decide_eq_true h2; simp [addT, this, h3]
    simp (config := { maxSteps := 400000 }) only [go_sem, Tr.l, k14, k29, k36, k37, trV, Tr.eta, hge, hrd0, hld, hrd2, hc', hrl, gm0, e0, e00, ha, ha2, hb, w4, h1, h2, simprocAttr]
    exact fin 5 _ _ _ (by decide) (by simp only [adrU, hS, hT, hE, hQ, hcq, beginT, Tr.l, Sh.v]) (by first | exact hasS_n | exact hasS_sl (by simp [hget_cons, hget_skip]) | exact hasS_sg (by simp [hget_cons, hget_skip]) | (simp [hasS_cons, hasS_hit, hasS_hit0, hasS_skip]; done)) (by rw [hQ, hcq]; exact by first | exact hasS_n | exact hasS_sl (by simp [hget_cons, hget_skip]) | exact hasS_sg (by simp [hget_cons, hget_skip]) | (simp [hasS_cons, hasS_hit, hasS_hit0, hasS_skip]; done))
  cases past
  · have hQ : adrQ ⟨att, true, false, fst, lst, gt, plst, pgot, cnt, sum, smo, thr, ovr, ovs, bef, sta⟩ l sent got = copyQ l := by simp [adrQ, hE, h1, h2]
    have hT : addT ⟨att, true, false, fst, lst, gt, plst, pgot, cnt, sum, smo, thr, ovr, ovs, bef, sta⟩ l sent got = (beginT { (⟨att, true, false, fst, lst, gt, plst, pgot, cnt, sum, smo, thr, ovr, ovs, bef, sta⟩ : Tr) with att := got, past := true, plst := lst, pgot := gt } sent got, l) := by have := of_decide_eq_false h1; have h3 := of_decide_eq_false h2; simp [addT, this, h3]
    simp (config := { maxSteps := 400000 }) only [go_sem, Tr.l, k14, k29, k36, k37, trV, Tr.eta, hge, hrd0, hld, hrd2, hc', hrl, gm0, e0, e00, ha, ha2, hb, w4, h1, h2, simprocAttr]
    exact fin 5 _ _ _ (by decide) (by simp only [adrU, hS, hT, hE, hQ, hcq, beginT, Tr.l, Sh.v]) (by first | exact hasS_n | exact hasS_sl (by simp [hget_cons, hget_skip]) | exact hasS_sg (by simp [hget_cons, hget_skip]) | (simp [hasS_cons, hasS_hit, hasS_hit0, hasS_skip]; done)) (by rw [hQ, hcq]; exact by first | exact hasS_n | exact hasS_sl (by simp [hget_cons, hget_skip]) | exact hasS_sg (by simp [hget_cons, hget_skip]) | (simp [hasS_cons, hasS_hit, hasS_hit0, hasS_skip]; done))
  have hW := good_w (got := got) hg rfl rfl
  have hQ : adrQ ⟨att, true, true, fst, lst, gt, plst, pgot, cnt, sum, smo, thr, ovr, ovs, bef, sta⟩ l sent got = wQ { (⟨att, true, true, fst, lst, gt, plst, pgot, cnt, sum, smo, thr, ovr, ovs, bef, sta⟩ : Tr) with att := got } l := by simp [adrQ, hE, h1, h2]
  have hT : addT ⟨att, true, true, fst, lst, gt, plst, pgot, cnt, sum, smo, thr, ovr, ovs, bef, sta⟩ l sent got = (beginT { (weighT { (⟨att, true, true, fst, lst, gt, plst, pgot, cnt, sum, smo, thr, ovr, ovs, bef, sta⟩ : Tr) with att := got } l).1 with past := true, plst := (weighT { (⟨att, true, true, fst, lst, gt, plst, pgot, cnt, sum, smo, thr, ovr, ovs, bef, sta⟩ : Tr) with att := got } l).1.lst, pgot := (weighT { (⟨att, true, true, fst, lst, gt, plst, pgot, cnt, sum, smo, thr, ovr, ovs, bef, sta⟩ : Tr) with att := got } l).1.got } sent got, (weighT { (⟨att, true, true, fst, lst, gt, plst, pgot, cnt, sum, smo, thr, ovr, ovs, bef, sta⟩ : Tr) with att := got } l).2) := by have := of_decide_eq_false h1; have h3 := of_decide_eq_false h2; simp [addT, this, h3]
  have hwq := (wQ_pts { (⟨att, true, true, fst, lst, gt, plst, pgot, cnt, sum, smo, thr, ovr, ovs, bef, sta⟩ : Tr) with att := got } l).pl
  have WW := wOK_to hW
  obtain ⟨l1, l2, p1, p2, g1, g2, q1, q2, dd1, dd2, _, _, _, _, _, _, _, _, _, _⟩ := WW
  dsimp only at hW hQ hT hwq l1 l2 p1 p2 g1 g2 q1 q2 dd1 dd2
  have z1 : IntKind.i64.wrap (lst - plst) = lst - plst := wrapL (by omega) (by omega)
  have z2 : IntKind.i64.wrap (gt - pgot) = gt - pgot := wrapL (by omega) (by omega)
  by_cases hA : 2000 < max (lst - plst) (gt - pgot)
  · have hk : wKl ⟨got, true, true, fst, lst, gt, plst, pgot, cnt, sum, smo, thr, ovr, ovs, bef, sta⟩ l = true := by simp only [wKl, decide_eq_true hA, Bool.true_or]
    have hw : weighT ⟨got, true, true, fst, lst, gt, plst, pgot, cnt, sum, smo, thr, ovr, ovs, bef, sta⟩ l = (clearT ⟨got, true, true, fst, lst, gt, plst, pgot, cnt, sum, smo, thr, ovr, ovs, bef, sta⟩, []) := by rw [weigh_eq, hk]; rfl
    have hq : wQ ⟨got, true, true, fst, lst, gt, plst, pgot, cnt, sum, smo, thr, ovr, ovs, bef, sta⟩ l = .nil := by rw [wQ, hk]; rfl
    rw [hw] at hT
    rw [hq] at hQ
    have fin2 : ∀ (n : Nat) (r : Hp) (v : AV), v = adrU ⟨att, true, true, fst, lst, gt, plst, pgot, cnt, sum, smo, thr, ovr, ovs, bef, sta⟩ l sent got 1 → hasS r (Sh.sg kb o l.length) 0 → Go.Ab.Ends 1 v r n U H 2 := fun n r v hv hr => fin 1 n r v (by decide) hv hr (by rw [hQ]; exact hasS_n)
    rcases Bool.eq_false_or_eq_true (decide (2000 < lst - plst)) with hd | hd
    · simp (config := { maxSteps := 400000 }) only [go_sem, Tr.l, k14, k29, k36, k37, trV, Tr.eta, hge, hrd0, hld, hrd2, hc', hrl, gm0, e0, e00, ha, ha2, hb, w4, h1, h2, z1, z2, hd, clearT, simprocAttr]
      exact fin2 _ _ _ (by simp only [adrU, hS, hT, hE, hQ, beginT, clearT, Tr.l, Sh.v]) (by first | exact hasS_n | exact hasS_sl (by simp [hget_cons, hget_skip]) | exact hasS_sg (by simp [hget_cons, hget_skip]) | (simp [hasS_cons, hasS_hit, hasS_hit0, hasS_skip]; done))
    · have hd2 : decide (2000 < gt - pgot) = true := by have := of_decide_eq_false hd; exact decide_eq_true (by omega)
      simp (config := { maxSteps := 400000 }) only [go_sem, Tr.l, k14, k29, k36, k37, trV, Tr.eta, hge, hrd0, hld, hrd2, hc', hrl, gm0, e0, e00, ha, ha2, hb, w4, h1, h2, z1, z2, hd, hd2, clearT, simprocAttr]
      exact fin2 _ _ _ (by simp only [adrU, hS, hT, hE, hQ, beginT, clearT, Tr.l, Sh.v]) (by first | exact hasS_n | exact hasS_sl (by simp [hget_cons, hget_skip]) | exact hasS_sg (by simp [hget_cons, hget_skip]) | (simp [hasS_cons, hasS_hit, hasS_hit0, hasS_skip]; done))
  · have hd : decide (2000 < lst - plst) = false := decide_eq_false (by omega)
    have hd2 : decide (2000 < gt - pgot) = false := decide_eq_false (by omega)
    have hr : rOK ⟨got, true, true, fst, lst, gt, plst, pgot, cnt, sum, smo, thr, ovr, ovs, bef, sta⟩ l (lst - plst) (gt - pgot) = true := by
      have hs2 := next_same (y := wSmo ⟨got, true, true, fst, lst, gt, plst, pgot, cnt, sum, smo, thr, ovr, ovs, bef, sta⟩) hg rfl (show gt - pgot ≤ 2000 by omega)
      simp only [rOK, hW, decide_true, Bool.true_and, Bool.and_eq_true, decide_eq_true_eq, beq_iff_eq]
      exact ⟨by omega, hs2⟩
    have hwp : (weighT ⟨got, true, true, fst, lst, gt, plst, pgot, cnt, sum, smo, thr, ovr, ovs, bef, sta⟩ l).1.past = true := weigh_past _ _
    simp (config := { maxSteps := 400000 }) only [go_sem, Tr.l, k14, k29, k36, k37, trV, Tr.eta, hge, hrd0, hld, hrd2, hc', hrl, gm0, e0, e00, ha, ha2, hb, w4, h1, h2, z1, z2, hd, hd2, hr, hwq, hwp, wU, simprocAttr]
    exact fin 7 _ _ _ (by decide) (by simp only [adrU, hS, hT, hE, hQ, beginT, Tr.l]) (by first | exact hasS_n | exact hasS_sl (by simp [hget_cons, hget_skip]) | exact hasS_sg (by simp [hget_cons, hget_skip]) | (simp [hasS_cons, hasS_hit, hasS_hit0, hasS_skip]; done)) (by rw [hQ]; exact by first | exact hasS_n | exact hasS_sl (by simp [hget_cons, hget_skip]) | exact hasS_sg (by simp [hget_cons, hget_skip]) | (simp [hasS_cons, hasS_hit, hasS_hit0, hasS_skip]; done))
theorem w16 (t : Tr) (s : Sh) (l : List Pt) (sent got : Int) (hs : Sh.pts s l) (hl : l.length ≤ 1000000) : FTL Try.prog 16 [.agg (t.l (s.v 0)), .i .i64 sent, .i .i64 got] (s.h 0) 1 (adrU t l sent got 1) (s.h 0 ++ (adrQ t l sent got).h 1) 2 := by
  obtain ⟨g1, g2, g3⟩ := hs
  cases s with
  | nil =>
    have : l = [] := List.eq_nil_of_length_eq_zero g2.symm
    subst this; exact w16n t sent got
  | sl k o n c =>
    simp only [Sh.len] at g2; subst g2
    by_cases h0 : l.length = 0
    · have : l = [] := List.eq_nil_of_length_eq_zero h0
      subst this; exact w16e1 t k o c g1 sent got
    · exact w16f1 t k o c g1 l (by omega) hl g3 sent got
  | sg k o n =>
    simp only [Sh.len] at g2; subst g2
    by_cases h0 : l.length = 0
    · have : l = [] := List.eq_nil_of_length_eq_zero h0
      subst this; exact w16e2 t k o g1 sent got
    · exact w16f2 t k o g1 l (by omega) hl g3 sent got
def k16 : Ct
  | [.agg c, .i .i64 sent, .i .i64 got], h, n => (trV c).bind fun q => (shAt q.2 h).bind fun s => (rdL ptV 2 s).bind fun l => some (decide (l.length ≤ 1000000), { v := adrU q.1 l sent got (n + 1), n := n + 2, rd := shR q.2, nw := (adrQ q.1 l sent got).h (n + 1) })
  | _, _, _ => none
theorem s16 : SoundAt Try.prog 16 k16 := fun args h n c E hc ht => by
  unfold k16 at hc
  split at hc
  · rename_i sent got
    simp only [Option.bind_eq_some_iff] at hc
    obtain ⟨q, hq, s, hs, l, hl, he⟩ := hc
    obtain ⟨t, v⟩ := q
    cases he
    simp only [decide_eq_true_eq] at ht
    have hp := pts_rd hl
    rw [trV_eq hq]
    have := CallOK.sh1n (n := n) (A := fun b => [.agg (t.l (s.v b)), .i .i64 sent, .i .i64 got]) (U := adrU t l sent got) (t := adrQ t l sent got) (by kernel_rfl) (by simp [belL, AV.bel, Tr.l_bel]) hs hp.pl (adrQ_pts t l sent got).pl (adrQ_fresh t l sent got) (fun ψ => by simp [renL, AV.ren, Tr.l_ren]) (fun h0 i => by subst h0; rfl) (adrU_ren t l sent got) (w16 t s l sent got hp ht)
    rwa [← (shAt_inv hs).1] at this
  · cases hc
end Go.Proofs.Arr
