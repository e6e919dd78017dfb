/- Contracts of chapter 29: weigh, Add; printed by arrc7.py. -/
import Derived.Test.YtiacdfhaopnekaaArrC6
import Derived.Test.YtiacdfhaopnekaaArrC2
import Derived.Test.YtiacdfhaopnekaaAbShs
namespace Go.Proofs.Arr
open Go.Ab
set_option maxRecDepth 100000
set_option maxHeartbeats 8000000
set_option linter.unusedSimpArgs false
set_option linter.unusedVariables false
/-- A full block of points, made by growth; an empty one. -/
def fullV (len : Nat) (k : Blk) : Option (List Pt) := match k with
  | ⟨c, false, some 2, none⟩ => unrows 2 ptV len c
  | _ => none
def emptyV (k : Blk) : Option Unit := match k with
  | ⟨[], false, none, none⟩ => some ()
  | _ => none
theorem fullV_eq {len : Nat} {k : Blk} {l : List Pt} (h : fullV len k = some l) : k = { cells := rows Pt.l l, gr := some 2 } ∧ l.length = len := by
  unfold fullV at h
  split at h
  · obtain ⟨h1, h2⟩ := unrows_eq (f := Pt.l) ptV_eq h
    subst h1
    exact ⟨rfl, h2⟩
  · cases h
theorem fullV_rows (l : List Pt) : fullV l.length { cells := rows Pt.l l, gr := some 2 } = some l := unrows_rows Pt.len ptV_l l
theorem emptyV_eq {k : Blk} {u : Unit} (h : emptyV k = some u) : k = { cells := [] } := by
  unfold emptyV at h
  split at h
  · rfl
  · cases h
def wEff (b : Nat) (t : Tr) (l : List Pt) (sent got : Int) (n : Nat) (r : List Nat) : Eff := { v := .tup [], n := n + 3, rd := b :: r, md := (b, some { cells := (weighT t l).1.c ((wQ t l).v (n + 2)) sent got }) :: noneL r, nw := (wQ t l).h (n + 2) }
def k35v (b : Nat) (t : Tr) (sent got : Int) (h : Hp) (n : Nat) : AV → Option (Bool × Eff)
  | .ns => some (wOK t [], wEff b t [] sent got n [])
  | .sl c 0 0 0 => (hget h c).bind fun k => (emptyV k).bind fun _ => some (wOK t [] && !(Nat.beq b c), wEff b t [] sent got n [c])
  | .sg c 0 len => (hget h c).bind fun k => (fullV len k).bind fun l => some (wOK t l && decide (1 ≤ l.length) && !(Nat.beq b c), wEff b t l sent got n [c])
  | _ => none
def k35 : Ct
  | [.p b 0], h, n => (hget h b).bind fun k => (chgV k).bind fun q => k35v b q.1 q.2.2.1 q.2.2.2 h n q.2.1
  | _, _, _ => none
theorem s35 : SoundAt Try.prog 35 k35 := fun args h n c E hc ht => by
  unfold k35 at hc
  split at hc
  · rename_i b
    simp only [Option.bind_eq_some_iff] at hc
    obtain ⟨k, hk, q, hq, hc⟩ := hc
    rw [chgV_eq hq] at hk
    obtain ⟨t, v, sent, got⟩ := q
    dsimp only at hc hk
    unfold k35v at hc
    split at hc
    · cases hc
      exact CallOK.boxQ (s := .nil) (Q := wQ t []) (v := .ns) (A := fun b => [.p b 0]) (C := fun i => t.c (Sh.nil.v i) sent got) (C' := fun i => (weighT t []).1.c ((wQ t []).v i) sent got) (by kernel_rfl) rfl rfl hk rfl rfl rfl (wQ_pts t []).pl (wQ_fresh t []) (fun h => absurd rfl h)
        (fun ψ => rfl) (fun ψ => rfl) (fun ψ => Tr.c_ren _ _ _ _ ψ 2) (fun _ i j => rfl) rfl (w35n t sent got ht)
    · rename_i c
      simp only [Option.bind_eq_some_iff] at hc
      obtain ⟨k, hk2, u, hu, he⟩ := hc
      cases he
      simp only [Bool.and_eq_true] at ht
      rw [emptyV_eq hu] at hk2
      exact CallOK.boxQ (s := .sl { cells := [] } 0 0 0) (Q := wQ t []) (v := .sl c 0 0 0) (A := fun b => [.p b 0]) (C := fun i => t.c (.sl i 0 0 0) sent got) (C' := fun i => (weighT t []).1.c ((wQ t []).v i) sent got) (by kernel_rfl) rfl rfl hk (by simp [shAt, hk2]) rfl rfl (wQ_pts t []).pl (wQ_fresh t []) (fun _ => beq_no ht.2)
        (fun ψ => rfl) (fun ψ => rfl) (fun ψ => Tr.c_ren _ _ _ _ ψ 2) (fun h => by cases h) rfl (w35e t sent got ht.1)
    · rename_i c len
      simp only [Option.bind_eq_some_iff] at hc
      obtain ⟨k, hk2, l, hl, he⟩ := hc
      cases he
      simp only [Bool.and_eq_true, decide_eq_true_eq] at ht
      obtain ⟨e1, rfl⟩ := fullV_eq hl
      rw [e1] at hk2
      exact CallOK.boxQ (s := .sg { cells := rows Pt.l l, gr := some 2 } 0 l.length) (Q := wQ t l) (v := .sg c 0 l.length) (A := fun b => [.p b 0]) (C := fun i => t.c (.sg i 0 l.length) sent got) (C' := fun i => (weighT t l).1.c ((wQ t l).v i) sent got) (by kernel_rfl) rfl rfl hk (by simp [shAt, hk2]) (rows_bel Pt.bel0) rfl (wQ_pts t l).pl (wQ_fresh t l) (fun _ => beq_no ht.2)
        (fun ψ => rfl) (fun ψ => rfl) (fun ψ => Tr.c_ren _ _ _ _ ψ 2) (fun h => by cases h) rfl (w35g t l ht.1.2 sent got ht.1.1)
    · cases hc
  · cases hc
/-- The slice behind a packet. -/
def addQ (t : Tr) (s : Sh) (l : List Pt) (sent got : Int) : Sh :=
  if addE t l sent got ≠ 0 then .nil
  else if t.st && !(decide (sent < t.fst)) && !(decide (sent ≤ t.fst + 4)) && t.past then wQ { t with att := got } l
  else cloneQ s l
theorem addQ_pts {t : Tr} {s : Sh} {l : List Pt} {sent got : Int} (hs : Sh.pts s l) : Sh.pts (addQ t s l sent got) (addS t l sent got).2 := by
  unfold addQ addS
  by_cases h0 : addE t l sent got = 0
  · rw [if_neg (by simp [h0]), if_pos h0]
    unfold addT
    cases hst : t.st
    · simp only [Bool.false_and, Bool.false_eq_true, if_false, Bool.not_false, if_true]
      exact cloneQ_pts hs
    · by_cases h1 : sent < t.fst
      · simp only [h1, decide_true, Bool.not_true, Bool.and_false, Bool.false_and, Bool.false_eq_true, if_false, if_true]
        exact cloneQ_pts hs
      · by_cases h2 : sent ≤ t.fst + 4
        · simp only [h1, h2, decide_true, Bool.not_true, Bool.and_false, Bool.false_and, Bool.false_eq_true, if_false, if_true]
          exact cloneQ_pts hs
        · cases hp : t.past
          · simp only [h1, h2, decide_false, Bool.not_true, Bool.and_false, Bool.false_and, Bool.false_eq_true, if_false, cond_false]
            exact cloneQ_pts hs
          · simp only [h1, h2, decide_false, Bool.not_true, Bool.not_false, Bool.and_self, Bool.false_eq_true, if_false, if_true, cond_true]
            exact wQ_pts _ _
  · rw [if_pos h0, if_neg h0]
    exact nil_pts
theorem addQ_fresh (t : Tr) (s : Sh) (l : List Pt) (sent got : Int) : (addQ t s l sent got).fresh = true := by
  unfold addQ
  split
  · rfl
  · split
    · exact wQ_fresh _ _
    · exact cloneQ_fresh s l
def T15 : List (Nat × Ct) := [(13, k13), (27, kWi), (33, k33), (34, k34), (35, k35)]
theorem hT15 : Sound Try.prog (cxT T15) := Sound.cons s13 <| Sound.cons sWi <| Sound.cons s33 <| Sound.cons s34 <| Sound.cons s35 Sound.nil
theorem Tr.l_ren (t : Tr) (s : Sh) (ψ : Nat → Nat) (i : Nat) : renL ψ (t.l (s.v i)) = t.l (s.v (ψ i)) := by simp [Tr.l, renL, AV.ren, v_ren]
theorem Tr.l_bel (t : Tr) (s : Sh) {i m : Nat} (h : i < m) : belL m (t.l (s.v i)) = true := by simp [Tr.l, belL, AV.bel, v_bel h]
theorem good_w {t : Tr} {l : List Pt} {got : Int} (h : good t l = true) (h1 : t.st = true) (h2 : t.past = true) : wOK { t with att := got } l = true := by
  simp only [good, h1, h2, cond_true, tm, M40, Bool.and_eq_true, decide_eq_true_eq] at h
  simp only [inI_iff] at h
  obtain ⟨⟨⟨⟨⟨⟨⟨⟨h0, h1'⟩, h2'⟩, h3⟩, h4⟩, h5⟩, h6⟩, h7⟩, h8⟩ := h
  simp only [wOK, tm, M40, Bool.and_eq_true, decide_eq_true_eq, inI_iff]
  have := pts_len h6
  omega
theorem good_rng {t : Tr} {l : List Pt} (h : good t l = true) : (0 ≤ t.fst ∧ t.fst ≤ 1099511627776) ∧ l.length ≤ 20 := by
  simp only [good, tm, M40, Bool.and_eq_true, inI_iff] at h
  obtain ⟨⟨⟨⟨⟨⟨⟨⟨h0, h1'⟩, h2'⟩, h3⟩, h4⟩, h5⟩, h6⟩, h7⟩, h8⟩ := h
  exact ⟨by omega, pts_len h6⟩
theorem good_len {t : Tr} {l : List Pt} (h : good t l = true) : l.length ≤ 20 := (good_rng h).2
theorem clone_cases {s : Sh} {l : List Pt} (hs : Sh.pts s l) : (cloneQ s l = .nil ∧ l = []) ∨ (cloneQ s l = .sl { cells := [] } 0 0 0 ∧ l = []) ∨ (cloneQ s l = .sg { cells := rows Pt.l l, gr := some 2 } 0 l.length ∧ 1 ≤ l.length) := by
  have key : ∀ l : List Pt, (if l.length = 0 then Sh.sl { cells := [] } 0 0 0 else Sh.sg { cells := rows Pt.l l, gr := some 2 } 0 l.length) = .sl { cells := [] } 0 0 0 ∧ l = [] ∨ (if l.length = 0 then Sh.sl { cells := [] } 0 0 0 else Sh.sg { cells := rows Pt.l l, gr := some 2 } 0 l.length) = .sg { cells := rows Pt.l l, gr := some 2 } 0 l.length ∧ 1 ≤ l.length := by
    intro l
    split
    · rename_i h; exact .inl ⟨rfl, List.eq_nil_of_length_eq_zero h⟩
    · exact .inr ⟨rfl, by omega⟩
  cases s with
  | nil => exact .inl ⟨rfl, List.eq_nil_of_length_eq_zero hs.ln.symm⟩
  | sl k o n c => exact .inr (key l)
  | sg k o n => exact .inr (key l)
def addU (t : Tr) (s : Sh) (l : List Pt) (sent got : Int) (b : Nat) : AV := .tup [.agg ((addS t l sent got).1.l ((addQ t s l sent got).v b)), .i .i64 (addE t l sent got)]
theorem addU_ren (t : Tr) (s : Sh) (l : List Pt) (sent got : Int) (ψ : Nat → Nat) : (addU t s l sent got 1).ren ψ = addU t s l sent got (ψ 1) := by simp [addU, AV.ren, renL, Tr.l_ren]
theorem addU_bel (t : Tr) (s : Sh) (l : List Pt) (sent got : Int) : (addU t s l sent got 1).bel 2 = true := by simp [addU, AV.bel, belL, Tr.l_bel]
theorem shv_n {b : Nat} : Sh.nil.v b = .ns := rfl
theorem shv_sl {k : Blk} {o l c b : Nat} : (Sh.sl k o l c).v b = .sl b o l c := rfl
theorem shv_sg {k : Blk} {o l b : Nat} : (Sh.sg k o l).v b = .sg b o l := rfl
theorem shh_n {b : Nat} : Sh.nil.h b = [] := rfl
theorem shh_sl {k : Blk} {o l c b : Nat} : (Sh.sl k o l c).h b = [(b, k)] := rfl
theorem shh_sg {k : Blk} {o l b : Nat} : (Sh.sg k o l).h b = [(b, k)] := rfl
theorem w15 (t : Tr) (s : Sh) (l : List Pt) (sent got : Int) (hs : Sh.pts s l) (hl : l.length ≤ 1000000) : FTL Try.prog 15 [.agg (t.l (s.v 0)), .i .i64 sent, .i .i64 got] (s.h 0) 1 (addU t s l sent got 1) (s.h 0 ++ (addQ t s l sent got).h 1) 2 := by
  refine FTL.of_iw hT15 mo Try.func15 i15_eq (by simp [i15]) (iw_of_jw ?_)
  dsimp only [i15, T15]
  have hrd := rd_pts hs
  obtain ⟨att, st, past, fst, lst, gt, plst, pgot, cnt, sum, smo, thr, ovr, ovs, bef, sta⟩ := t
  have hp := hs.pl
  have hld : decide (l.length ≤ 1000000000000) = true := decide_eq_true (by omega)
  have hld2 : decide (l.length ≤ 1000000) = true := decide_eq_true hl
  have hqp := (addQ_pts (t := ⟨att, st, past, fst, lst, gt, plst, pgot, cnt, sum, smo, thr, ovr, ovs, bef, sta⟩) (sent := sent) (got := got) hs).pl
  have fin : ∀ (k n : Nat) (r : Hp) (v : AV), k ≠ 0 → v = addU ⟨att, st, past, fst, lst, gt, plst, pgot, cnt, sum, smo, thr, ovr, ovs, bef, sta⟩ s l sent got k → hasS r s 0 → hasS r (addQ ⟨att, st, past, fst, lst, gt, plst, pgot, cnt, sum, smo, thr, ovr, ovs, bef, sta⟩ s l sent got) k → Go.Ab.Ends 1 v r n (addU ⟨att, st, past, fst, lst, gt, plst, pgot, cnt, sum, smo, thr, ovr, ovs, bef, sta⟩ s l sent got 1) (s.h 0 ++ (addQ ⟨att, st, past, fst, lst, gt, plst, pgot, cnt, sum, smo, thr, ovr, ovs, bef, sta⟩ s l sent got).h 1) 2 := fun k n r v hk hv h1 h2 => Ends.s1n hp hqp hk hv (addU_ren _ s l sent got) (addU_bel _ s l sent got) h1 h2
  generalize hU : addU ⟨att, st, past, fst, lst, gt, plst, pgot, cnt, sum, smo, thr, ovr, ovs, bef, sta⟩ s l sent got 1 = U at *
  generalize hH : s.h 0 ++ (addQ ⟨att, st, past, fst, lst, gt, plst, pgot, cnt, sum, smo, thr, ovr, ovs, bef, sta⟩ s l sent got).h 1 = H at *
  cases hg : good ⟨att, st, past, fst, lst, gt, plst, pgot, cnt, sum, smo, thr, ovr, ovs, bef, sta⟩ l
  · have hE : addE ⟨att, st, past, fst, lst, gt, plst, pgot, cnt, sum, smo, thr, ovr, ovs, bef, sta⟩ l sent got = 290 := by simp [addE, hg]
    have hQ : addQ ⟨att, st, past, fst, lst, gt, plst, pgot, cnt, sum, smo, thr, ovr, ovs, bef, sta⟩ s l sent got = .nil := by simp [addQ, hE]
    have hS : addS ⟨att, st, past, fst, lst, gt, plst, pgot, cnt, sum, smo, thr, ovr, ovs, bef, sta⟩ l sent got = (zTr, []) := by simp [addS, hE]
    simp (config := { maxSteps := 400000 }) only [go_sem, Tr.l, k13, trV, Tr.eta, hrd, hld, hg, simprocAttr]
    exact fin 1 _ _ _ (by decide) (by simp only [addU, hS, hE, hQ, zTr, Tr.l, Sh.v]) (by simp [hasS_cons, hasS_hit, hasS_hit0]) (by rw [hQ]; intro d kk hh; simp [Sh.h, hget] at hh)
  cases ha : [sent, got].all (inI 0 1099511627776)
  · have ha' : (tm sent && tm got) = false := by simpa [tm, M40] using ha
    have hE : addE ⟨att, st, past, fst, lst, gt, plst, pgot, cnt, sum, smo, thr, ovr, ovs, bef, sta⟩ l sent got = 2 := by simp [addE, hg, ha']
    have hQ : addQ ⟨att, st, past, fst, lst, gt, plst, pgot, cnt, sum, smo, thr, ovr, ovs, bef, sta⟩ s l sent got = .nil := by simp [addQ, hE]
    have hS : addS ⟨att, st, past, fst, lst, gt, plst, pgot, cnt, sum, smo, thr, ovr, ovs, bef, sta⟩ l sent got = (zTr, []) := by simp [addS, hE]
    simp (config := { maxSteps := 400000 }) only [go_sem, Tr.l, k13, kWi, intsB, unrows, intV, trV, Tr.eta, hrd, hld, hg, ha, simprocAttr]
    exact fin 1 _ _ _ (by decide) (by simp only [addU, hS, hE, hQ, zTr, Tr.l, Sh.v]) (by simp [hasS_cons, hasS_hit, hasS_hit0]) (by rw [hQ]; intro d kk hh; simp [Sh.h, hget] at hh)
  have ha' : (tm sent && tm got) = true := by simpa [tm, M40] using ha
  rcases Bool.eq_false_or_eq_true (decide (got < att)) with hb | hb
  · have hE : addE ⟨att, st, past, fst, lst, gt, plst, pgot, cnt, sum, smo, thr, ovr, ovs, bef, sta⟩ l sent got = 2 := by simp only [addE, hg, ha', hb]; rfl
    have hQ : addQ ⟨att, st, past, fst, lst, gt, plst, pgot, cnt, sum, smo, thr, ovr, ovs, bef, sta⟩ s l sent got = .nil := by simp [addQ, hE]
    have hS : addS ⟨att, st, past, fst, lst, gt, plst, pgot, cnt, sum, smo, thr, ovr, ovs, bef, sta⟩ l sent got = (zTr, []) := by simp [addS, hE]
    simp (config := { maxSteps := 400000 }) only [go_sem, Tr.l, k13, kWi, intsB, unrows, intV, trV, Tr.eta, hrd, hld, hg, ha, hb, simprocAttr]
    exact fin 1 _ _ _ (by decide) (by simp only [addU, hS, hE, hQ, zTr, Tr.l, Sh.v]) (by simp [hasS_cons, hasS_hit, hasS_hit0]) (by rw [hQ]; intro d kk hh; simp [Sh.h, hget] at hh)
  have hE : addE ⟨att, st, past, fst, lst, gt, plst, pgot, cnt, sum, smo, thr, ovr, ovs, bef, sta⟩ l sent got = 0 := by simp only [addE, hg, ha', hb]; rfl
  have hS : addS ⟨att, st, past, fst, lst, gt, plst, pgot, cnt, sum, smo, thr, ovr, ovs, bef, sta⟩ l sent got = addT ⟨att, st, past, fst, lst, gt, plst, pgot, cnt, sum, smo, thr, ovr, ovs, bef, sta⟩ l sent got := by simp [addS, hE]
  obtain ⟨gf, gl⟩ := good_rng hg
  dsimp only at gf
  have w4 : IntKind.i64.wrap (fst + 4) = fst + 4 := wrapL (by omega) (by omega)
  have hcp := (cloneQ_pts hs).pl
  cases st
  · have hQ : addQ ⟨att, false, past, fst, lst, gt, plst, pgot, cnt, sum, smo, thr, ovr, ovs, bef, sta⟩ s l sent got = cloneQ s l := by simp [addQ, hE]
    have hT : addT ⟨att, false, past, fst, lst, gt, plst, pgot, cnt, sum, smo, thr, ovr, ovs, bef, sta⟩ l sent got = (beginT { (⟨att, false, past, fst, lst, gt, plst, pgot, cnt, sum, smo, thr, ovr, ovs, bef, sta⟩ : Tr) with att := got, st := true } sent got, l) := by simp [addT]
    simp (config := { maxSteps := 400000 }) only [go_sem, Tr.l, Tr.c, k13, kWi, k33, k34, k35, intsB, unrows, intV, trV, chgV, Tr.eta, hrd, hld, hld2, hg, ha, hb, w4, beginT, hcp, shNe_v, simprocAttr]
    exact fin 7 _ _ _ (by decide) (by simp only [addU, hS, hT, hE, hQ, beginT, Tr.l]) (by simp [hasS_cons, hasS_hit, hasS_hit0, hasS_skip]) (by rw [hQ]; simp [hasS_cons, hasS_hit, hasS_hit0, hasS_skip])
  rcases Bool.eq_false_or_eq_true (decide (sent < fst)) with h1 | h1
  · have hQ : addQ ⟨att, true, past, fst, lst, gt, plst, pgot, cnt, sum, smo, thr, ovr, ovs, bef, sta⟩ s l sent got = cloneQ s l := by simp [addQ, hE, h1]
    have hT : addT ⟨att, true, past, fst, lst, gt, plst, pgot, cnt, sum, smo, thr, ovr, ovs, bef, sta⟩ l sent got = ({ (⟨att, true, past, fst, lst, gt, plst, pgot, cnt, sum, smo, thr, ovr, ovs, bef, sta⟩ : Tr) with att := got }, l) := by have := of_decide_eq_true h1; simp [addT, this]
    simp (config := { maxSteps := 400000 }) only [go_sem, Tr.l, Tr.c, k13, kWi, k33, k34, k35, intsB, unrows, intV, trV, chgV, Tr.eta, hrd, hld, hld2, hg, ha, hb, h1, w4, beginT, hcp, shNe_v, simprocAttr]
    exact fin 7 _ _ _ (by decide) (by simp only [addU, hS, hT, hE, hQ, beginT, Tr.l]) (by simp [hasS_cons, hasS_hit, hasS_hit0, hasS_skip]) (by rw [hQ]; simp [hasS_cons, hasS_hit, hasS_hit0, hasS_skip])
  rcases Bool.eq_false_or_eq_true (decide (sent ≤ fst + 4)) with h2 | h2
  · have hQ : addQ ⟨att, true, past, fst, lst, gt, plst, pgot, cnt, sum, smo, thr, ovr, ovs, bef, sta⟩ s l sent got = cloneQ s l := by simp [addQ, hE, h1, h2]
    have hT : addT ⟨att, true, past, fst, lst, gt, plst, pgot, cnt, sum, smo, thr, ovr, ovs, bef, sta⟩ l sent got = ({ (⟨att, true, past, fst, lst, gt, plst, pgot, cnt, sum, smo, thr, ovr, ovs, bef, sta⟩ : Tr) with att := got, lst := max lst sent, got := got }, l) := by have := of_decide_eq_false h1; have h3 := of_decide_eq_true h2; simp [addT, this, h3]
    simp (config := { maxSteps := 400000 }) only [go_sem, Tr.l, Tr.c, k13, kWi, k33, k34, k35, intsB, unrows, intV, trV, chgV, Tr.eta, hrd, hld, hld2, hg, ha, hb, h1, h2, w4, beginT, hcp, shNe_v, simprocAttr]
    exact fin 7 _ _ _ (by decide) (by simp only [addU, hS, hT, hE, hQ, beginT, Tr.l]) (by simp [hasS_cons, hasS_hit, hasS_hit0, hasS_skip]) (by rw [hQ]; simp [hasS_cons, hasS_hit, hasS_hit0, hasS_skip])
  cases past
  · have hQ : addQ ⟨att, true, false, fst, lst, gt, plst, pgot, cnt, sum, smo, thr, ovr, ovs, bef, sta⟩ s l sent got = cloneQ s l := by simp [addQ, hE, h1, h2]
    have hT : addT ⟨att, true, false, fst, lst, gt, plst, pgot, cnt, sum, smo, thr, ovr, ovs, bef, sta⟩ l sent got = (beginT { (⟨att, true, false, fst, lst, gt, plst, pgot, cnt, sum, smo, thr, ovr, ovs, bef, sta⟩ : Tr) with att := got, past := true, plst := lst, pgot := gt } sent got, l) := by have := of_decide_eq_false h1; have h3 := of_decide_eq_false h2; simp [addT, this, h3]
    simp (config := { maxSteps := 400000 }) only [go_sem, Tr.l, Tr.c, k13, kWi, k33, k34, k35, intsB, unrows, intV, trV, chgV, Tr.eta, hrd, hld, hld2, hg, ha, hb, h1, h2, w4, beginT, hcp, shNe_v, simprocAttr]
    exact fin 7 _ _ _ (by decide) (by simp only [addU, hS, hT, hE, hQ, beginT, Tr.l]) (by simp [hasS_cons, hasS_hit, hasS_hit0, hasS_skip]) (by rw [hQ]; simp [hasS_cons, hasS_hit, hasS_hit0, hasS_skip])
  have hW := good_w (got := got) hg rfl rfl
  have hQ : addQ ⟨att, true, true, fst, lst, gt, plst, pgot, cnt, sum, smo, thr, ovr, ovs, bef, sta⟩ s l sent got = wQ { (⟨att, true, true, fst, lst, gt, plst, pgot, cnt, sum, smo, thr, ovr, ovs, bef, sta⟩ : Tr) with att := got } l := by simp [addQ, hE, h1, h2]
  have hT : addT ⟨att, true, true, fst, lst, gt, plst, pgot, cnt, sum, smo, thr, ovr, ovs, bef, sta⟩ l sent got = (beginT { (weighT { (⟨att, true, true, fst, lst, gt, plst, pgot, cnt, sum, smo, thr, ovr, ovs, bef, sta⟩ : Tr) with att := got } l).1 with past := true, plst := (weighT { (⟨att, true, true, fst, lst, gt, plst, pgot, cnt, sum, smo, thr, ovr, ovs, bef, sta⟩ : Tr) with att := got } l).1.lst, pgot := (weighT { (⟨att, true, true, fst, lst, gt, plst, pgot, cnt, sum, smo, thr, ovr, ovs, bef, sta⟩ : Tr) with att := got } l).1.got } sent got, (weighT { (⟨att, true, true, fst, lst, gt, plst, pgot, cnt, sum, smo, thr, ovr, ovs, bef, sta⟩ : Tr) with att := got } l).2) := by have := of_decide_eq_false h1; have h3 := of_decide_eq_false h2; simp [addT, this, h3]
  have hwq := (wQ_pts { (⟨att, true, true, fst, lst, gt, plst, pgot, cnt, sum, smo, thr, ovr, ovs, bef, sta⟩ : Tr) with att := got } l).pl
  dsimp only at hW hQ hT hwq
  rcases clone_cases hs with ⟨hC, rfl⟩ | ⟨hC, rfl⟩ | ⟨hC, h1l⟩
  · simp (config := { maxSteps := 400000 }) only [go_sem, Tr.l, Tr.c, k13, kWi, k33, k34, k35, intsB, unrows, intV, trV, chgV, Tr.eta, hrd, hld, hld2, hg, ha, hb, h1, h2, hwq, w4, beginT, hcp, shNe_v, hC, k35v, wEff, noneL, shNe_ns, shNe_sl, shNe_sg, shv_n, shv_sl, shv_sg, shh_n, shh_sl, shh_sg, hW, simprocAttr]
    exact fin 10 _ _ _ (by decide) (by simp only [addU, hS, hT, hE, hQ, beginT, Tr.l]) (by simp [hasS_cons, hasS_hit, hasS_hit0, hasS_skip]) (by rw [hQ]; simp [hasS_cons, hasS_hit, hasS_hit0, hasS_skip])
  · simp (config := { maxSteps := 400000 }) only [go_sem, Tr.l, Tr.c, k13, kWi, k33, k34, k35, intsB, unrows, intV, trV, chgV, Tr.eta, hrd, hld, hld2, hg, ha, hb, h1, h2, hwq, w4, beginT, hcp, shNe_v, hC, k35v, wEff, noneL, shNe_ns, shNe_sl, shNe_sg, shv_n, shv_sl, shv_sg, shh_n, shh_sl, shh_sg, hW, emptyV, simprocAttr]
    exact fin 10 _ _ _ (by decide) (by simp only [addU, hS, hT, hE, hQ, beginT, Tr.l]) (by simp [hasS_cons, hasS_hit, hasS_hit0, hasS_skip]) (by rw [hQ]; simp [hasS_cons, hasS_hit, hasS_hit0, hasS_skip])
  · have hfv := fullV_rows l
    have h1d : decide (1 ≤ l.length) = true := decide_eq_true h1l
    simp (config := { maxSteps := 400000 }) only [go_sem, Tr.l, Tr.c, k13, kWi, k33, k34, k35, intsB, unrows, intV, trV, chgV, Tr.eta, hrd, hld, hld2, hg, ha, hb, h1, h2, hwq, w4, beginT, hcp, shNe_v, hC, k35v, wEff, noneL, shNe_ns, shNe_sl, shNe_sg, shv_n, shv_sl, shv_sg, shh_n, shh_sl, shh_sg, hW, hfv, h1d, simprocAttr]
    exact fin 10 _ _ _ (by decide) (by simp only [addU, hS, hT, hE, hQ, beginT, Tr.l]) (by simp [hasS_cons, hasS_hit, hasS_hit0, hasS_skip]) (by rw [hQ]; simp [hasS_cons, hasS_hit, hasS_hit0, hasS_skip])
def k15 : Ct
  | [.agg c, .i .i64 sent, .i .i64 got], h, n => (trV c).bind fun q => (shAt q.2 h).bind fun s => (rdL ptV 2 s).bind fun l => some (decide (l.length ≤ 1000000), { v := addU q.1 s l sent got (n + 1), n := n + 2, rd := shR q.2, nw := (addQ q.1 s l sent got).h (n + 1) })
  | _, _, _ => none
theorem s15 : SoundAt Try.prog 15 k15 := fun args h n c E hc ht => by
  unfold k15 at hc
  split at hc
  · rename_i sent got
    simp only [Option.bind_eq_some_iff] at hc
    obtain ⟨q, hq, s, hs, l, hl, he⟩ := hc
    obtain ⟨t, v⟩ := q
    cases he
    simp only [decide_eq_true_eq] at ht
    have hp := pts_rd hl
    rw [trV_eq hq]
    have := CallOK.sh1n (n := n) (A := fun b => [.agg (t.l (s.v b)), .i .i64 sent, .i .i64 got]) (U := addU t s l sent got) (t := addQ t s l sent got) (by kernel_rfl) (by simp [belL, AV.bel, Tr.l_bel]) hs hp.pl (addQ_pts hp).pl (addQ_fresh t s l sent got) (fun ψ => by simp [renL, AV.ren, Tr.l_ren]) (fun h0 i => by subst h0; rfl) (addU_ren t s l sent got) (w15 t s l sent got hp ht)
    rwa [← (shAt_inv hs).1] at this
  · cases hc
end Go.Proofs.Arr
