/- Contracts of chapter 29: the reference's states; printed by arrc9.py. -/
import Derived.Test.YtiacdfhaopnekaaArrP4
namespace Go.Proofs.Arr
open Go.Ab
set_option maxRecDepth 100000
set_option maxHeartbeats 16000000
set_option linter.unusedSimpArgs false
set_option linter.unusedVariables false
def T14 : List (Nat × Ct) := [(29, k29), (30, k30), (31, k31), (32, k32)]
theorem hT14 : Sound Try.prog (cxT T14) := Sound.cons s29 <| Sound.cons s30 <| Sound.cons s31 <| Sound.cons s32 Sound.nil
theorem w14 (t : Tr) (s : Sh) (l : List Pt) (hs : Sh.pts s l) (hl : l.length ≤ 1000000000000) : FTL Try.prog 14 [.agg (t.l (s.v 0))] (s.h 0) 1 (.b (goodR t l)) (s.h 0) 1 := by
  refine FTL.of_iw hT14 mo Try.func14 i14_eq (by simp [i14]) (iw_of_jw ?_)
  dsimp only [i14, T14]
  have hrd := rd_pts hs
  have hp := hs.pl
  have hln := hs.ln
  have hld : decide (l.length ≤ 1000000000000) = true := decide_eq_true hl
  have hz : ((l.length : Int) == 0) = (l.length == 0) := by rw [Bool.eq_iff_iff]; simp
  generalize hR : goodR t l = R
  unfold goodR zeroT at hR
  obtain ⟨att, st, past, fst, lst, got, plst, pgot, cnt, sum, smo, thr, ovr, ovs, bef, sta⟩ := t
  dsimp only at hR
  cases hpR : ptsR l
  · rw [hpR] at hR
    have hf : R = false := by rw [← hR]; simp only [Bool.and_false, Bool.false_and]
    subst hf
    simp (config := { maxSteps := 400000 }) only [go_sem, Tr.l, k29, k30, k31, hrd, hld, hpR, simprocAttr]
    repeat' (first | refine spB_i (fun _ => ?_) (fun _ => ?_) | refine andB_i ?_ ?_)
    all_goals exact Ends.s1 hp rfl rfl (by simp [hasS_cons, hasS_hit, hasS_hit0])
  · cases hf : inI 0 1099511627776 fst
    · rw [hf] at hR
      have hf2 : R = false := by rw [← hR]; simp only [Bool.and_false, Bool.false_and]
      subst hf2
      simp (config := { maxSteps := 400000 }) only [go_sem, Tr.l, k29, k30, k31, hrd, hld, hpR, hf, simprocAttr]
      repeat' (first | refine spB_i (fun _ => ?_) (fun _ => ?_) | refine andB_i ?_ ?_)
      all_goals exact Ends.s1 hp rfl rfl (by simp [hasS_cons, hasS_hit, hasS_hit0])
    · have hf' := inI_iff.1 hf
      have w4 : IntKind.i64.wrap (fst + 4) = fst + 4 := wrapL (by omega) (by omega)
      rw [hf, hpR] at hR
      cases st <;> cases past <;> dsimp only [cond_true, cond_false] at hR
      all_goals (simp (config := { maxSteps := 400000 }) only [go_sem, Tr.l, k29, k30, k31, k32, hrd, hld, hpR, hf, w4, hln, hz, simprocAttr])
      all_goals (repeat' (first | refine spB_i (fun _ => ?_) (fun _ => ?_) | refine andB_i ?_ ?_))
      all_goals (refine Ends.s1 hp ?_ rfl (by simp [hasS_cons, hasS_hit, hasS_hit0]); rw [← hR]; clear hR; refine congrArg _ ?_; simp only [inI, decide_eq_true_eq, decide_eq_false_iff_not, beq_iff_eq, beq_eq_false_iff_ne, bne_iff_ne, ne_eq, bne_eq_false_iff_eq] at *; grind)
def k14 : Ct
  | [.agg c], h, n => (trV c).bind fun q => (shAt q.2 h).bind fun s => (rdL ptV 2 s).bind fun l => some (decide (l.length ≤ 1000000000000), { v := .b (goodR q.1 l), n := n + 1, rd := shR q.2 })
  | _, _, _ => none
theorem s14 : SoundAt Try.prog 14 k14 := fun args h n c E hc ht => by
  unfold k14 at hc
  split at hc
  · skip
    simp only [Option.bind_eq_some_iff] at hc
    obtain ⟨q, hq, s, hs, l, hl, he⟩ := hc
    obtain ⟨t, v⟩ := q
    cases he
    simp only [decide_eq_true_eq] at ht
    have hp := pts_rd hl
    rw [trV_eq hq]
    have := CallOK.sh1 (n := n) (A := fun b => [.agg (t.l (s.v b))]) (by kernel_rfl) (by simp [belL, AV.bel, Tr.l_bel]) hs hp.pl (fun ψ => by simp [renL, AV.ren, Tr.l_ren]) (fun h0 i => by subst h0; rfl) rfl (w14 t s l hp ht)
    rwa [← (shAt_inv hs).1] at this
  · cases hc
theorem w36 (t : Tr) (s : Sh) (l : List Pt) (hs : Sh.pts s l) : FTL Try.prog 36 [.agg (t.l (s.v 0))] (s.h 0) 1 (.agg ((clearT t).l .ns)) (s.h 0) 1 := by
  refine FTL.of_iw Sound.nil mo Try.func36 i36_eq (by simp [i36]) (iw_of_jw ?_)
  dsimp only [i36]
  have hrd := rd_pts hs
  have hp := hs.pl
  have hln := hs.ln
  simp (config := { maxSteps := 400000 }) only [go_sem, Tr.l, clearT, simprocAttr]
  exact Ends.s1 hp rfl rfl (by simp [hasS_cons, hasS_hit, hasS_hit0])
def k36 : Ct
  | [.agg c], h, n => (trV c).bind fun q => (shAt q.2 h).bind fun s => (rdL ptV 2 s).bind fun l => some (true, { v := .agg ((clearT q.1).l .ns), n := n + 1, rd := shR q.2 })
  | _, _, _ => none
theorem s36 : SoundAt Try.prog 36 k36 := fun args h n c E hc ht => by
  unfold k36 at hc
  split at hc
  · skip
    simp only [Option.bind_eq_some_iff] at hc
    obtain ⟨q, hq, s, hs, l, hl, he⟩ := hc
    obtain ⟨t, v⟩ := q
    cases he
    
    have hp := pts_rd hl
    rw [trV_eq hq]
    have := CallOK.sh1 (n := n) (A := fun b => [.agg (t.l (s.v b))]) (by kernel_rfl) (by simp [belL, AV.bel, Tr.l_bel]) hs hp.pl (fun ψ => by simp [renL, AV.ren, Tr.l_ren]) (fun h0 i => by subst h0; rfl) rfl (w36 t s l hp)
    rwa [← (shAt_inv hs).1] at this
  · cases hc
def T48 : List (Nat × Ct) := [(31, k31)]
theorem hT48 : Sound Try.prog (cxT T48) := Sound.cons s31 Sound.nil
theorem w48 (t : Tr) (s : Sh) (l : List Pt) (hs : Sh.pts s l) (hl : l.length ≤ 1000000000000) : FTL Try.prog 48 [.agg (t.l (s.v 0))] (s.h 0) 1 (.b (inI (-1048576) 1048576 t.sum && ptsR l)) (s.h 0) 1 := by
  refine FTL.of_iw hT48 mo Try.func48 i48_eq (by simp [i48]) (iw_of_jw ?_)
  dsimp only [i48, T48]
  have hrd := rd_pts hs
  have hp := hs.pl
  have hln := hs.ln
  have hld : decide (l.length ≤ 1000000000000) = true := decide_eq_true hl
  generalize hR : (inI (-1048576) 1048576 t.sum && ptsR l) = R
  simp (config := { maxSteps := 400000 }) only [go_sem, Tr.l, k31, hrd, hld, simprocAttr]
  repeat' (first | refine spB_i (fun _ => ?_) (fun _ => ?_) | refine andB_i ?_ ?_)
  all_goals (refine Ends.s1 hp ?_ rfl (by simp [hasS_cons, hasS_hit, hasS_hit0]); rw [← hR]; refine congrArg _ ?_; simp [inI, *])
def k48 : Ct
  | [.agg c], h, n => (trV c).bind fun q => (shAt q.2 h).bind fun s => (rdL ptV 2 s).bind fun l => some (decide (l.length ≤ 1000000000000), { v := .b (inI (-1048576) 1048576 q.1.sum && ptsR l), n := n + 1, rd := shR q.2 })
  | _, _, _ => none
theorem s48 : SoundAt Try.prog 48 k48 := fun args h n c E hc ht => by
  unfold k48 at hc
  split at hc
  · skip
    simp only [Option.bind_eq_some_iff] at hc
    obtain ⟨q, hq, s, hs, l, hl, he⟩ := hc
    obtain ⟨t, v⟩ := q
    cases he
    simp only [decide_eq_true_eq] at ht
    have hp := pts_rd hl
    rw [trV_eq hq]
    have := CallOK.sh1 (n := n) (A := fun b => [.agg (t.l (s.v b))]) (by kernel_rfl) (by simp [belL, AV.bel, Tr.l_bel]) hs hp.pl (fun ψ => by simp [renL, AV.ren, Tr.l_ren]) (fun h0 i => by subst h0; rfl) rfl (w48 t s l hp ht)
    rwa [← (shAt_inv hs).1] at this
  · cases hc
def T49 : List (Nat × Ct) := [(47, k47)]
theorem hT49 : Sound Try.prog (cxT T49) := Sound.cons s47 Sound.nil
/-- The third and the fourth part of weighing. -/
def jaT (t : Tr) (m ds dg : Int) : Tr := { judgeT t m ds with bef := min (max m (-M40)) M40, thr := adaptN (judgeT t m ds).thr m dg }
def okJA (t : Tr) (m ds dg : Int) : Bool := okJ t ds && okA t m dg
theorem w49 (t : Tr) (s : Sh) (l : List Pt) (hs : Sh.pts s l) (m ds dg : Int) (h : okJA t m ds dg = true) : FTL Try.prog 49 [.agg (t.l (s.v 0)), .i .i64 m, .i .i64 ds, .i .i64 dg] (s.h 0) 1 (.agg ((jaT t m ds dg).l (s.v 0))) (s.h 0) 1 := by
  refine FTL.of_iw hT49 mo Try.func49 i49_eq (by simp [i49]) (iw_of_jw ?_)
  dsimp only [i49, T49]
  have hrd := rd_pts hs
  have hp := hs.pl
  have hln := hs.ln
  simp only [okJA, okJ, okA, Bool.and_eq_true, inI_iff] at h
  obtain ⟨⟨⟨⟨h1, h2⟩, h3⟩, h4⟩, ⟨⟨_, h5⟩, h6⟩⟩ := h
  have q1 : IntKind.i64.wrap (0 - t.thr) = -t.thr := by rw [wrapL (by omega) (by omega)]; omega
  have q2 := div2 h4.1
  have q3 : IntKind.i64.wrap (ds / 2) = ds / 2 := wrapL (by omega) (by omega)
  have q4 : IntKind.i64.wrap (t.ovr + ds) = t.ovr + ds := wrapL (by omega) (by omega)
  have q5 : IntKind.i64.wrap (t.ovs + 1) = t.ovs + 1 := wrapL (by omega) (by omega)
  have q6 : IntKind.i64.wrap (0 - m) = -m := by rw [wrapL (by omega) (by omega)]; omega
  have q7 : IntKind.i64.wrap (t.thr + 15360) = t.thr + 15360 := wrapL (by omega) (by omega)
  have hB : max (-1099511627776) (min m 1099511627776) = min (max m (-1099511627776)) 1099511627776 := by omega
  obtain ⟨a, ha, ha0⟩ : ∃ a, max m (-m) = a ∧ 0 ≤ a := ⟨_, rfl, by omega⟩
  obtain ⟨g, hg, hg0⟩ : ∃ g, min dg 100 = g ∧ (0 ≤ g ∧ g ≤ 100) := ⟨_, rfl, by omega⟩
  have e0 : adaptN t.thr m dg = if t.thr + 15360 < a then t.thr else max 6144 (min (t.thr + (a - t.thr) * (if t.thr < a then 87 else 390) * g / 10000) 614400) := by simp only [adaptN, ha, hg]
  have hU : jaT t m ds dg = { judgeT t m ds with bef := min (max m (-1099511627776)) 1099511627776, thr := adaptN t.thr m dg } := by simp only [jaT, judge_thr, M40]
  generalize adaptN t.thr m dg = R at *
  have fin : ∀ (n : Nat) (r : Hp) (v : AV), v = .agg ((jaT t m ds dg).l (s.v 0)) → hasS r s 0 → Go.Ab.Ends 1 v r n (.agg ((jaT t m ds dg).l (s.v 0))) (s.h 0) 1 := fun n r v hv hh => Ends.s1p (U := fun b => .agg ((jaT t m ds dg).l (s.v b))) hp hv (fun ψ => by simp [AV.ren, Tr.l_ren]) (by simp [AV.bel, Tr.l_bel]) hh
  rw [hU] at fin ⊢
  clear hU
  have lt1 : (m ≤ t.thr) = ¬ (t.thr < m) := by simp
  by_cases c1 : t.thr + 15360 < a
  · have d1 : decide (a ≤ t.thr + 15360) = false := decide_eq_false (by omega)
    rw [if_pos c1] at e0
    subst e0
    simp (config := { maxSteps := 400000 }) only [go_sem, Tr.l, q1, q2, q3, q4, q5, q6, q7, hB, ha, d1, simprocAttr]
    repeat' (first | refine spB_i (fun _ => ?_) (fun _ => ?_) | refine andB_i ?_ ?_)
    all_goals (refine fin _ _ _ ?_ (by simp [hasS_cons, hasS_hit, hasS_hit0]); refine congrArg AV.agg ?_; simp only [decide_eq_true_eq, decide_eq_false_iff_not, beq_iff_eq, beq_eq_false_iff_ne] at *; dsimp only [judgeT, Tr.l]; (repeat' split) <;> first | rfl | (exfalso; omega))
  · have d1 : decide (a ≤ t.thr + 15360) = true := decide_eq_true (by omega)
    rw [if_neg c1] at e0
    have w1 : IntKind.i64.wrap (a - t.thr) = a - t.thr := wrapL (by omega) (by omega)
    by_cases c2 : t.thr < a
    · have d2 : decide (t.thr < a) = true := decide_eq_true c2
      rw [if_pos c2] at e0
      have m1 := mul_rng (A := 61440000) (B := 100) (x := (a - t.thr) * 87) (y := g) (by omega) (by omega) (by omega) (by omega) (by decide) (by decide)
      have w2 : IntKind.i64.wrap ((a - t.thr) * 87) = (a - t.thr) * 87 := wrapL (by omega) (by omega)
      have w3 : IntKind.i64.wrap ((a - t.thr) * 87 * g) = (a - t.thr) * 87 * g := wrapL (by omega) (by omega)
      have hd : divOK ((a - t.thr) * 87 * g) 10000 = true := by simp only [divOK, Bool.and_eq_true, decide_eq_true_eq, inI_iff]; omega
      have w4 : IntKind.i64.wrap (t.thr + (a - t.thr) * 87 * g / 10000) = t.thr + (a - t.thr) * 87 * g / 10000 := wrapL (by omega) (by omega)
      have hb2 : decide ((10000 : Int) ≤ 2147483648000000) = true := by decide
      subst e0
      simp (config := { maxSteps := 400000 }) only [go_sem, Tr.l, q1, q2, q3, q4, q5, q6, q7, hB, ha, hg, d1, d2, w1, w2, w3, w4, k47, hd, hb2, simprocAttr]
      repeat' (first | refine spB_i (fun _ => ?_) (fun _ => ?_) | refine andB_i ?_ ?_)
      all_goals (refine fin _ _ _ ?_ (by simp [hasS_cons, hasS_hit, hasS_hit0]); refine congrArg AV.agg ?_; simp only [decide_eq_true_eq, decide_eq_false_iff_not, beq_iff_eq, beq_eq_false_iff_ne] at *; dsimp only [judgeT, Tr.l]; (repeat' split) <;> first | rfl | (exfalso; omega))
    · have d2 : decide (t.thr < a) = false := decide_eq_false c2
      rw [if_neg c2] at e0
      have m1 := mul_rng (A := 239616000) (B := 100) (x := (a - t.thr) * 390) (y := g) (by omega) (by omega) (by omega) (by omega) (by decide) (by decide)
      have w2 : IntKind.i64.wrap ((a - t.thr) * 390) = (a - t.thr) * 390 := wrapL (by omega) (by omega)
      have w3 : IntKind.i64.wrap ((a - t.thr) * 390 * g) = (a - t.thr) * 390 * g := wrapL (by omega) (by omega)
      have hd : divOK ((a - t.thr) * 390 * g) 10000 = true := by simp only [divOK, Bool.and_eq_true, decide_eq_true_eq, inI_iff]; omega
      have w4 : IntKind.i64.wrap (t.thr + (a - t.thr) * 390 * g / 10000) = t.thr + (a - t.thr) * 390 * g / 10000 := wrapL (by omega) (by omega)
      have hb2 : decide ((10000 : Int) ≤ 2147483648000000) = true := by decide
      subst e0
      simp (config := { maxSteps := 400000 }) only [go_sem, Tr.l, q1, q2, q3, q4, q5, q6, q7, hB, ha, hg, d1, d2, w1, w2, w3, w4, k47, hd, hb2, simprocAttr]
      repeat' (first | refine spB_i (fun _ => ?_) (fun _ => ?_) | refine andB_i ?_ ?_)
      all_goals (refine fin _ _ _ ?_ (by simp [hasS_cons, hasS_hit, hasS_hit0]); refine congrArg AV.agg ?_; simp only [decide_eq_true_eq, decide_eq_false_iff_not, beq_iff_eq, beq_eq_false_iff_ne] at *; dsimp only [judgeT, Tr.l]; (repeat' split) <;> first | rfl | (exfalso; omega))
def k49 : Ct
  | [.agg c, .i .i64 m, .i .i64 ds, .i .i64 dg], h, n => (trV c).bind fun q => (shAt q.2 h).bind fun s => (rdL ptV 2 s).bind fun l => some (okJA q.1 m ds dg, { v := .agg ((jaT q.1 m ds dg).l q.2), n := n + 1, rd := shR q.2 })
  | _, _, _ => none
theorem s49 : SoundAt Try.prog 49 k49 := fun args h n c E hc ht => by
  unfold k49 at hc
  split at hc
  · rename_i m ds dg
    simp only [Option.bind_eq_some_iff] at hc
    obtain ⟨q, hq, s, hs, l, hl, he⟩ := hc
    obtain ⟨t, v⟩ := q
    cases he
    have hp := pts_rd hl
    rw [trV_eq hq]
    have := CallOK.sh1p (n := n) (A := fun b => [.agg (t.l (s.v b)), .i .i64 m, .i .i64 ds, .i .i64 dg]) (U := fun b => .agg ((jaT t m ds dg).l (s.v b))) (by kernel_rfl) (by simp [belL, AV.bel, Tr.l_bel]) hs hp.pl (fun ψ => by simp [renL, AV.ren, Tr.l_ren]) (fun h0 i => by subst h0; rfl) (fun ψ => by simp [AV.ren, Tr.l_ren]) (fun h0 i j => by subst h0; rfl) (w49 t s l hp m ds dg ht)
    rwa [← (shAt_inv hs).1] at this
  · cases hc
end Go.Proofs.Arr
