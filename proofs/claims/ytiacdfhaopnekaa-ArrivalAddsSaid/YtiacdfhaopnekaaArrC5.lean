/- Contracts of chapter 29: what is done to a state; printed by arrc5.py. -/
import Derived.Test.YtiacdfhaopnekaaArrC4
namespace Go.Proofs.Arr
open Go.Ab
set_option maxRecDepth 100000
set_option maxHeartbeats 8000000
set_option linter.unusedSimpArgs false
set_option linter.unusedVariables false
def chgV (k : Blk) : Option (Tr × AV × Int × Int) := match k with
  | ⟨[.i .i64 a0, .b a1, .b a2, .i .i64 a3, .i .i64 a4, .i .i64 a5, .i .i64 a6, .i .i64 a7, .i .i64 a8, .i .i64 a9, .i .i64 a10, .i .i64 a11, .i .i64 a12, .i .i64 a13, .i .i64 a14, .i .i64 a15, v, .i .i64 a, .i .i64 b], false, none, none⟩ => some (⟨a0, a1, a2, a3, a4, a5, a6, a7, a8, a9, a10, a11, a12, a13, a14, a15⟩, v, a, b)
  | _ => none
theorem chgV_eq {k : Blk} {q : Tr × AV × Int × Int} (h : chgV k = some q) : k = { cells := q.1.c q.2.1 q.2.2.1 q.2.2.2 } := by
  unfold chgV at h
  split at h
  · cases h; rfl
  · cases h
theorem w34 (t : Tr) (s : Sh) (sent got : Int) (hp : s.plain = true) : FTL Try.prog 34 [.p 0 0] ((0, { cells := t.c (s.v 1) sent got }) :: s.h 1) 2 (.tup []) ((0, { cells := (beginT t sent got).c (s.v 1) sent got }) :: s.h 1) 2 := by
  refine FTL.of_iw Sound.nil mo Try.func34 i34_eq (by simp [i34]) (iw_of_jw ?_)
  dsimp only [i34]
  simp (config := { maxSteps := 400000 }) only [go_sem, Tr.c, Tr.l, simprocAttr]
  (refine Ends.boxM (C := fun i => (beginT t sent got).c (s.v i) sent got) hp rfl rfl (Tr.c_ren _ s sent got (rn []) 1) (Tr.c_bel _ s sent got (show 1 < 2 by decide)) ?_ ?_)
  · simp [hget_cons, Tr.c, Tr.l, beginT]
  · simp [hasS_cons, hasS_hit0]
def k34 : Ct
  | [.p b 0], h, n => (hget h b).bind fun k => (chgV k).bind fun q => (shAt q.2.1 h).bind fun s =>
    some (s.plain && shNe b q.2.1, { v := .tup [], n := n + 2, rd := b :: shR q.2.1, md := [(b, some { cells := (beginT q.1 q.2.2.1 q.2.2.2).c q.2.1 q.2.2.1 q.2.2.2 })] })
  | _, _, _ => none
theorem s34 : SoundAt Try.prog 34 k34 := fun args h n c E hc ht => by
  unfold k34 at hc
  split at hc
  · rename_i b
    simp only [Option.bind_eq_some_iff] at hc
    obtain ⟨k, hk, q, hq, s, hs, he⟩ := hc
    rw [chgV_eq hq] at hk
    obtain ⟨t, v, sent, got⟩ := q
    cases he
    simp only [Bool.and_eq_true] at ht
    have hv := (shAt_inv hs).1
    have := CallOK.boxM (n := n) (s := s) (v := v) (A := fun b => [.p b 0]) (C := fun i => t.c (s.v i) sent got) (C' := fun i => (beginT t sent got).c (s.v i) sent got) true (by kernel_rfl) rfl (Tr.c_bel _ _ _ _ (by decide)) (by rw [← hv]; exact hk) hs ht.1 (shNe_ne ht.2) (fun ψ => rfl) (fun ψ => Tr.c_ren _ _ _ _ ψ 1) (fun ψ => Tr.c_ren _ _ _ _ ψ 1) (fun h i j => Tr.c_nil _ _ _ h i j) (fun h i j => Tr.c_nil _ _ _ h i j) rfl (fun h => by cases h) (w34 t s sent got ht.1)
    rwa [← hv] at this
  · cases hc
theorem w42 (t : Tr) (s : Sh) (sent got : Int) (hp : s.plain = true) : FTL Try.prog 42 [.p 0 0] ((0, { cells := t.c (s.v 1) sent got }) :: s.h 1) 2 (.tup []) ((0, { cells := (clearT t).c .ns sent got }) :: s.h 1) 2 := by
  refine FTL.of_iw Sound.nil mo Try.func42 i42_eq (by simp [i42]) (iw_of_jw ?_)
  dsimp only [i42]
  simp (config := { maxSteps := 400000 }) only [go_sem, Tr.c, Tr.l, simprocAttr]
  refine Ends.boxM (C := fun i => (clearT t).c .ns sent got) hp rfl rfl rfl rfl ?_ ?_
  · simp [hget_cons, Tr.c, Tr.l, clearT]
  · simp [hasS_cons, hasS_hit0]
def k42 : Ct
  | [.p b 0], h, n => (hget h b).bind fun k => (chgV k).bind fun q => (shAt q.2.1 h).bind fun s =>
    some (s.plain && shNe b q.2.1, { v := .tup [], n := n + 2, rd := b :: shR q.2.1, md := [(b, some { cells := (clearT q.1).c .ns q.2.2.1 q.2.2.2 })] })
  | _, _, _ => none
theorem s42 : SoundAt Try.prog 42 k42 := fun args h n c E hc ht => by
  unfold k42 at hc
  split at hc
  · simp only [Option.bind_eq_some_iff] at hc
    obtain ⟨k, hk, q, hq, s, hs, he⟩ := hc
    rw [chgV_eq hq] at hk
    obtain ⟨t, v, sent, got⟩ := q
    cases he
    simp only [Bool.and_eq_true] at ht
    have hv := (shAt_inv hs).1
    exact CallOK.boxM (n := n) (s := s) (v := v) (A := fun b => [.p b 0]) (C := fun i => t.c (s.v i) sent got) (C' := fun i => (clearT t).c .ns sent got) true (by kernel_rfl) rfl (Tr.c_bel _ _ _ _ (by decide)) (by rw [← hv]; exact hk) hs ht.1 (shNe_ne ht.2) (fun ψ => rfl) (fun ψ => Tr.c_ren _ _ _ _ ψ 1) (fun ψ => rfl) (fun h i j => Tr.c_nil _ _ _ h i j) (fun h i j => rfl) rfl (fun h => by cases h) (w42 t s sent got ht.1)
  · cases hc
def T46 : List (Nat × Ct) := [(43, k43)]
theorem hT46 : Sound Try.prog (cxT T46) := Sound.cons s43 Sound.nil
def okJ (t : Tr) (ds : Int) : Bool := inI 0 20000 t.ovr && inI 0 20000 t.ovs && inI 6144 614400 t.thr && inI 0 2000 ds
def okA (t : Tr) (m dg : Int) : Bool := inI 6144 614400 t.thr && inI 0 2000 dg && inI (-4000000000000000000) 4000000000000000000 m
theorem div2 {a : Int} (h : 0 ≤ a) : a.tdiv 2 = a / 2 := Int.tdiv_eq_ediv_of_nonneg h
theorem w45 (t : Tr) (s : Sh) (sent got : Int) (m : Int) (ds : Int) (hp : s.plain = true) (h : okJ t ds = true) : FTL Try.prog 45 [.p 0 0, .i .i64 m, .i .i64 ds] ((0, { cells := t.c (s.v 1) sent got }) :: s.h 1) 2 (.tup []) ((0, { cells := (judgeT t m ds).c (s.v 1) sent got }) :: s.h 1) 2 := by
  refine FTL.of_iw Sound.nil mo Try.func45 i45_eq (by simp [i45]) (iw_of_jw ?_)
  dsimp only [i45]
  obtain ⟨att, st, past, fst, lst, gt, plst, pgot, cnt, sum, smo, thr, ovr, ovs, bef, sta⟩ := t
  simp only [okJ, Bool.and_eq_true, inI_iff] at h
  obtain ⟨⟨⟨h1, h2⟩, h3⟩, h4⟩ := h
  have q1 : IntKind.i64.wrap (0 - thr) = -thr := by rw [wrapL (by omega) (by omega)]; omega
  have q2 := div2 h4.1
  have q3 : IntKind.i64.wrap (ds / 2) = ds / 2 := wrapL (by omega) (by omega)
  have q4 : IntKind.i64.wrap (ovr + ds) = ovr + ds := wrapL (by omega) (by omega)
  have q5 : IntKind.i64.wrap (ovs + 1) = ovs + 1 := wrapL (by omega) (by omega)
  simp (config := { maxSteps := 400000 }) only [go_sem, Tr.c, Tr.l, q1, q2, q3, q4, q5, simprocAttr]
  repeat' (first | refine spB_i (fun _ => ?_) (fun _ => ?_) | refine andB_i ?_ ?_)
  all_goals (refine Ends.boxM (C := fun i => (judgeT ⟨att, st, past, fst, lst, gt, plst, pgot, cnt, sum, smo, thr, ovr, ovs, bef, sta⟩ m ds).c (s.v i) sent got) hp rfl rfl (Tr.c_ren _ s sent got (rn []) 1) (Tr.c_bel _ s sent got (show 1 < 2 by decide)) ?_ ?_)
  all_goals first
    | (simp [hasS_cons, hasS_hit0]; done)
    | (simp only [hget_cons, if_true, Nat.reduceEqDiff, if_false]; refine congrArg some (congrArg (fun c => ({ cells := c } : Blk)) ?_); simp only [decide_eq_true_eq, decide_eq_false_iff_not, beq_iff_eq, beq_eq_false_iff_ne] at *; dsimp only [judgeT]; (repeat' split) <;> first | rfl | (exfalso; omega) | (simp_all; done))

def k45 : Ct
  | [.p b 0, .i .i64 m, .i .i64 ds], h, n => (hget h b).bind fun k => (chgV k).bind fun q => (shAt q.2.1 h).bind fun s =>
    some (okJ q.1 ds && s.plain && shNe b q.2.1, { v := .tup [], n := n + 2, rd := b :: shR q.2.1, md := [(b, some { cells := (judgeT q.1 m ds).c q.2.1 q.2.2.1 q.2.2.2 })] })
  | _, _, _ => none
theorem s45 : SoundAt Try.prog 45 k45 := fun args h n c E hc ht => by
  unfold k45 at hc
  split at hc
  · rename_i b m ds
    simp only [Option.bind_eq_some_iff] at hc
    obtain ⟨k, hk, q, hq, s, hs, he⟩ := hc
    rw [chgV_eq hq] at hk
    obtain ⟨t, v, sent, got⟩ := q
    cases he
    simp only [Bool.and_eq_true] at ht
    have hv := (shAt_inv hs).1
    have := CallOK.boxM (n := n) (s := s) (v := v) (A := fun b => [.p b 0, .i .i64 m, .i .i64 ds]) (C := fun i => t.c (s.v i) sent got) (C' := fun i => (judgeT t m ds).c (s.v i) sent got) true (by kernel_rfl) rfl (Tr.c_bel _ _ _ _ (by decide)) (by rw [← hv]; exact hk) hs ht.1.2 (shNe_ne ht.2) (fun ψ => rfl) (fun ψ => Tr.c_ren _ _ _ _ ψ 1) (fun ψ => Tr.c_ren _ _ _ _ ψ 1) (fun h i j => Tr.c_nil _ _ _ h i j) (fun h i j => Tr.c_nil _ _ _ h i j) rfl (fun h => by cases h) (w45 t s sent got _ _ ht.1.2 (by simpa only [Bool.and_eq_true] using ht.1.1))
    rwa [← hv] at this
  · cases hc
theorem w46 (t : Tr) (s : Sh) (sent got : Int) (m : Int) (dg : Int) (hp : s.plain = true) (h : okA t m dg = true) : FTL Try.prog 46 [.p 0 0, .i .i64 m, .i .i64 dg] ((0, { cells := t.c (s.v 1) sent got }) :: s.h 1) 2 (.tup []) ((0, { cells := ({ t with thr := adaptN t.thr m dg } : Tr).c (s.v 1) sent got }) :: s.h 1) 2 := by
  refine FTL.of_iw hT46 mo Try.func46 i46_eq (by simp [i46]) (iw_of_jw ?_)
  dsimp only [i46, T46]
  simp only [okA, Bool.and_eq_true, inI_iff] at h
  obtain ⟨⟨h1, h2⟩, h3⟩ := h
  have q1 : IntKind.i64.wrap (0 - m) = -m := by rw [wrapL (by omega) (by omega)]; omega
  have q2 : IntKind.i64.wrap (t.thr + 15360) = t.thr + 15360 := wrapL (by omega) (by omega)
  obtain ⟨a, ha, ha0⟩ : ∃ a, max m (-m) = a ∧ 0 ≤ a := ⟨_, rfl, by omega⟩
  obtain ⟨g, hg, hg0⟩ : ∃ g, min dg 100 = g ∧ (0 ≤ g ∧ g ≤ 100) := ⟨_, rfl, by omega⟩
  have e0 : adaptN t.thr m dg = if t.thr + 15360 < a then t.thr else max 6144 (min (t.thr + (a - t.thr) * (if t.thr < a then 87 else 390) * g / 10000) 614400) := by simp only [adaptN, ha, hg]
  generalize hR : adaptN t.thr m dg = R at *
  by_cases c1 : t.thr + 15360 < a
  · have d1 : decide (t.thr + 15360 < a) = true := decide_eq_true c1
    rw [if_pos c1] at e0
    simp (config := { maxSteps := 400000 }) only [go_sem, Tr.c, Tr.l, q1, q2, ha, d1, simprocAttr]
    (refine Ends.boxM (C := fun i => ({ t with thr := R } : Tr).c (s.v i) sent got) hp rfl rfl (Tr.c_ren _ s sent got (rn []) 1) (Tr.c_bel _ s sent got (show 1 < 2 by decide)) ?_ ?_)
    · simp [hget_cons, Tr.c, Tr.l, e0]
    · simp [hasS_cons, hasS_hit0]
  · have d1 : decide (t.thr + 15360 < a) = false := decide_eq_false c1
    rw [if_neg c1] at e0
    have w1 : IntKind.i64.wrap (a - t.thr) = a - t.thr := wrapL (by omega) (by omega)
    by_cases c2 : t.thr < a
    · have d2 : decide (t.thr < a) = true := decide_eq_true c2
      rw [if_pos c2] at e0
      have m1 := mul_rng (A := 61440000) (B := 100) (x := (a - t.thr) * 87) (y := g) (by omega) (by omega) (by omega) (by omega) (by decide) (by decide)
      have w2 : IntKind.i64.wrap ((a - t.thr) * 87) = (a - t.thr) * 87 := wrapL (by omega) (by omega)
      have w3 : IntKind.i64.wrap ((a - t.thr) * 87 * g) = (a - t.thr) * 87 * g := wrapL (by omega) (by omega)
      have hd : divOK ((a - t.thr) * 87 * g) 10000 = true := by simp only [divOK, Bool.and_eq_true, decide_eq_true_eq, inI_iff]; omega
      have w4 : IntKind.i64.wrap (t.thr + (a - t.thr) * 87 * g / 10000) = t.thr + (a - t.thr) * 87 * g / 10000 := wrapL (by omega) (by omega)
      simp (config := { maxSteps := 400000 }) only [go_sem, Tr.c, Tr.l, q1, q2, ha, hg, d1, d2, w1, w2, w3, w4, k43, hd, simprocAttr]
      (refine Ends.boxM (C := fun i => ({ t with thr := R } : Tr).c (s.v i) sent got) hp rfl rfl (Tr.c_ren _ s sent got (rn []) 1) (Tr.c_bel _ s sent got (show 1 < 2 by decide)) ?_ ?_)
      · simp only [hget_cons, if_true, Nat.reduceEqDiff, if_false, Tr.c, Tr.l]; rw [e0]; simp only [List.cons_append, List.nil_append]; congr; omega
      · simp [hasS_cons, hasS_hit0]
    · have d2 : decide (t.thr < a) = false := decide_eq_false c2
      rw [if_neg c2] at e0
      have m1 := mul_rng (A := 239616000) (B := 100) (x := (a - t.thr) * 390) (y := g) (by omega) (by omega) (by omega) (by omega) (by decide) (by decide)
      have w2 : IntKind.i64.wrap ((a - t.thr) * 390) = (a - t.thr) * 390 := wrapL (by omega) (by omega)
      have w3 : IntKind.i64.wrap ((a - t.thr) * 390 * g) = (a - t.thr) * 390 * g := wrapL (by omega) (by omega)
      have hd : divOK ((a - t.thr) * 390 * g) 10000 = true := by simp only [divOK, Bool.and_eq_true, decide_eq_true_eq, inI_iff]; omega
      have w4 : IntKind.i64.wrap (t.thr + (a - t.thr) * 390 * g / 10000) = t.thr + (a - t.thr) * 390 * g / 10000 := wrapL (by omega) (by omega)
      simp (config := { maxSteps := 400000 }) only [go_sem, Tr.c, Tr.l, q1, q2, ha, hg, d1, d2, w1, w2, w3, w4, k43, hd, simprocAttr]
      (refine Ends.boxM (C := fun i => ({ t with thr := R } : Tr).c (s.v i) sent got) hp rfl rfl (Tr.c_ren _ s sent got (rn []) 1) (Tr.c_bel _ s sent got (show 1 < 2 by decide)) ?_ ?_)
      · simp only [hget_cons, if_true, Nat.reduceEqDiff, if_false, Tr.c, Tr.l]; rw [e0]; simp only [List.cons_append, List.nil_append]; congr; omega
      · simp [hasS_cons, hasS_hit0]
def k46 : Ct
  | [.p b 0, .i .i64 m, .i .i64 dg], h, n => (hget h b).bind fun k => (chgV k).bind fun q => (shAt q.2.1 h).bind fun s =>
    some (okA q.1 m dg && s.plain && shNe b q.2.1, { v := .tup [], n := n + 2, rd := b :: shR q.2.1, md := [(b, some { cells := ({ q.1 with thr := adaptN q.1.thr m dg } : Tr).c q.2.1 q.2.2.1 q.2.2.2 })] })
  | _, _, _ => none
theorem s46 : SoundAt Try.prog 46 k46 := fun args h n c E hc ht => by
  unfold k46 at hc
  split at hc
  · rename_i b m dg
    simp only [Option.bind_eq_some_iff] at hc
    obtain ⟨k, hk, q, hq, s, hs, he⟩ := hc
    rw [chgV_eq hq] at hk
    obtain ⟨t, v, sent, got⟩ := q
    cases he
    simp only [Bool.and_eq_true] at ht
    have hv := (shAt_inv hs).1
    have := CallOK.boxM (n := n) (s := s) (v := v) (A := fun b => [.p b 0, .i .i64 m, .i .i64 dg]) (C := fun i => t.c (s.v i) sent got) (C' := fun i => ({ t with thr := adaptN t.thr m dg } : Tr).c (s.v i) sent got) true (by kernel_rfl) rfl (Tr.c_bel _ _ _ _ (by decide)) (by rw [← hv]; exact hk) hs ht.1.2 (shNe_ne ht.2) (fun ψ => rfl) (fun ψ => Tr.c_ren _ _ _ _ ψ 1) (fun ψ => Tr.c_ren _ _ _ _ ψ 1) (fun h i j => Tr.c_nil _ _ _ h i j) (fun h i j => Tr.c_nil _ _ _ h i j) rfl (fun h => by cases h) (w46 t s sent got _ _ ht.1.2 (by simpa only [Bool.and_eq_true] using ht.1.1))
    rwa [← hv] at this
  · cases hc
def k44 : Ct
  | [.p b 0], h, n => (hget h b).bind fun k => (chgV k).bind fun q => (shAt q.2.1 h).bind fun s => (rdL ptV 2 s).bind fun l =>
    some (nearB l && decide (1 ≤ l.length) && inI 0 60 q.1.cnt && shNe b q.2.1, { v := .i .i64 (trendN l q.1.cnt), n := n + 2, rd := b :: shR q.2.1 })
  | _, _, _ => none
theorem s44 : SoundAt Try.prog 44 k44 := fun args h n c E hc ht => by
  unfold k44 at hc
  split at hc
  · simp only [Option.bind_eq_some_iff] at hc
    obtain ⟨k, hk, q, hq, s, hs, l, hl, he⟩ := hc
    rw [chgV_eq hq] at hk
    obtain ⟨t, v, sent, got⟩ := q
    cases he
    simp only [Bool.and_eq_true, decide_eq_true_eq] at ht
    have hp := pts_rd hl
    have hv := (shAt_inv hs).1
    exact CallOK.boxM (n := n) (s := s) (v := v) (A := fun b => [.p b 0]) (C := fun i => t.c (s.v i) sent got) (C' := fun i => t.c (s.v i) sent got) false (by kernel_rfl) rfl (Tr.c_bel _ _ _ _ (by decide)) (by rw [← hv]; exact hk) hs hp.pl (shNe_ne ht.2) (fun ψ => rfl) (fun ψ => Tr.c_ren _ _ _ _ ψ 1) (fun ψ => Tr.c_ren _ _ _ _ ψ 1) (fun h i j => Tr.c_nil _ _ _ h i j) (fun h i j => Tr.c_nil _ _ _ h i j) rfl (fun _ => rfl) (w44 t s l sent got hp ht.1.1.1 ht.1.1.2 ht.1.2)
  · cases hc
end Go.Proofs.Arr
