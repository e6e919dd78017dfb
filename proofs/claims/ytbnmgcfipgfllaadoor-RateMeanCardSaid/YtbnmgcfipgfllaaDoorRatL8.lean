/- Law 8 of chapter 30 (RateMean): the plain law, and the walk; printed by ratl8.py. -/
import Derived.Test.YtbnmgcfipgfllaaDoorRatP2
namespace Go.Proofs.Rate
open Go.Ab
set_option maxRecDepth 100000
set_option maxHeartbeats 8000000
set_option linter.unusedSimpArgs false
set_option linter.unusedVariables false
def T22 : List (Nat × Ct) := [(18, k18), (26, k26), (25, k25), (11, k11), (13, k13)]
theorem hT22 : Sound Tryd.prog (cxT T22) := Sound.cons s18 <| Sound.cons s26 <| Sound.cons s25 <| Sound.cons s11 <| Sound.cons s13 Sound.nil
theorem mean_over {r : Rt} {a : Int} (hg : r.good = true) (ht : r.att ≤ 1000000) (ha : 2000 ≤ a) (ha2 : a ≤ 100000000) : ∃ now mean, reportS r r.att 1 a = (⟨now, r.least, r.most, 0, mean, r.att, r.low, r.rai⟩, 0) ∧ now ≤ max (85 * a / 100) r.least ∧ now ≤ r.now ∧ r.least ≤ now ∧ 1000 ≤ mean ∧ mean ≤ 100000000 := by
  have gg := good_to hg
  have h0 := late0 (now := r.att) hg (Int.le_refl _) (by omega)
  obtain ⟨l1, l2, l3, l4, p1, p2, a1, a2, b1, b2, c1, c2, m⟩ := gg
  have hm : meanR r a = 0 ∨ (1000 ≤ meanR r a ∧ meanR r a ≤ 100000000) := by unfold meanR; split <;> omega
  have e : reportS r r.att 1 a = ((trendC 1 (chR r r.att (meanR r a) a)).r, 0) := by
    unfold reportS
    rw [if_neg (by simp [h0]), if_neg (by omega)]
  rw [e]
  generalize meanR r a = mm at *
  have hN : 1000 ≤ meanN (chR r r.att mm a) ∧ meanN (chR r r.att mm a) ≤ 100000000 := by
    unfold meanN chR
    dsimp only
    split <;> omega
  have ha0 : ¬ a = 0 := by omega
  refine ⟨max r.least (min (min r.now (85 * a / 100)) r.most), meanN (chR r r.att mm a), ?_, by omega, by omega, by omega, hN.1, hN.2⟩
  have hN1 : ¬ meanN (chR r r.att mm a) < 1000 := by omega
  simp only [trendC, overC, show ¬ ((1 : Int) = 0) by decide, if_false, if_true, hN1]
  generalize meanN (chR r r.att mm a) = z at *
  simp only [chR, ha0, if_false, setR]
structure MeanF (now least most mean att low rai : Int) : Prop where
  l1 : 1000 ≤ least
  l2 : least ≤ now
  l3 : now ≤ most
  l4 : most ≤ 100000000
  a1 : 0 ≤ att
  a2 : att ≤ 1000000
  b1 : 0 ≤ low
  b2 : low ≤ att
  c1 : 0 ≤ rai
  c2 : rai ≤ att
  m1 : 1000 ≤ mean
  m2 : mean ≤ 100000000
theorem MeanF.good {now least most mean att low rai : Int} (h : MeanF now least most mean att low rai) (p : Int) (hp : p = 0 ∨ p = 1) : (Rt.mk now least most p mean att low rai).good = true := by
  obtain ⟨l1, l2, l3, l4, a1, a2, b1, b2, c1, c2, m1, m2⟩ := h
  refine good_of ⟨?_, ?_, ?_, ?_, ?_, ?_, ?_, ?_, ?_, ?_, ?_, ?_, .inr ⟨m1, m2⟩⟩ <;> dsimp only <;> omega
theorem mean_up {now least most mean att low rai : Int} (h : MeanF now least most mean att low rai) : reportS ⟨now, least, most, 0, mean, att, low, rai⟩ att 0 0 = (⟨now, least, most, 1, mean, att, low, rai⟩, 0) := by
  have hg := h.good 0 (.inl rfl)
  obtain ⟨l1, l2, l3, l4, a1, a2, b1, b2, c1, c2, m1, m2⟩ := h
  have h0 := late0 (now := att) hg (Int.le_refl _) (by omega)
  unfold reportS
  rw [if_neg (by simp [h0]), if_neg (by omega)]
  have hm : meanR ⟨now, least, most, 0, mean, att, low, rai⟩ 0 = mean := by unfold meanR; rw [if_neg (by dsimp only; omega)]
  rw [hm]
  simp only [trendC, normC, chR, if_true]
theorem mean_wide {now least most mean att low rai : Int} (h : MeanF now least most mean att low rai) : boundS ⟨now, least, most, 1, mean, att, low, rai⟩ att 1000 100000000 = (⟨now, 1000, 100000000, 1, mean, att, low, rai⟩, 0) := by
  have hg := h.good 1 (.inr rfl)
  obtain ⟨l1, l2, l3, l4, a1, a2, b1, b2, c1, c2, m1, m2⟩ := h
  have h0 := late0 (now := att) hg (Int.le_refl _) (by omega)
  unfold boundS
  rw [if_neg (by simp [h0]), if_pos (by decide)]
  simp only [setR]
  rw [show max 1000 (min now 100000000) = now by omega]
def wantM (now mean ms : Int) : Int := if 9 * mean / 10 ≤ now then now + 50 * ms else now + 8 * now * ms / 100000
theorem mean_next {now mean att low rai ms : Int} (h : MeanF now 1000 100000000 mean att low rai) (hs : 0 ≤ ms) (hs2 : ms ≤ 999) : reportS ⟨now, 1000, 100000000, 1, mean, att, low, rai⟩ (att + ms) 0 0 = (⟨min (wantM now mean ms) 100000000, 1000, 100000000, 1, mean, att + ms, low, rai⟩, 0) := by
  have hg := h.good 1 (.inr rfl)
  obtain ⟨l1, l2, l3, l4, a1, a2, b1, b2, c1, c2, m1, m2⟩ := h
  have h0 := late0 (now := att + ms) hg (by dsimp only; omega) (by omega)
  unfold reportS
  rw [if_neg (by simp [h0]), if_neg (by omega)]
  have hm : meanR ⟨now, 1000, 100000000, 1, mean, att, low, rai⟩ 0 = mean := by unfold meanR; rw [if_neg (by dsimp only; omega)]
  rw [hm]
  have e : min (att + ms - att) 1000 = ms := by omega
  have hm0 : mean ≠ 0 := by omega
  have hw : now ≤ wantM now mean ms := by
    have : 0 ≤ 8 * now * ms := Int.mul_nonneg (by omega) hs
    unfold wantM
    generalize 8 * now * ms = z at *
    split <;> omega
  have hr : riseN (chR ⟨now, 1000, 100000000, 1, mean, att, low, rai⟩ (att + ms) mean 0) = wantM now mean ms := by
    simp only [riseN, chR, e, wantM, hm0, ne_eq, not_false_eq_true, true_and]
  simp only [trendC, normC, heldN, hr, if_true]
  generalize wantM now mean ms = z at *
  simp only [chR, show ¬ ((1 : Int) = 0) by decide, if_false, ne_eq, not_true_eq_false, setR]
  rw [show max 1000 (min z 100000000) = min z 100000000 by omega]
theorem mean_far {now mean att low rai : Int} (h : MeanF now 1000 100000000 mean att low rai) : reportS ⟨now, 1000, 100000000, 1, mean, att, low, rai⟩ att 2 (min (2 * mean) 100000000) = (⟨now, 1000, 100000000, 0, if 11 * mean / 10 < min (2 * mean) 100000000 then 0 else mean, att, low, rai⟩, 0) := by
  have hg := h.good 1 (.inr rfl)
  obtain ⟨l1, l2, l3, l4, a1, a2, b1, b2, c1, c2, m1, m2⟩ := h
  have h0 := late0 (now := att) hg (Int.le_refl _) (by omega)
  have hm0 : mean ≠ 0 := by omega
  unfold reportS
  rw [if_neg (by simp [h0]), if_neg (by omega)]
  have hm : meanR ⟨now, 1000, 100000000, 1, mean, att, low, rai⟩ (min (2 * mean) 100000000) = if 11 * mean / 10 < min (2 * mean) 100000000 then 0 else mean := by
    simp only [meanR, hm0, ne_eq, not_false_eq_true, true_and]
  rw [hm]
  simp only [trendC, underC, chR, show ¬ ((2 : Int) = 0) by decide, show ¬ ((2 : Int) = 1) by decide, if_false]
theorem w8n (a b c : Int) (n k : Int) (ha : u32B a = true) (hb : u32B b = true) (hcc : u32B c = true) (hn1 : IntKind.u32.min ≤ n) (hn2 : n ≤ IntKind.u32.max) (hk1 : IntKind.u16.min ≤ k) (hk2 : k ≤ IntKind.u16.max) : FTL Tryd.prog 8 [.agg [.i .u32 a, .i .u32 b, .i .u32 c, .ns], .i .u32 n, .i .u16 k] [(1, gBlk)] 2 (.b true) [] 2 := by
  refine FTL.of_iw hT22 mo' Tryd.func8 i8_eq (by simp [i8]) (iw_of_jw ?_)
  dsimp only [i8, T22]
  unfold gBlk
  have hn1 : 0 ≤ n := hn1
  have hn2 : n ≤ 4294967295 := hn2
  have hk1 : 0 ≤ k := hk1
  have hk2 : k ≤ 65535 := hk2
  obtain ⟨hg, hat⟩ : (draftS a b c []).good = true ∧ (draftS a b c []).att ≤ 1000000 := by
    have := behind_good (l := []) ha hb hcc rfl 40 (by omega)
    exact ⟨this.1, by have := this.2; show (behind a b c [] 40).att ≤ 1000000; omega⟩
  generalize hr : draftS a b c [] = r at *
  have gg := good_to hg
  have q1 : n.tmod 1000000 = n % 1000000 := Int.tmod_eq_emod_of_nonneg (by omega)
  have q2 : IntKind.u32.wrap (n % 1000000) = n % 1000000 := wrap_u32 (by omega) (by omega)
  have q3 : IntKind.i64.wrap (n % 1000000) = n % 1000000 := wrapL (by omega) (by omega)
  have q4 : IntKind.i64.wrap (2000 + n % 1000000) = 2000 + n % 1000000 := wrapL (by omega) (by omega)
  have q5 : k.tmod 1000 = k % 1000 := Int.tmod_eq_emod_of_nonneg (by omega)
  have q6 : IntKind.u16.wrap (k % 1000) = k % 1000 := wrap_u16 (by omega) (by omega)
  have q7 : IntKind.i64.wrap (k % 1000) = k % 1000 := wrapL (by omega) (by omega)
  obtain ⟨A, hA, hA1, hA2⟩ : ∃ A, 2000 + n % 1000000 = A ∧ 2000 ≤ A ∧ A ≤ 100000000 := ⟨_, rfl, by omega, by omega⟩
  obtain ⟨ms, hms, hs1, hs2⟩ : ∃ ms, k % 1000 = ms ∧ 0 ≤ ms ∧ ms ≤ 999 := ⟨_, rfl, by omega, by omega⟩
  rw [hA] at q4
  obtain ⟨now, mean, ho, o1, o2, o3, o4, o5⟩ := mean_over hg hat hA1 hA2
  obtain ⟨r0, r1, r2, r3, r4, att, low, rai⟩ := r
  obtain ⟨l1, l2, l3, l4, p1, p2, a1, a2, b1, b2, c1, c2, m⟩ := gg
  dsimp only at *
  have hF : MeanF now r1 r2 mean att low rai := ⟨l1, o3, by omega, l4, a1, hat, b1, b2, c1, c2, o4, o5⟩
  have hW : MeanF now 1000 100000000 mean att low rai := ⟨by omega, by omega, by omega, by omega, a1, hat, b1, b2, c1, c2, o4, o5⟩
  have hgo := hF.good 0 (.inl rfl)
  have hu := mean_up hF
  have hw := mean_wide hF
  have hnx := mean_next hW hs1 hs2
  have hfa := mean_far hW
  have z1 : IntKind.i64.wrap (85 * A) = 85 * A := wrapL (by omega) (by omega)
  have z2 : (85 * A).tdiv 100 = 85 * A / 100 := Int.tdiv_eq_ediv_of_nonneg (by omega)
  have z3 : IntKind.i64.wrap (85 * A / 100) = 85 * A / 100 := wrapL (by omega) (by omega)
  have z4 : decide (max (85 * A / 100) r1 < now) = false := decide_eq_false (by omega)
  have z5 : decide (r0 < now) = false := decide_eq_false (by omega)
  have z6 : decide (mean < 1000) = false := decide_eq_false (by omega)
  have z7 : IntKind.i64.wrap (att + ms) = att + ms := wrapL (by omega) (by omega)
  have b1 : 0 ≤ 8 * now * ms := Int.mul_nonneg (by omega) (by omega)
  have b2 : 8 * now * ms ≤ 800000000 * 1000 := Int.mul_le_mul (by omega) (by omega) (by omega) (by omega)
  have p2 : IntKind.i64.wrap (8 * now) = 8 * now := wrapL (by omega) (by omega)
  have p3 : IntKind.i64.wrap (8 * now * ms) = 8 * now * ms := wrapL (by omega) (by omega)
  have p4 : (8 * now * ms).tdiv 100000 = 8 * now * ms / 100000 := Int.tdiv_eq_ediv_of_nonneg b1
  have p5 : IntKind.i64.wrap (8 * now * ms / 100000) = 8 * now * ms / 100000 := wrapL (by omega) (by omega)
  have p6 : IntKind.i64.wrap (now + 8 * now * ms / 100000) = now + 8 * now * ms / 100000 := wrapL (by omega) (by omega)
  have p7 : IntKind.i64.wrap (9 * mean) = 9 * mean := wrapL (by omega) (by omega)
  have p8 : (9 * mean).tdiv 10 = 9 * mean / 10 := Int.tdiv_eq_ediv_of_nonneg (by omega)
  have p9 : IntKind.i64.wrap (9 * mean / 10) = 9 * mean / 10 := wrapL (by omega) (by omega)
  have p10 : IntKind.i64.wrap (50 * ms) = 50 * ms := wrapL (by omega) (by omega)
  have p11 : IntKind.i64.wrap (now + 50 * ms) = now + 50 * ms := wrapL (by omega) (by omega)
  have p12 : IntKind.i64.wrap (2 * mean) = 2 * mean := wrapL (by omega) (by omega)
  have hfin : ∀ x y : Int, min x y = min x y := fun _ _ => rfl
  have fa : (((if 11 * mean / 10 < min (2 * mean) 100000000 then (0 : Int) else mean) == 0) || decide (100000000 < 2 * mean)) = true := by
    split
    · rfl
    · have : decide (100000000 < 2 * mean) = true := decide_eq_true (by omega)
      rw [this]; simp
  generalize hfm : (if 11 * mean / 10 < min (2 * mean) 100000000 then (0 : Int) else mean) = fm at *
  by_cases hc : 9 * mean / 10 ≤ now
  · have d1 : decide (9 * mean / 10 ≤ now) = true := decide_eq_true hc
    have hwm : wantM now mean ms = now + 50 * ms := by simp [wantM, hc]
    rw [hwm] at hnx
    simp (config := { maxSteps := 400000 }) only [go_sem, evG, hglobC, hglob, k18, k26, k25, k11, k13, gAt, gIs, ha, hb, hcc, Rt.l, rtV, Rt.eta, q1, q2, q3, q4, q5, q6, q7, hA, hms, hr, ho, hu, hw, hnx, hfa, hgo, z1, z2, z3, z4, z5, z6, z7, p2, p3, p4, p5, p6, p7, p8, p9, p10, p11, p12, d1, bne_self_eq_false, ↓reduceIte, beq_self_eq_true, bne_self_eq_false, Int.reduceAdd, Int.reduceSub, Int.reduceMul, Int.reduceNeg, Int.reduceEq, Int.reduceNe, Int.cast_ofNat_Int, Int.lt_irrefl, Int.le_refl, Nat.reduceEqDiff, Nat.reduceLeDiff, Nat.reduceLT, Int.reducePow, IntKind.bits, Nat.reduceAdd, Nat.reduceMul, Nat.reduceSub, Int.reduceBNe, Int.reduceBEq, Int.reduceLE, Int.reduceLT, Int.reduceToNat, reduceCtorEq, Nat.zero_ne_one, Nat.one_ne_zero, and_self, and_true, true_and, Option.getD_some, Option.isSome_some, wrapL, gt_iff_lt, ge_iff_le, Int.toNat_natCast, Nat.sub_zero, ite_self, spB_TT, Nat.zero_add, Nat.add_zero]
    repeat' (first | refine spB_i (fun _ => ?_) (fun _ => ?_) | refine andB_i ?_ ?_)
    all_goals (refine Ends.pureE rfl (congrArg _ ?_))
    all_goals first | rfl | (simp only [beq_iff_eq, beq_eq_false_iff_ne, decide_eq_true_eq, decide_eq_false_iff_not, Bool.or_eq_true] at *; omega) | grind
  · have d1 : decide (9 * mean / 10 ≤ now) = false := decide_eq_false hc
    have hwm : wantM now mean ms = now + 8 * now * ms / 100000 := by simp [wantM, hc]
    rw [hwm] at hnx
    simp (config := { maxSteps := 400000 }) only [go_sem, evG, hglobC, hglob, k18, k26, k25, k11, k13, gAt, gIs, ha, hb, hcc, Rt.l, rtV, Rt.eta, q1, q2, q3, q4, q5, q6, q7, hA, hms, hr, ho, hu, hw, hnx, hfa, hgo, z1, z2, z3, z4, z5, z6, z7, p2, p3, p4, p5, p6, p7, p8, p9, p10, p11, p12, d1, bne_self_eq_false, ↓reduceIte, beq_self_eq_true, bne_self_eq_false, Int.reduceAdd, Int.reduceSub, Int.reduceMul, Int.reduceNeg, Int.reduceEq, Int.reduceNe, Int.cast_ofNat_Int, Int.lt_irrefl, Int.le_refl, Nat.reduceEqDiff, Nat.reduceLeDiff, Nat.reduceLT, Int.reducePow, IntKind.bits, Nat.reduceAdd, Nat.reduceMul, Nat.reduceSub, Int.reduceBNe, Int.reduceBEq, Int.reduceLE, Int.reduceLT, Int.reduceToNat, reduceCtorEq, Nat.zero_ne_one, Nat.one_ne_zero, and_self, and_true, true_and, Option.getD_some, Option.isSome_some, wrapL, gt_iff_lt, ge_iff_le, Int.toNat_natCast, Nat.sub_zero, ite_self, spB_TT, Nat.zero_add, Nat.add_zero]
    repeat' (first | refine spB_i (fun _ => ?_) (fun _ => ?_) | refine andB_i ?_ ?_)
    all_goals (refine Ends.pureE rfl (congrArg _ ?_))
    all_goals first | rfl | (simp only [beq_iff_eq, beq_eq_false_iff_ne, decide_eq_true_eq, decide_eq_false_iff_not, Bool.or_eq_true] at *; omega) | grind
theorem w8s (a b c : Int) (l : List Ev) (cap : Nat) (hl : l.all Ev.ok = true) (n k : Int) (ha : u32B a = true) (hb : u32B b = true) (hcc : u32B c = true) (hn1 : IntKind.u32.min ≤ n) (hn2 : n ≤ IntKind.u32.max) (hk1 : IntKind.u16.min ≤ k) (hk2 : k ≤ IntKind.u16.max) : FTL Tryd.prog 8 [.agg [.i .u32 a, .i .u32 b, .i .u32 c, .sl 0 0 l.length cap], .i .u32 n, .i .u16 k] [(0, { cells := rows Ev.l l, ro := true }), (1, gBlk)] 2 (.b true) [] 2 := by
  refine FTL.of_iw hT22 mo' Tryd.func8 i8_eq (by simp [i8]) (iw_of_jw ?_)
  dsimp only [i8, T22]
  unfold gBlk
  have hn1 : 0 ≤ n := hn1
  have hn2 : n ≤ 4294967295 := hn2
  have hk1 : 0 ≤ k := hk1
  have hk2 : k ≤ 65535 := hk2
  have hu0 := evsB_rows l true
  obtain ⟨hg, hat⟩ : (draftS a b c l).good = true ∧ (draftS a b c l).att ≤ 1000000 := by
    have := behind_good ha hb hcc hl 40 (by omega)
    exact ⟨this.1, by have := this.2; show (behind a b c l 40).att ≤ 1000000; omega⟩
  generalize rows Ev.l l = EL at *
  generalize hr : draftS a b c l = r at *
  have gg := good_to hg
  have q1 : n.tmod 1000000 = n % 1000000 := Int.tmod_eq_emod_of_nonneg (by omega)
  have q2 : IntKind.u32.wrap (n % 1000000) = n % 1000000 := wrap_u32 (by omega) (by omega)
  have q3 : IntKind.i64.wrap (n % 1000000) = n % 1000000 := wrapL (by omega) (by omega)
  have q4 : IntKind.i64.wrap (2000 + n % 1000000) = 2000 + n % 1000000 := wrapL (by omega) (by omega)
  have q5 : k.tmod 1000 = k % 1000 := Int.tmod_eq_emod_of_nonneg (by omega)
  have q6 : IntKind.u16.wrap (k % 1000) = k % 1000 := wrap_u16 (by omega) (by omega)
  have q7 : IntKind.i64.wrap (k % 1000) = k % 1000 := wrapL (by omega) (by omega)
  obtain ⟨A, hA, hA1, hA2⟩ : ∃ A, 2000 + n % 1000000 = A ∧ 2000 ≤ A ∧ A ≤ 100000000 := ⟨_, rfl, by omega, by omega⟩
  obtain ⟨ms, hms, hs1, hs2⟩ : ∃ ms, k % 1000 = ms ∧ 0 ≤ ms ∧ ms ≤ 999 := ⟨_, rfl, by omega, by omega⟩
  rw [hA] at q4
  obtain ⟨now, mean, ho, o1, o2, o3, o4, o5⟩ := mean_over hg hat hA1 hA2
  obtain ⟨r0, r1, r2, r3, r4, att, low, rai⟩ := r
  obtain ⟨l1, l2, l3, l4, p1, p2, a1, a2, b1, b2, c1, c2, m⟩ := gg
  dsimp only at *
  have hF : MeanF now r1 r2 mean att low rai := ⟨l1, o3, by omega, l4, a1, hat, b1, b2, c1, c2, o4, o5⟩
  have hW : MeanF now 1000 100000000 mean att low rai := ⟨by omega, by omega, by omega, by omega, a1, hat, b1, b2, c1, c2, o4, o5⟩
  have hgo := hF.good 0 (.inl rfl)
  have hu := mean_up hF
  have hw := mean_wide hF
  have hnx := mean_next hW hs1 hs2
  have hfa := mean_far hW
  have z1 : IntKind.i64.wrap (85 * A) = 85 * A := wrapL (by omega) (by omega)
  have z2 : (85 * A).tdiv 100 = 85 * A / 100 := Int.tdiv_eq_ediv_of_nonneg (by omega)
  have z3 : IntKind.i64.wrap (85 * A / 100) = 85 * A / 100 := wrapL (by omega) (by omega)
  have z4 : decide (max (85 * A / 100) r1 < now) = false := decide_eq_false (by omega)
  have z5 : decide (r0 < now) = false := decide_eq_false (by omega)
  have z6 : decide (mean < 1000) = false := decide_eq_false (by omega)
  have z7 : IntKind.i64.wrap (att + ms) = att + ms := wrapL (by omega) (by omega)
  have b1 : 0 ≤ 8 * now * ms := Int.mul_nonneg (by omega) (by omega)
  have b2 : 8 * now * ms ≤ 800000000 * 1000 := Int.mul_le_mul (by omega) (by omega) (by omega) (by omega)
  have p2 : IntKind.i64.wrap (8 * now) = 8 * now := wrapL (by omega) (by omega)
  have p3 : IntKind.i64.wrap (8 * now * ms) = 8 * now * ms := wrapL (by omega) (by omega)
  have p4 : (8 * now * ms).tdiv 100000 = 8 * now * ms / 100000 := Int.tdiv_eq_ediv_of_nonneg b1
  have p5 : IntKind.i64.wrap (8 * now * ms / 100000) = 8 * now * ms / 100000 := wrapL (by omega) (by omega)
  have p6 : IntKind.i64.wrap (now + 8 * now * ms / 100000) = now + 8 * now * ms / 100000 := wrapL (by omega) (by omega)
  have p7 : IntKind.i64.wrap (9 * mean) = 9 * mean := wrapL (by omega) (by omega)
  have p8 : (9 * mean).tdiv 10 = 9 * mean / 10 := Int.tdiv_eq_ediv_of_nonneg (by omega)
  have p9 : IntKind.i64.wrap (9 * mean / 10) = 9 * mean / 10 := wrapL (by omega) (by omega)
  have p10 : IntKind.i64.wrap (50 * ms) = 50 * ms := wrapL (by omega) (by omega)
  have p11 : IntKind.i64.wrap (now + 50 * ms) = now + 50 * ms := wrapL (by omega) (by omega)
  have p12 : IntKind.i64.wrap (2 * mean) = 2 * mean := wrapL (by omega) (by omega)
  have hfin : ∀ x y : Int, min x y = min x y := fun _ _ => rfl
  have fa : (((if 11 * mean / 10 < min (2 * mean) 100000000 then (0 : Int) else mean) == 0) || decide (100000000 < 2 * mean)) = true := by
    split
    · rfl
    · have : decide (100000000 < 2 * mean) = true := decide_eq_true (by omega)
      rw [this]; simp
  generalize hfm : (if 11 * mean / 10 < min (2 * mean) 100000000 then (0 : Int) else mean) = fm at *
  by_cases hc : 9 * mean / 10 ≤ now
  · have d1 : decide (9 * mean / 10 ≤ now) = true := decide_eq_true hc
    have hwm : wantM now mean ms = now + 50 * ms := by simp [wantM, hc]
    rw [hwm] at hnx
    simp (config := { maxSteps := 400000 }) only [go_sem, evG, hglobC, hglob, k18, k26, k25, k11, k13, gAt, gIs, ha, hb, hcc, Rt.l, rtV, Rt.eta, q1, q2, q3, q4, q5, q6, q7, hA, hms, hr, ho, hu, hw, hnx, hfa, hgo, z1, z2, z3, z4, z5, z6, z7, p2, p3, p4, p5, p6, p7, p8, p9, p10, p11, p12, d1, bne_self_eq_false, hu0, hl, ↓reduceIte, beq_self_eq_true, bne_self_eq_false, Int.reduceAdd, Int.reduceSub, Int.reduceMul, Int.reduceNeg, Int.reduceEq, Int.reduceNe, Int.cast_ofNat_Int, Int.lt_irrefl, Int.le_refl, Nat.reduceEqDiff, Nat.reduceLeDiff, Nat.reduceLT, Int.reducePow, IntKind.bits, Nat.reduceAdd, Nat.reduceMul, Nat.reduceSub, Int.reduceBNe, Int.reduceBEq, Int.reduceLE, Int.reduceLT, Int.reduceToNat, reduceCtorEq, Nat.zero_ne_one, Nat.one_ne_zero, and_self, and_true, true_and, Option.getD_some, Option.isSome_some, wrapL, gt_iff_lt, ge_iff_le, Int.toNat_natCast, Nat.sub_zero, ite_self, spB_TT, Nat.zero_add, Nat.add_zero]
    repeat' (first | refine spB_i (fun _ => ?_) (fun _ => ?_) | refine andB_i ?_ ?_)
    all_goals (refine Ends.pureE rfl (congrArg _ ?_))
    all_goals first | rfl | (simp only [beq_iff_eq, beq_eq_false_iff_ne, decide_eq_true_eq, decide_eq_false_iff_not, Bool.or_eq_true] at *; omega) | grind
  · have d1 : decide (9 * mean / 10 ≤ now) = false := decide_eq_false hc
    have hwm : wantM now mean ms = now + 8 * now * ms / 100000 := by simp [wantM, hc]
    rw [hwm] at hnx
    simp (config := { maxSteps := 400000 }) only [go_sem, evG, hglobC, hglob, k18, k26, k25, k11, k13, gAt, gIs, ha, hb, hcc, Rt.l, rtV, Rt.eta, q1, q2, q3, q4, q5, q6, q7, hA, hms, hr, ho, hu, hw, hnx, hfa, hgo, z1, z2, z3, z4, z5, z6, z7, p2, p3, p4, p5, p6, p7, p8, p9, p10, p11, p12, d1, bne_self_eq_false, hu0, hl, ↓reduceIte, beq_self_eq_true, bne_self_eq_false, Int.reduceAdd, Int.reduceSub, Int.reduceMul, Int.reduceNeg, Int.reduceEq, Int.reduceNe, Int.cast_ofNat_Int, Int.lt_irrefl, Int.le_refl, Nat.reduceEqDiff, Nat.reduceLeDiff, Nat.reduceLT, Int.reducePow, IntKind.bits, Nat.reduceAdd, Nat.reduceMul, Nat.reduceSub, Int.reduceBNe, Int.reduceBEq, Int.reduceLE, Int.reduceLT, Int.reduceToNat, reduceCtorEq, Nat.zero_ne_one, Nat.one_ne_zero, and_self, and_true, true_and, Option.getD_some, Option.isSome_some, wrapL, gt_iff_lt, ge_iff_le, Int.toNat_natCast, Nat.sub_zero, ite_self, spB_TT, Nat.zero_add, Nat.add_zero]
    repeat' (first | refine spB_i (fun _ => ?_) (fun _ => ?_) | refine andB_i ?_ ?_)
    all_goals (refine Ends.pureE rfl (congrArg _ ?_))
    all_goals first | rfl | (simp only [beq_iff_eq, beq_eq_false_iff_ne, decide_eq_true_eq, decide_eq_false_iff_not, Bool.or_eq_true] at *; omega) | grind
end Go.Proofs.Rate
