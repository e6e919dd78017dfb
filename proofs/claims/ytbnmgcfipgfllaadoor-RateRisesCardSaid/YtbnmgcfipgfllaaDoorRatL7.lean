/- Law 7 of chapter 30 (RateRises), the walk; printed by ratl7.py. -/
import Derived.Test.YtbnmgcfipgfllaaDoorRatP2
namespace Go.Proofs.Rate
open Go.Ab
set_option maxRecDepth 100000
set_option maxHeartbeats 8000000
set_option linter.unusedSimpArgs false
set_option linter.unusedVariables false
def T21 : List (Nat × Ct) := [(18, k18), (15, k15), (16, k16), (25, k25)]
theorem hT21 : Sound Tryd.prog (cxT T21) := Sound.cons s18 <| Sound.cons s15 <| Sound.cons s16 <| Sound.cons s25 Sound.nil
def stepM (i : Nat) : Int := if i % 3 = 1 then 500 else 1000
def wantS (w most s : Int) : Int := min (w + 8 * w * s / 100000) most
def riseW (now most : Int) : Nat → Int
  | 0 => now
  | i + 1 => wantS (riseW now most i) most (stepM i)
def riseT : Nat → Int
  | 0 => 0
  | i + 1 => riseT i + stepM i
def riseR (now least most : Int) (i : Nat) : Rt := ⟨riseW now most i, least, most, 1, 0, riseT i, 0, 0⟩
theorem stepM_or (i : Nat) : stepM i = 500 ∨ stepM i = 1000 := by unfold stepM; split <;> simp
theorem riseT_le : ∀ i : Nat, 0 ≤ riseT i ∧ riseT i ≤ 1000 * i
  | 0 => by simp [riseT]
  | i + 1 => by
    have h := riseT_le i
    have h2 := stepM_or i
    simp only [riseT]
    omega
theorem want_le {w most s : Int} (h1 : 0 ≤ w) (h2 : w ≤ most) (h3 : 0 ≤ s) : w ≤ wantS w most s ∧ wantS w most s ≤ most := by
  have : 0 ≤ 8 * w * s := Int.mul_nonneg (by omega) h3
  unfold wantS
  generalize 8 * w * s = z at *
  omega
theorem riseW_le {now most : Int} (h1 : 0 ≤ now) (h2 : now ≤ most) : ∀ i : Nat, now ≤ riseW now most i ∧ riseW now most i ≤ most
  | 0 => by simp [riseW, h2]
  | i + 1 => by
    have h := riseW_le h1 h2 i
    have h3 := stepM_or i
    have h4 := want_le (s := stepM i) (show 0 ≤ riseW now most i by omega) h.2 (by omega)
    simp only [riseW]
    omega
theorem rise_report {w least most t s : Int} (hl : 1000 ≤ least) (hw : least ≤ w) (hm : w ≤ most) (hm2 : most ≤ 100000000) (ht : 0 ≤ t) (ht2 : t ≤ 1000000) (hs : 0 ≤ s) (hs2 : s ≤ 1000) :
    reportS ⟨w, least, most, 1, 0, t, 0, 0⟩ (t + s) 0 0 = (⟨wantS w most s, least, most, 1, 0, t + s, 0, 0⟩, 0) := by
  have hg : (Rt.mk w least most 1 0 t 0 0).good = true := good_of ⟨by dsimp only; omega, by dsimp only; omega, by dsimp only; omega, by dsimp only; omega, by dsimp only; omega, by dsimp only; omega, by dsimp only; omega, by dsimp only; omega, by dsimp only; omega, by dsimp only; omega, by dsimp only; omega, by dsimp only; omega, .inl rfl⟩
  have h0 := late0 (now := t + s) hg (by dsimp only; omega) (by omega)
  have h1 := want_le (s := s) (show 0 ≤ w by omega) hm hs
  unfold reportS
  rw [if_neg (by simp [h0]), if_neg (by omega)]
  have e : min (t + s - t) 1000 = s := by omega
  simp only [trendC, if_true, normC, chR, show ¬ ((1 : Int) = 0) by decide, if_false, setR, heldN, riseN, meanR, ne_eq, not_true_eq_false, false_and, e]
  unfold wantS at *
  generalize 8 * w * s / 100000 = z at *
  have : max least (min (w + z) most) = min (w + z) most := by omega
  rw [this]
theorem w7n (a b c : Int) (n : Int) (ha : u32B a = true) (hb : u32B b = true) (hc : u32B c = true) (hn1 : IntKind.u8.min ≤ n) (hn2 : n ≤ IntKind.u8.max) : FTL Tryd.prog 7 [.agg [.i .u32 a, .i .u32 b, .i .u32 c, .ns], .i .u8 n] [(1, gBlk)] 2 (.b true) [] 2 := by
  refine FTL.of_iw hT21 mo' Tryd.func7 i7_eq (by simp [i7]) (iw_of_jw ?_)
  dsimp only [i7, T21]
  unfold gBlk
  have hn1 : 0 ≤ n := hn1
  have hn2 : n ≤ 255 := hn2
  have h0 := start_ok ha hb hc
  have hr0 := good_to (r0_good ha hb hc).1
  unfold r0S at hr0
  rw [h0] at hr0
  obtain ⟨l1, l2, l3, l4, _, _, _, _, _, _, _, _, _⟩ := hr0
  dsimp only at l1 l2 l3 l4
  have q1 : n.tmod 40 = n % 40 := Int.tmod_eq_emod_of_nonneg (by omega)
  have q2 : IntKind.u8.wrap (n % 40) = n % 40 := wrap_u8 (by omega) (by omega)
  have q3 : IntKind.i64.wrap (n % 40) = n % 40 := wrapL (by omega) (by omega)
  simp (config := { maxSteps := 400000 }) only [go_sem, evG, hglobC, hglob, k18, gAt, gIs, k15, k16, ha, hb, hc, h0, Rt.l, q1, q2, q3, ↓reduceIte, beq_self_eq_true, bne_self_eq_false, Int.reduceAdd, Int.reduceSub, Int.reduceMul, Int.reduceNeg, Int.reduceEq, Int.reduceNe, Int.cast_ofNat_Int, Int.lt_irrefl, Int.le_refl, Nat.reduceEqDiff, Nat.reduceLeDiff, Nat.reduceLT, Int.reducePow, IntKind.bits, Nat.reduceAdd, Nat.reduceMul, Nat.reduceSub, Int.reduceBNe, Int.reduceBEq, Int.reduceLE, Int.reduceLT, Int.reduceToNat, reduceCtorEq, Nat.zero_ne_one, Nat.one_ne_zero, and_self, and_true, true_and, Option.getD_some, Option.isSome_some, wrapL, gt_iff_lt, ge_iff_le, Int.toNat_natCast, Nat.sub_zero, ite_self, spB_TT, Nat.zero_add, Nat.add_zero]
  have hm : ∃ m : Nat, m ≤ 40 ∧ n % 40 = m := ⟨(n % 40).toNat, by omega, by omega⟩
  obtain ⟨m, hm1, hm2⟩ := hm
  rw [hm2]
  generalize stN a = now at *
  generalize stL a b = least at *
  generalize stM a c = most at *
  refine Loop.count (F := ⟨Tryd.prog, cxT T21, [14, 29, 35, 39, 68], 70, 2⟩) hT21 mo' m (fun k => [(34, .i .i64 (k : Int)), (33, .i .i64 (m : Int)), (10, .i .i64 (riseW now most k)), (8, .p 3 0), (7, .i .i64 most)]) (fun k => [(3, { cells := (riseR now least most k).l }), (1, gBlk)]) 4 (by decide) ?_ ?_ (fun k hk => ?_)
  · simp (config := { maxSteps := 400000 }) only [go_sem, riseW, AV.bel, belL, nblt, ↓reduceIte, beq_self_eq_true, bne_self_eq_false, Int.reduceAdd, Int.reduceSub, Int.reduceMul, Int.reduceNeg, Int.reduceEq, Int.reduceNe, Int.cast_ofNat_Int, Int.lt_irrefl, Int.le_refl, Nat.reduceEqDiff, Nat.reduceLeDiff, Nat.reduceLT, Int.reducePow, IntKind.bits, Nat.reduceAdd, Nat.reduceMul, Nat.reduceSub, Int.reduceBNe, Int.reduceBEq, Int.reduceLE, Int.reduceLT, Int.reduceToNat, reduceCtorEq, Nat.zero_ne_one, Nat.one_ne_zero, and_self, and_true, true_and, Option.getD_some, Option.isSome_some, wrapL, gt_iff_lt, ge_iff_le, Int.toNat_natCast, Nat.sub_zero, ite_self, spB_TT, Nat.zero_add, Nat.add_zero]
  · simp (config := { maxSteps := 400000 }) only [go_sem, Rt.l, riseR, riseW, riseT, gBlk, AV.bel, belL, nblt, ↓reduceIte, beq_self_eq_true, bne_self_eq_false, Int.reduceAdd, Int.reduceSub, Int.reduceMul, Int.reduceNeg, Int.reduceEq, Int.reduceNe, Int.cast_ofNat_Int, Int.lt_irrefl, Int.le_refl, Nat.reduceEqDiff, Nat.reduceLeDiff, Nat.reduceLT, Int.reducePow, IntKind.bits, Nat.reduceAdd, Nat.reduceMul, Nat.reduceSub, Int.reduceBNe, Int.reduceBEq, Int.reduceLE, Int.reduceLT, Int.reduceToNat, reduceCtorEq, Nat.zero_ne_one, Nat.one_ne_zero, and_self, and_true, true_and, Option.getD_some, Option.isSome_some, wrapL, gt_iff_lt, ge_iff_le, Int.toNat_natCast, Nat.sub_zero, ite_self, spB_TT, Nat.zero_add, Nat.add_zero]
  · dsimp only [T21]
    unfold gBlk
    by_cases hlt : k < m
    · have d1 : decide ((k : Int) < (m : Int)) = true := decide_eq_true (by omega)
      have hq : IntKind.i64.wrap ((k : Int) + 1) = ((k + 1 : Nat) : Int) := by rw [wrapL (by omega) (by omega)]; omega
      have hW := riseW_le (now := now) (most := most) (by omega) l3 k
      have hT := riseT_le k
      have hs := stepM_or k
      have hrep := rise_report (w := riseW now most k) (least := least) (most := most) (t := riseT k) (s := stepM k) l1 (by omega) hW.2 l4 hT.1 (by omega) (by omega) (by omega)
      have hn : riseR now least most (k + 1) = ⟨wantS (riseW now most k) most (stepM k), least, most, 1, 0, riseT k + stepM k, 0, 0⟩ := rfl
      have hn2 : riseW now most (k + 1) = wantS (riseW now most k) most (stepM k) := rfl
      rw [hn, hn2]
      unfold riseR
      generalize riseT k = t at *
      generalize hWk : riseW now most k = w at *
      have t1 : (k : Int).tmod 3 = (k : Int) % 3 := Int.tmod_eq_emod_of_nonneg (by omega)
      have t2 : IntKind.i64.wrap ((k : Int) % 3) = (k : Int) % 3 := wrapL (by omega) (by omega)
      have p1 : IntKind.i64.wrap (t + stepM k) = t + stepM k := wrapL (by omega) (by omega)
      have b1 : 0 ≤ 8 * w * stepM k := Int.mul_nonneg (by omega) (by omega)
      have b2 : 8 * w * stepM k ≤ 800000000 * 1000 := Int.mul_le_mul (by omega) (by omega) (by omega) (by omega)
      have p2 : IntKind.i64.wrap (8 * w) = 8 * w := wrapL (by omega) (by omega)
      have p3 : IntKind.i64.wrap (8 * w * stepM k) = 8 * w * stepM k := wrapL (by omega) (by omega)
      have p4 : (8 * w * stepM k).tdiv 100000 = 8 * w * stepM k / 100000 := Int.tdiv_eq_ediv_of_nonneg b1
      have p5 : IntKind.i64.wrap (8 * w * stepM k / 100000) = 8 * w * stepM k / 100000 := wrapL (by omega) (by omega)
      have p6 : IntKind.i64.wrap (w + 8 * w * stepM k / 100000) = w + 8 * w * stepM k / 100000 := wrapL (by omega) (by omega)
      by_cases h3 : (k : Int) % 3 = 1
      · have f1 : ((k : Int) % 3 == 1) = true := by simp [h3]
        have hst : stepM k = 500 := by unfold stepM; rw [if_pos (by omega)]
        generalize stepM k = s at *
        subst hst
        simp (config := { maxSteps := 400000 }) only [go_sem, evG, hglobC, hglob, gAt, gIs, Rt.l, k25, rtV, Rt.eta, d1, hlt, hq, t1, t2, p1, p2, p3, p4, p5, p6, f1, hrep, wantS, AV.bel, belL, nblt, ↓reduceIte, beq_self_eq_true, bne_self_eq_false, Int.reduceAdd, Int.reduceSub, Int.reduceMul, Int.reduceNeg, Int.reduceEq, Int.reduceNe, Int.cast_ofNat_Int, Int.lt_irrefl, Int.le_refl, Nat.reduceEqDiff, Nat.reduceLeDiff, Nat.reduceLT, Int.reducePow, IntKind.bits, Nat.reduceAdd, Nat.reduceMul, Nat.reduceSub, Int.reduceBNe, Int.reduceBEq, Int.reduceLE, Int.reduceLT, Int.reduceToNat, reduceCtorEq, Nat.zero_ne_one, Nat.one_ne_zero, and_self, and_true, true_and, Option.getD_some, Option.isSome_some, wrapL, gt_iff_lt, ge_iff_le, Int.toNat_natCast, Nat.sub_zero, ite_self, spB_TT, Nat.zero_add, Nat.add_zero]
      · have f1 : ((k : Int) % 3 == 1) = false := by simp [h3]
        have hst : stepM k = 1000 := by unfold stepM; rw [if_neg (by omega)]
        generalize stepM k = s at *
        subst hst
        simp (config := { maxSteps := 400000 }) only [go_sem, evG, hglobC, hglob, gAt, gIs, Rt.l, k25, rtV, Rt.eta, d1, hlt, hq, t1, t2, p1, p2, p3, p4, p5, p6, f1, hrep, wantS, AV.bel, belL, nblt, ↓reduceIte, beq_self_eq_true, bne_self_eq_false, Int.reduceAdd, Int.reduceSub, Int.reduceMul, Int.reduceNeg, Int.reduceEq, Int.reduceNe, Int.cast_ofNat_Int, Int.lt_irrefl, Int.le_refl, Nat.reduceEqDiff, Nat.reduceLeDiff, Nat.reduceLT, Int.reducePow, IntKind.bits, Nat.reduceAdd, Nat.reduceMul, Nat.reduceSub, Int.reduceBNe, Int.reduceBEq, Int.reduceLE, Int.reduceLT, Int.reduceToNat, reduceCtorEq, Nat.zero_ne_one, Nat.one_ne_zero, and_self, and_true, true_and, Option.getD_some, Option.isSome_some, wrapL, gt_iff_lt, ge_iff_le, Int.toNat_natCast, Nat.sub_zero, ite_self, spB_TT, Nat.zero_add, Nat.add_zero]
    · have d1 : decide ((k : Int) < (m : Int)) = false := decide_eq_false (by omega)
      simp (config := { maxSteps := 400000 }) only [go_sem, d1, ↓reduceIte, beq_self_eq_true, bne_self_eq_false, Int.reduceAdd, Int.reduceSub, Int.reduceMul, Int.reduceNeg, Int.reduceEq, Int.reduceNe, Int.cast_ofNat_Int, Int.lt_irrefl, Int.le_refl, Nat.reduceEqDiff, Nat.reduceLeDiff, Nat.reduceLT, Int.reducePow, IntKind.bits, Nat.reduceAdd, Nat.reduceMul, Nat.reduceSub, Int.reduceBNe, Int.reduceBEq, Int.reduceLE, Int.reduceLT, Int.reduceToNat, reduceCtorEq, Nat.zero_ne_one, Nat.one_ne_zero, and_self, and_true, true_and, Option.getD_some, Option.isSome_some, wrapL, gt_iff_lt, ge_iff_le, Int.toNat_natCast, Nat.sub_zero, ite_self, spB_TT, Nat.zero_add, Nat.add_zero]
      exact Ends.pure rfl
theorem w7s (a b c : Int) (l : List Ev) (cap : Nat) (hl : l.all Ev.ok = true) (n : Int) (ha : u32B a = true) (hb : u32B b = true) (hc : u32B c = true) (hn1 : IntKind.u8.min ≤ n) (hn2 : n ≤ IntKind.u8.max) : FTL Tryd.prog 7 [.agg [.i .u32 a, .i .u32 b, .i .u32 c, .sl 0 0 l.length cap], .i .u8 n] [(0, { cells := rows Ev.l l, ro := true }), (1, gBlk)] 2 (.b true) [] 2 := by
  refine FTL.of_iw hT21 mo' Tryd.func7 i7_eq (by simp [i7]) (iw_of_jw ?_)
  dsimp only [i7, T21]
  unfold gBlk
  have hn1 : 0 ≤ n := hn1
  have hn2 : n ≤ 255 := hn2
  have hu := evsB_rows l true
  generalize rows Ev.l l = EL at *
  have h0 := start_ok ha hb hc
  have hr0 := good_to (r0_good ha hb hc).1
  unfold r0S at hr0
  rw [h0] at hr0
  obtain ⟨l1, l2, l3, l4, _, _, _, _, _, _, _, _, _⟩ := hr0
  dsimp only at l1 l2 l3 l4
  have q1 : n.tmod 40 = n % 40 := Int.tmod_eq_emod_of_nonneg (by omega)
  have q2 : IntKind.u8.wrap (n % 40) = n % 40 := wrap_u8 (by omega) (by omega)
  have q3 : IntKind.i64.wrap (n % 40) = n % 40 := wrapL (by omega) (by omega)
  simp (config := { maxSteps := 400000 }) only [go_sem, evG, hglobC, hglob, k18, gAt, gIs, k15, k16, ha, hb, hc, h0, Rt.l, q1, q2, q3, hu, ↓reduceIte, beq_self_eq_true, bne_self_eq_false, Int.reduceAdd, Int.reduceSub, Int.reduceMul, Int.reduceNeg, Int.reduceEq, Int.reduceNe, Int.cast_ofNat_Int, Int.lt_irrefl, Int.le_refl, Nat.reduceEqDiff, Nat.reduceLeDiff, Nat.reduceLT, Int.reducePow, IntKind.bits, Nat.reduceAdd, Nat.reduceMul, Nat.reduceSub, Int.reduceBNe, Int.reduceBEq, Int.reduceLE, Int.reduceLT, Int.reduceToNat, reduceCtorEq, Nat.zero_ne_one, Nat.one_ne_zero, and_self, and_true, true_and, Option.getD_some, Option.isSome_some, wrapL, gt_iff_lt, ge_iff_le, Int.toNat_natCast, Nat.sub_zero, ite_self, spB_TT, Nat.zero_add, Nat.add_zero]
  have hm : ∃ m : Nat, m ≤ 40 ∧ n % 40 = m := ⟨(n % 40).toNat, by omega, by omega⟩
  obtain ⟨m, hm1, hm2⟩ := hm
  rw [hm2]
  generalize stN a = now at *
  generalize stL a b = least at *
  generalize stM a c = most at *
  refine Loop.count (F := ⟨Tryd.prog, cxT T21, [14, 29, 35, 39, 68], 70, 2⟩) hT21 mo' m (fun k => [(34, .i .i64 (k : Int)), (33, .i .i64 (m : Int)), (10, .i .i64 (riseW now most k)), (8, .p 3 0), (7, .i .i64 most)]) (fun k => [(3, { cells := (riseR now least most k).l }), (1, gBlk)]) 4 (by decide) ?_ ?_ (fun k hk => ?_)
  · simp (config := { maxSteps := 400000 }) only [go_sem, riseW, AV.bel, belL, nblt, ↓reduceIte, beq_self_eq_true, bne_self_eq_false, Int.reduceAdd, Int.reduceSub, Int.reduceMul, Int.reduceNeg, Int.reduceEq, Int.reduceNe, Int.cast_ofNat_Int, Int.lt_irrefl, Int.le_refl, Nat.reduceEqDiff, Nat.reduceLeDiff, Nat.reduceLT, Int.reducePow, IntKind.bits, Nat.reduceAdd, Nat.reduceMul, Nat.reduceSub, Int.reduceBNe, Int.reduceBEq, Int.reduceLE, Int.reduceLT, Int.reduceToNat, reduceCtorEq, Nat.zero_ne_one, Nat.one_ne_zero, and_self, and_true, true_and, Option.getD_some, Option.isSome_some, wrapL, gt_iff_lt, ge_iff_le, Int.toNat_natCast, Nat.sub_zero, ite_self, spB_TT, Nat.zero_add, Nat.add_zero]
  · simp (config := { maxSteps := 400000 }) only [go_sem, Rt.l, riseR, riseW, riseT, gBlk, AV.bel, belL, nblt, ↓reduceIte, beq_self_eq_true, bne_self_eq_false, Int.reduceAdd, Int.reduceSub, Int.reduceMul, Int.reduceNeg, Int.reduceEq, Int.reduceNe, Int.cast_ofNat_Int, Int.lt_irrefl, Int.le_refl, Nat.reduceEqDiff, Nat.reduceLeDiff, Nat.reduceLT, Int.reducePow, IntKind.bits, Nat.reduceAdd, Nat.reduceMul, Nat.reduceSub, Int.reduceBNe, Int.reduceBEq, Int.reduceLE, Int.reduceLT, Int.reduceToNat, reduceCtorEq, Nat.zero_ne_one, Nat.one_ne_zero, and_self, and_true, true_and, Option.getD_some, Option.isSome_some, wrapL, gt_iff_lt, ge_iff_le, Int.toNat_natCast, Nat.sub_zero, ite_self, spB_TT, Nat.zero_add, Nat.add_zero]
  · dsimp only [T21]
    unfold gBlk
    by_cases hlt : k < m
    · have d1 : decide ((k : Int) < (m : Int)) = true := decide_eq_true (by omega)
      have hq : IntKind.i64.wrap ((k : Int) + 1) = ((k + 1 : Nat) : Int) := by rw [wrapL (by omega) (by omega)]; omega
      have hW := riseW_le (now := now) (most := most) (by omega) l3 k
      have hT := riseT_le k
      have hs := stepM_or k
      have hrep := rise_report (w := riseW now most k) (least := least) (most := most) (t := riseT k) (s := stepM k) l1 (by omega) hW.2 l4 hT.1 (by omega) (by omega) (by omega)
      have hn : riseR now least most (k + 1) = ⟨wantS (riseW now most k) most (stepM k), least, most, 1, 0, riseT k + stepM k, 0, 0⟩ := rfl
      have hn2 : riseW now most (k + 1) = wantS (riseW now most k) most (stepM k) := rfl
      rw [hn, hn2]
      unfold riseR
      generalize riseT k = t at *
      generalize hWk : riseW now most k = w at *
      have t1 : (k : Int).tmod 3 = (k : Int) % 3 := Int.tmod_eq_emod_of_nonneg (by omega)
      have t2 : IntKind.i64.wrap ((k : Int) % 3) = (k : Int) % 3 := wrapL (by omega) (by omega)
      have p1 : IntKind.i64.wrap (t + stepM k) = t + stepM k := wrapL (by omega) (by omega)
      have b1 : 0 ≤ 8 * w * stepM k := Int.mul_nonneg (by omega) (by omega)
      have b2 : 8 * w * stepM k ≤ 800000000 * 1000 := Int.mul_le_mul (by omega) (by omega) (by omega) (by omega)
      have p2 : IntKind.i64.wrap (8 * w) = 8 * w := wrapL (by omega) (by omega)
      have p3 : IntKind.i64.wrap (8 * w * stepM k) = 8 * w * stepM k := wrapL (by omega) (by omega)
      have p4 : (8 * w * stepM k).tdiv 100000 = 8 * w * stepM k / 100000 := Int.tdiv_eq_ediv_of_nonneg b1
      have p5 : IntKind.i64.wrap (8 * w * stepM k / 100000) = 8 * w * stepM k / 100000 := wrapL (by omega) (by omega)
      have p6 : IntKind.i64.wrap (w + 8 * w * stepM k / 100000) = w + 8 * w * stepM k / 100000 := wrapL (by omega) (by omega)
      by_cases h3 : (k : Int) % 3 = 1
      · have f1 : ((k : Int) % 3 == 1) = true := by simp [h3]
        have hst : stepM k = 500 := by unfold stepM; rw [if_pos (by omega)]
        generalize stepM k = s at *
        subst hst
        simp (config := { maxSteps := 400000 }) only [go_sem, evG, hglobC, hglob, gAt, gIs, Rt.l, k25, rtV, Rt.eta, d1, hlt, hq, t1, t2, p1, p2, p3, p4, p5, p6, f1, hrep, wantS, AV.bel, belL, nblt, ↓reduceIte, beq_self_eq_true, bne_self_eq_false, Int.reduceAdd, Int.reduceSub, Int.reduceMul, Int.reduceNeg, Int.reduceEq, Int.reduceNe, Int.cast_ofNat_Int, Int.lt_irrefl, Int.le_refl, Nat.reduceEqDiff, Nat.reduceLeDiff, Nat.reduceLT, Int.reducePow, IntKind.bits, Nat.reduceAdd, Nat.reduceMul, Nat.reduceSub, Int.reduceBNe, Int.reduceBEq, Int.reduceLE, Int.reduceLT, Int.reduceToNat, reduceCtorEq, Nat.zero_ne_one, Nat.one_ne_zero, and_self, and_true, true_and, Option.getD_some, Option.isSome_some, wrapL, gt_iff_lt, ge_iff_le, Int.toNat_natCast, Nat.sub_zero, ite_self, spB_TT, Nat.zero_add, Nat.add_zero]
      · have f1 : ((k : Int) % 3 == 1) = false := by simp [h3]
        have hst : stepM k = 1000 := by unfold stepM; rw [if_neg (by omega)]
        generalize stepM k = s at *
        subst hst
        simp (config := { maxSteps := 400000 }) only [go_sem, evG, hglobC, hglob, gAt, gIs, Rt.l, k25, rtV, Rt.eta, d1, hlt, hq, t1, t2, p1, p2, p3, p4, p5, p6, f1, hrep, wantS, AV.bel, belL, nblt, ↓reduceIte, beq_self_eq_true, bne_self_eq_false, Int.reduceAdd, Int.reduceSub, Int.reduceMul, Int.reduceNeg, Int.reduceEq, Int.reduceNe, Int.cast_ofNat_Int, Int.lt_irrefl, Int.le_refl, Nat.reduceEqDiff, Nat.reduceLeDiff, Nat.reduceLT, Int.reducePow, IntKind.bits, Nat.reduceAdd, Nat.reduceMul, Nat.reduceSub, Int.reduceBNe, Int.reduceBEq, Int.reduceLE, Int.reduceLT, Int.reduceToNat, reduceCtorEq, Nat.zero_ne_one, Nat.one_ne_zero, and_self, and_true, true_and, Option.getD_some, Option.isSome_some, wrapL, gt_iff_lt, ge_iff_le, Int.toNat_natCast, Nat.sub_zero, ite_self, spB_TT, Nat.zero_add, Nat.add_zero]
    · have d1 : decide ((k : Int) < (m : Int)) = false := decide_eq_false (by omega)
      simp (config := { maxSteps := 400000 }) only [go_sem, d1, ↓reduceIte, beq_self_eq_true, bne_self_eq_false, Int.reduceAdd, Int.reduceSub, Int.reduceMul, Int.reduceNeg, Int.reduceEq, Int.reduceNe, Int.cast_ofNat_Int, Int.lt_irrefl, Int.le_refl, Nat.reduceEqDiff, Nat.reduceLeDiff, Nat.reduceLT, Int.reducePow, IntKind.bits, Nat.reduceAdd, Nat.reduceMul, Nat.reduceSub, Int.reduceBNe, Int.reduceBEq, Int.reduceLE, Int.reduceLT, Int.reduceToNat, reduceCtorEq, Nat.zero_ne_one, Nat.one_ne_zero, and_self, and_true, true_and, Option.getD_some, Option.isSome_some, wrapL, gt_iff_lt, ge_iff_le, Int.toNat_natCast, Nat.sub_zero, ite_self, spB_TT, Nat.zero_add, Nat.add_zero]
      exact Ends.pure rfl
end Go.Proofs.Rate
