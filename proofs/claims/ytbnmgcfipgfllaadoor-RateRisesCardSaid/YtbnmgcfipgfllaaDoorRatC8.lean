/- Contracts of chapter 30: the reference's Report. -/
import Derived.Test.YtbnmgcfipgfllaaDoorRatCc
namespace Go.Proofs.Rate
open Go.Ab
set_option maxRecDepth 100000
set_option maxHeartbeats 4000000
set_option linter.unusedSimpArgs false
set_option linter.unusedVariables false

theorem w20 (r : Rt) (now t arr : Int) : FTL Tryd.prog 20 [.agg r.l, .i .i64 now, .i .i64 t, .i .i64 arr] [] 0 (.tup [.agg (reportS r now t arr).1.l, .i .i64 (reportS r now t arr).2]) [] 0 := by
  refine FTL.of_iw hT10 mo' Tryd.func20 i20_eq (by simp [i20]) (iw_of_jw ?_)
  dsimp only [i20, T10]
  by_cases h0 : lateE r now = 0
  · obtain ⟨hg, hn1, hn2⟩ := late_ok h0
    obtain ⟨g1, g2, g3, g4, g5, g6, g7, g8, g9, g10⟩ := good_iff hg
    generalize hR : reportS r now t arr = R
    by_cases hf : (t < 0 ∨ 2 < t) ∨ (arr < 0 ∨ 100000000 < arr)
    · have hR2 : R = (zRt, 2) := by rw [← hR]; simp only [reportS, h0, hf, ne_eq, not_true_eq_false, if_false, if_true]
      have hb : (decide (t < 0) || decide (2 < t) || decide (arr < 0) || decide (100000000 < arr)) = true := by simp; omega
      by_cases e1 : t < 0
      · have d1 : decide (t < 0) = true := decide_eq_true e1
        simp (config := { maxSteps := 400000 }) only [go_sem, Rt.l, k35, k36, rtV, Rt.eta, h0, d1, ↓reduceIte, beq_self_eq_true, bne_self_eq_false, Int.reduceAdd, Int.reduceSub, Int.reduceMul, Int.reduceNeg, Int.reduceEq, Int.reduceNe, Int.cast_ofNat_Int, Int.lt_irrefl, Int.le_refl, Nat.reduceEqDiff, Nat.reduceLeDiff, Nat.reduceLT, Int.reducePow, IntKind.bits, Nat.reduceAdd, Nat.reduceMul, Nat.reduceSub, Int.reduceBNe, Int.reduceBEq, Int.reduceLE, Int.reduceLT, Int.reduceToNat, reduceCtorEq, Nat.zero_ne_one, Nat.one_ne_zero, and_self, and_true, true_and, Option.getD_some, Option.isSome_some, wrapL, gt_iff_lt, ge_iff_le, Int.toNat_natCast, Nat.sub_zero, ite_self, spB_TT, Nat.zero_add, Nat.add_zero]
        refine Ends.pureE rfl ?_; rw [hR2]; rfl
      · have d1 : decide (t < 0) = false := decide_eq_false e1
        by_cases e2 : 2 < t
        · have d2 : decide (2 < t) = true := decide_eq_true e2
          simp (config := { maxSteps := 400000 }) only [go_sem, Rt.l, k35, k36, rtV, Rt.eta, h0, d1, d2, ↓reduceIte, beq_self_eq_true, bne_self_eq_false, Int.reduceAdd, Int.reduceSub, Int.reduceMul, Int.reduceNeg, Int.reduceEq, Int.reduceNe, Int.cast_ofNat_Int, Int.lt_irrefl, Int.le_refl, Nat.reduceEqDiff, Nat.reduceLeDiff, Nat.reduceLT, Int.reducePow, IntKind.bits, Nat.reduceAdd, Nat.reduceMul, Nat.reduceSub, Int.reduceBNe, Int.reduceBEq, Int.reduceLE, Int.reduceLT, Int.reduceToNat, reduceCtorEq, Nat.zero_ne_one, Nat.one_ne_zero, and_self, and_true, true_and, Option.getD_some, Option.isSome_some, wrapL, gt_iff_lt, ge_iff_le, Int.toNat_natCast, Nat.sub_zero, ite_self, spB_TT, Nat.zero_add, Nat.add_zero]
          refine Ends.pureE rfl ?_; rw [hR2]; rfl
        · have d2 : decide (2 < t) = false := decide_eq_false e2
          by_cases e3 : arr < 0
          · have d3 : decide (arr < 0) = true := decide_eq_true e3
            simp (config := { maxSteps := 400000 }) only [go_sem, Rt.l, k35, k36, rtV, Rt.eta, h0, d1, d2, d3, ↓reduceIte, beq_self_eq_true, bne_self_eq_false, Int.reduceAdd, Int.reduceSub, Int.reduceMul, Int.reduceNeg, Int.reduceEq, Int.reduceNe, Int.cast_ofNat_Int, Int.lt_irrefl, Int.le_refl, Nat.reduceEqDiff, Nat.reduceLeDiff, Nat.reduceLT, Int.reducePow, IntKind.bits, Nat.reduceAdd, Nat.reduceMul, Nat.reduceSub, Int.reduceBNe, Int.reduceBEq, Int.reduceLE, Int.reduceLT, Int.reduceToNat, reduceCtorEq, Nat.zero_ne_one, Nat.one_ne_zero, and_self, and_true, true_and, Option.getD_some, Option.isSome_some, wrapL, gt_iff_lt, ge_iff_le, Int.toNat_natCast, Nat.sub_zero, ite_self, spB_TT, Nat.zero_add, Nat.add_zero]
            refine Ends.pureE rfl ?_; rw [hR2]; rfl
          · have d3 : decide (arr < 0) = false := decide_eq_false e3
            have d4 : decide (100000000 < arr) = true := decide_eq_true (by omega)
            simp (config := { maxSteps := 400000 }) only [go_sem, Rt.l, k35, k36, rtV, Rt.eta, h0, d1, d2, d3, d4, ↓reduceIte, beq_self_eq_true, bne_self_eq_false, Int.reduceAdd, Int.reduceSub, Int.reduceMul, Int.reduceNeg, Int.reduceEq, Int.reduceNe, Int.cast_ofNat_Int, Int.lt_irrefl, Int.le_refl, Nat.reduceEqDiff, Nat.reduceLeDiff, Nat.reduceLT, Int.reducePow, IntKind.bits, Nat.reduceAdd, Nat.reduceMul, Nat.reduceSub, Int.reduceBNe, Int.reduceBEq, Int.reduceLE, Int.reduceLT, Int.reduceToNat, reduceCtorEq, Nat.zero_ne_one, Nat.one_ne_zero, and_self, and_true, true_and, Option.getD_some, Option.isSome_some, wrapL, gt_iff_lt, ge_iff_le, Int.toNat_natCast, Nat.sub_zero, ite_self, spB_TT, Nat.zero_add, Nat.add_zero]
            refine Ends.pureE rfl ?_; rw [hR2]; rfl
    · have d1 : decide (t < 0) = false := decide_eq_false (by omega)
      have d2 : decide (2 < t) = false := decide_eq_false (by omega)
      have d3 : decide (arr < 0) = false := decide_eq_false (by omega)
      have d4 : decide (100000000 < arr) = false := decide_eq_false (by omega)
      have z1 : IntKind.i64.wrap (11 * r.mean) = 11 * r.mean := wrapL (by omega) (by omega)
      have z2 : (11 * r.mean).tdiv 10 = 11 * r.mean / 10 := Int.tdiv_eq_ediv_of_nonneg (by omega)
      have z3 : IntKind.i64.wrap (11 * r.mean / 10) = 11 * r.mean / 10 := wrapL (by omega) (by omega)
      have z4 : IntKind.i64.wrap (now - r.att) = now - r.att := wrapL (by omega) (by omega)
      have hR' : R = ((trendC t (chR r now (meanR r arr) arr)).r, 0) := by rw [← hR]; simp only [reportS, h0, hf, ne_eq, not_true_eq_false, if_false]
      clear hR
      have hM : ∀ x : Int, min (max x r.least) r.most = max r.least (min x r.most) := fun x => by omega
      have ht : t = 0 ∨ t = 1 ∨ t = 2 := by omega
      have hd1 : 0 ≤ min (now - r.att) 1000 ∧ min (now - r.att) 1000 ≤ 1000 := by omega
      have hD : ∃ d, d = min (now - r.att) 1000 := ⟨_, rfl⟩
      obtain ⟨d, hd⟩ := hD
      rw [← hd] at hd1
      have hd' := hd.symm
      clear hd
      have b1 : 0 ≤ 8 * r.now * d := Int.mul_nonneg (by omega) (by omega)
      have b2 : 8 * r.now * d ≤ 800000000 * 1000 := Int.mul_le_mul (by omega) (by omega) (by omega) (by omega)
      have q1 : IntKind.i64.wrap (85 * r.now) = 85 * r.now := wrapL (by omega) (by omega)
      have q2 : (85 * r.now).tdiv 100 = 85 * r.now / 100 := Int.tdiv_eq_ediv_of_nonneg (by omega)
      have q3 : IntKind.i64.wrap (85 * r.now / 100) = 85 * r.now / 100 := wrapL (by omega) (by omega)
      have q4 : IntKind.i64.wrap (85 * arr) = 85 * arr := wrapL (by omega) (by omega)
      have q5 : (85 * arr).tdiv 100 = 85 * arr / 100 := Int.tdiv_eq_ediv_of_nonneg (by omega)
      have q6 : IntKind.i64.wrap (85 * arr / 100) = 85 * arr / 100 := wrapL (by omega) (by omega)
      have q7 : IntKind.i64.wrap (95 * r.mean) = 95 * r.mean := wrapL (by omega) (by omega)
      have q8 : IntKind.i64.wrap (5 * arr) = 5 * arr := wrapL (by omega) (by omega)
      have q9 : IntKind.i64.wrap (95 * r.mean + 5 * arr) = 95 * r.mean + 5 * arr := wrapL (by omega) (by omega)
      have q10 : (95 * r.mean + 5 * arr).tdiv 100 = (95 * r.mean + 5 * arr) / 100 := Int.tdiv_eq_ediv_of_nonneg (by omega)
      have q11 : IntKind.i64.wrap ((95 * r.mean + 5 * arr) / 100) = (95 * r.mean + 5 * arr) / 100 := wrapL (by omega) (by omega)
      have p0 : IntKind.i64.wrap (50 * d) = 50 * d := wrapL (by omega) (by omega)
      have p1 : IntKind.i64.wrap (r.now + 50 * d) = r.now + 50 * d := wrapL (by omega) (by omega)
      have p2 : IntKind.i64.wrap (8 * r.now) = 8 * r.now := wrapL (by omega) (by omega)
      have p3 : IntKind.i64.wrap (8 * r.now * d) = 8 * r.now * d := wrapL (by omega) (by omega)
      have p4 : (8 * r.now * d).tdiv 100000 = 8 * r.now * d / 100000 := Int.tdiv_eq_ediv_of_nonneg b1
      have p5 : IntKind.i64.wrap (8 * r.now * d / 100000) = 8 * r.now * d / 100000 := wrapL (by omega) (by omega)
      have p6 : IntKind.i64.wrap (r.now + 8 * r.now * d / 100000) = r.now + 8 * r.now * d / 100000 := wrapL (by omega) (by omega)
      have p7 : IntKind.i64.wrap (9 * r.mean) = 9 * r.mean := wrapL (by omega) (by omega)
      have p8 : (9 * r.mean).tdiv 10 = 9 * r.mean / 10 := Int.tdiv_eq_ediv_of_nonneg (by omega)
      have p9 : IntKind.i64.wrap (9 * r.mean / 10) = 9 * r.mean / 10 := wrapL (by omega) (by omega)
      have p10 : IntKind.i64.wrap (3 * arr) = 3 * arr := wrapL (by omega) (by omega)
      have p11 : (3 * arr).tdiv 2 = 3 * arr / 2 := Int.tdiv_eq_ediv_of_nonneg (by omega)
      have p12 : IntKind.i64.wrap (3 * arr / 2) = 3 * arr / 2 := wrapL (by omega) (by omega)
      have p13 : IntKind.i64.wrap (3 * arr / 2 + 10000) = 3 * arr / 2 + 10000 := wrapL (by omega) (by omega)
      have hC : ∀ (a b : Int), min a b = min b a := fun a b => by omega
      have hm5 : min (85 * arr / 100) r.now = min r.now (85 * arr / 100) := hC _ _
      have n1 : r.now ≤ r.now + 8 * r.now * d / 100000 := by omega
      clear hC
      by_cases hm : r.mean = 0
      · have hm0 : meanR r arr = 0 := by simp only [meanR, hm, ne_eq, not_true_eq_false, false_and, if_false]
        have f1 : (r.mean != 0) = false := by simp [hm]
        have f2 : (r.mean == 0) = true := by simp [hm]
        rw [hm0] at hR'
        clear hm0
        rcases ht with rfl | rfl | rfl
        · by_cases hp : r.phase = 0
          · have fp : (r.phase == 0) = true := by simp [hp]
            simp (config := { maxSteps := 400000 }) only [go_sem, Rt.l, k35, k36, rtV, Rt.eta, h0, d1, d2, d3, d4, fp, f1, f2, z1, z2, z3, z4, hd', q1, q2, q3, q4, q5, q6, q7, q8, q9, q10, q11, p0, p1, p2, p3, p4, p5, p6, p7, p8, p9, p10, p11, p12, p13, hM, hm5, ↓reduceIte, beq_self_eq_true, bne_self_eq_false, Int.reduceAdd, Int.reduceSub, Int.reduceMul, Int.reduceNeg, Int.reduceEq, Int.reduceNe, Int.cast_ofNat_Int, Int.lt_irrefl, Int.le_refl, Nat.reduceEqDiff, Nat.reduceLeDiff, Nat.reduceLT, Int.reducePow, IntKind.bits, Nat.reduceAdd, Nat.reduceMul, Nat.reduceSub, Int.reduceBNe, Int.reduceBEq, Int.reduceLE, Int.reduceLT, Int.reduceToNat, reduceCtorEq, Nat.zero_ne_one, Nat.one_ne_zero, and_self, and_true, true_and, Option.getD_some, Option.isSome_some, wrapL, gt_iff_lt, ge_iff_le, Int.toNat_natCast, Nat.sub_zero, ite_self, spB_TT, Nat.zero_add, Nat.add_zero]
            repeat' (first | refine spB_i (fun _ => ?_) (fun _ => ?_) | refine andB_i ?_ ?_)
            all_goals (refine Ends.pureE rfl ?_; rw [hR']; clear hR' q1 q2 q3 q4 q5 q6 q7 q8 q9 q10 q11 p0 p1 p2 p3 p4 p5 p6 p7 p8 p9 p10 p11 p12 p13 z1 z2 z3 z4 d1 d2 d3 d4 hM hm5 f1 f2 h0; simp only [decide_eq_true_eq, decide_eq_false_iff_not, beq_iff_eq, beq_eq_false_iff_ne, bne_iff_ne, ne_eq, bne_eq_false_iff_eq] at *; simp [trendC, chR, normC, overC, underC, meanN, heldN, riseN, setR, Rt.l, *]; try omega)
          · have fp : (r.phase == 0) = false := by simp [hp]
            simp (config := { maxSteps := 400000 }) only [go_sem, Rt.l, k35, k36, rtV, Rt.eta, h0, d1, d2, d3, d4, fp, f1, f2, z1, z2, z3, z4, hd', q1, q2, q3, q4, q5, q6, q7, q8, q9, q10, q11, p0, p1, p2, p3, p4, p5, p6, p7, p8, p9, p10, p11, p12, p13, hM, hm5, ↓reduceIte, beq_self_eq_true, bne_self_eq_false, Int.reduceAdd, Int.reduceSub, Int.reduceMul, Int.reduceNeg, Int.reduceEq, Int.reduceNe, Int.cast_ofNat_Int, Int.lt_irrefl, Int.le_refl, Nat.reduceEqDiff, Nat.reduceLeDiff, Nat.reduceLT, Int.reducePow, IntKind.bits, Nat.reduceAdd, Nat.reduceMul, Nat.reduceSub, Int.reduceBNe, Int.reduceBEq, Int.reduceLE, Int.reduceLT, Int.reduceToNat, reduceCtorEq, Nat.zero_ne_one, Nat.one_ne_zero, and_self, and_true, true_and, Option.getD_some, Option.isSome_some, wrapL, gt_iff_lt, ge_iff_le, Int.toNat_natCast, Nat.sub_zero, ite_self, spB_TT, Nat.zero_add, Nat.add_zero]
            repeat' (first | refine spB_i (fun _ => ?_) (fun _ => ?_) | refine andB_i ?_ ?_)
            all_goals (refine Ends.pureE rfl ?_; rw [hR']; clear hR' q1 q2 q3 q4 q5 q6 q7 q8 q9 q10 q11 p0 p1 p2 p3 p4 p5 p6 p7 p8 p9 p10 p11 p12 p13 z1 z2 z3 z4 d1 d2 d3 d4 hM hm5 f1 f2 h0; simp only [decide_eq_true_eq, decide_eq_false_iff_not, beq_iff_eq, beq_eq_false_iff_ne, bne_iff_ne, ne_eq, bne_eq_false_iff_eq] at *; simp [trendC, chR, normC, overC, underC, meanN, heldN, riseN, setR, Rt.l, *]; try omega)
        · simp (config := { maxSteps := 400000 }) only [go_sem, Rt.l, k35, k36, rtV, Rt.eta, h0, d1, d2, d3, d4, f1, f2, z1, z2, z3, z4, hd', q1, q2, q3, q4, q5, q6, q7, q8, q9, q10, q11, p0, p1, p2, p3, p4, p5, p6, p7, p8, p9, p10, p11, p12, p13, hM, hm5, ↓reduceIte, beq_self_eq_true, bne_self_eq_false, Int.reduceAdd, Int.reduceSub, Int.reduceMul, Int.reduceNeg, Int.reduceEq, Int.reduceNe, Int.cast_ofNat_Int, Int.lt_irrefl, Int.le_refl, Nat.reduceEqDiff, Nat.reduceLeDiff, Nat.reduceLT, Int.reducePow, IntKind.bits, Nat.reduceAdd, Nat.reduceMul, Nat.reduceSub, Int.reduceBNe, Int.reduceBEq, Int.reduceLE, Int.reduceLT, Int.reduceToNat, reduceCtorEq, Nat.zero_ne_one, Nat.one_ne_zero, and_self, and_true, true_and, Option.getD_some, Option.isSome_some, wrapL, gt_iff_lt, ge_iff_le, Int.toNat_natCast, Nat.sub_zero, ite_self, spB_TT, Nat.zero_add, Nat.add_zero]
          repeat' (first | refine spB_i (fun _ => ?_) (fun _ => ?_) | refine andB_i ?_ ?_)
          all_goals (refine Ends.pureE rfl ?_; rw [hR']; clear hR' q1 q2 q3 q4 q5 q6 q7 q8 q9 q10 q11 p0 p1 p2 p3 p4 p5 p6 p7 p8 p9 p10 p11 p12 p13 z1 z2 z3 z4 d1 d2 d3 d4 hM hm5 f1 f2 h0; simp only [decide_eq_true_eq, decide_eq_false_iff_not, beq_iff_eq, beq_eq_false_iff_ne, bne_iff_ne, ne_eq, bne_eq_false_iff_eq] at *; simp [trendC, chR, normC, overC, underC, meanN, heldN, riseN, setR, Rt.l, *]; try omega)
        · simp (config := { maxSteps := 400000 }) only [go_sem, Rt.l, k35, k36, rtV, Rt.eta, h0, d1, d2, d3, d4, f1, f2, z1, z2, z3, z4, hd', q1, q2, q3, q4, q5, q6, q7, q8, q9, q10, q11, p0, p1, p2, p3, p4, p5, p6, p7, p8, p9, p10, p11, p12, p13, hM, hm5, ↓reduceIte, beq_self_eq_true, bne_self_eq_false, Int.reduceAdd, Int.reduceSub, Int.reduceMul, Int.reduceNeg, Int.reduceEq, Int.reduceNe, Int.cast_ofNat_Int, Int.lt_irrefl, Int.le_refl, Nat.reduceEqDiff, Nat.reduceLeDiff, Nat.reduceLT, Int.reducePow, IntKind.bits, Nat.reduceAdd, Nat.reduceMul, Nat.reduceSub, Int.reduceBNe, Int.reduceBEq, Int.reduceLE, Int.reduceLT, Int.reduceToNat, reduceCtorEq, Nat.zero_ne_one, Nat.one_ne_zero, and_self, and_true, true_and, Option.getD_some, Option.isSome_some, wrapL, gt_iff_lt, ge_iff_le, Int.toNat_natCast, Nat.sub_zero, ite_self, spB_TT, Nat.zero_add, Nat.add_zero]
          repeat' (first | refine spB_i (fun _ => ?_) (fun _ => ?_) | refine andB_i ?_ ?_)
          all_goals (refine Ends.pureE rfl ?_; rw [hR']; clear hR' q1 q2 q3 q4 q5 q6 q7 q8 q9 q10 q11 p0 p1 p2 p3 p4 p5 p6 p7 p8 p9 p10 p11 p12 p13 z1 z2 z3 z4 d1 d2 d3 d4 hM hm5 f1 f2 h0; simp only [decide_eq_true_eq, decide_eq_false_iff_not, beq_iff_eq, beq_eq_false_iff_ne, bne_iff_ne, ne_eq, bne_eq_false_iff_eq] at *; simp [trendC, chR, normC, overC, underC, meanN, heldN, riseN, setR, Rt.l, *]; try omega)
      · have f1 : (r.mean != 0) = true := by simp [hm]
        have f2 : (r.mean == 0) = false := by simp [hm]
        by_cases hz : 11 * r.mean / 10 < arr
        · have hm0 : meanR r arr = 0 := by simp only [meanR, hm, hz, ne_eq, not_false_eq_true, true_and, if_true]
          have f3 : decide (11 * r.mean / 10 < arr) = true := decide_eq_true hz
          rw [hm0] at hR'
          clear hm0
          rcases ht with rfl | rfl | rfl
          · by_cases hp : r.phase = 0
            · have fp : (r.phase == 0) = true := by simp [hp]
              simp (config := { maxSteps := 400000 }) only [go_sem, Rt.l, k35, k36, rtV, Rt.eta, h0, d1, d2, d3, d4, fp, f1, f2, f3, z1, z2, z3, z4, hd', q1, q2, q3, q4, q5, q6, q7, q8, q9, q10, q11, p0, p1, p2, p3, p4, p5, p6, p7, p8, p9, p10, p11, p12, p13, hM, hm5, ↓reduceIte, beq_self_eq_true, bne_self_eq_false, Int.reduceAdd, Int.reduceSub, Int.reduceMul, Int.reduceNeg, Int.reduceEq, Int.reduceNe, Int.cast_ofNat_Int, Int.lt_irrefl, Int.le_refl, Nat.reduceEqDiff, Nat.reduceLeDiff, Nat.reduceLT, Int.reducePow, IntKind.bits, Nat.reduceAdd, Nat.reduceMul, Nat.reduceSub, Int.reduceBNe, Int.reduceBEq, Int.reduceLE, Int.reduceLT, Int.reduceToNat, reduceCtorEq, Nat.zero_ne_one, Nat.one_ne_zero, and_self, and_true, true_and, Option.getD_some, Option.isSome_some, wrapL, gt_iff_lt, ge_iff_le, Int.toNat_natCast, Nat.sub_zero, ite_self, spB_TT, Nat.zero_add, Nat.add_zero]
              repeat' (first | refine spB_i (fun _ => ?_) (fun _ => ?_) | refine andB_i ?_ ?_)
              all_goals (refine Ends.pureE rfl ?_; rw [hR']; clear hR' q1 q2 q3 q4 q5 q6 q7 q8 q9 q10 q11 p0 p1 p2 p3 p4 p5 p6 p7 p8 p9 p10 p11 p12 p13 z1 z2 z3 z4 d1 d2 d3 d4 hM hm5 f1 f2 f3 h0; simp only [decide_eq_true_eq, decide_eq_false_iff_not, beq_iff_eq, beq_eq_false_iff_ne, bne_iff_ne, ne_eq, bne_eq_false_iff_eq] at *; simp [trendC, chR, normC, overC, underC, meanN, heldN, riseN, setR, Rt.l, *]; try omega)
            · have fp : (r.phase == 0) = false := by simp [hp]
              simp (config := { maxSteps := 400000 }) only [go_sem, Rt.l, k35, k36, rtV, Rt.eta, h0, d1, d2, d3, d4, fp, f1, f2, f3, z1, z2, z3, z4, hd', q1, q2, q3, q4, q5, q6, q7, q8, q9, q10, q11, p0, p1, p2, p3, p4, p5, p6, p7, p8, p9, p10, p11, p12, p13, hM, hm5, ↓reduceIte, beq_self_eq_true, bne_self_eq_false, Int.reduceAdd, Int.reduceSub, Int.reduceMul, Int.reduceNeg, Int.reduceEq, Int.reduceNe, Int.cast_ofNat_Int, Int.lt_irrefl, Int.le_refl, Nat.reduceEqDiff, Nat.reduceLeDiff, Nat.reduceLT, Int.reducePow, IntKind.bits, Nat.reduceAdd, Nat.reduceMul, Nat.reduceSub, Int.reduceBNe, Int.reduceBEq, Int.reduceLE, Int.reduceLT, Int.reduceToNat, reduceCtorEq, Nat.zero_ne_one, Nat.one_ne_zero, and_self, and_true, true_and, Option.getD_some, Option.isSome_some, wrapL, gt_iff_lt, ge_iff_le, Int.toNat_natCast, Nat.sub_zero, ite_self, spB_TT, Nat.zero_add, Nat.add_zero]
              repeat' (first | refine spB_i (fun _ => ?_) (fun _ => ?_) | refine andB_i ?_ ?_)
              all_goals (refine Ends.pureE rfl ?_; rw [hR']; clear hR' q1 q2 q3 q4 q5 q6 q7 q8 q9 q10 q11 p0 p1 p2 p3 p4 p5 p6 p7 p8 p9 p10 p11 p12 p13 z1 z2 z3 z4 d1 d2 d3 d4 hM hm5 f1 f2 f3 h0; simp only [decide_eq_true_eq, decide_eq_false_iff_not, beq_iff_eq, beq_eq_false_iff_ne, bne_iff_ne, ne_eq, bne_eq_false_iff_eq] at *; simp [trendC, chR, normC, overC, underC, meanN, heldN, riseN, setR, Rt.l, *]; try omega)
          · simp (config := { maxSteps := 400000 }) only [go_sem, Rt.l, k35, k36, rtV, Rt.eta, h0, d1, d2, d3, d4, f1, f2, f3, z1, z2, z3, z4, hd', q1, q2, q3, q4, q5, q6, q7, q8, q9, q10, q11, p0, p1, p2, p3, p4, p5, p6, p7, p8, p9, p10, p11, p12, p13, hM, hm5, ↓reduceIte, beq_self_eq_true, bne_self_eq_false, Int.reduceAdd, Int.reduceSub, Int.reduceMul, Int.reduceNeg, Int.reduceEq, Int.reduceNe, Int.cast_ofNat_Int, Int.lt_irrefl, Int.le_refl, Nat.reduceEqDiff, Nat.reduceLeDiff, Nat.reduceLT, Int.reducePow, IntKind.bits, Nat.reduceAdd, Nat.reduceMul, Nat.reduceSub, Int.reduceBNe, Int.reduceBEq, Int.reduceLE, Int.reduceLT, Int.reduceToNat, reduceCtorEq, Nat.zero_ne_one, Nat.one_ne_zero, and_self, and_true, true_and, Option.getD_some, Option.isSome_some, wrapL, gt_iff_lt, ge_iff_le, Int.toNat_natCast, Nat.sub_zero, ite_self, spB_TT, Nat.zero_add, Nat.add_zero]
            repeat' (first | refine spB_i (fun _ => ?_) (fun _ => ?_) | refine andB_i ?_ ?_)
            all_goals (refine Ends.pureE rfl ?_; rw [hR']; clear hR' q1 q2 q3 q4 q5 q6 q7 q8 q9 q10 q11 p0 p1 p2 p3 p4 p5 p6 p7 p8 p9 p10 p11 p12 p13 z1 z2 z3 z4 d1 d2 d3 d4 hM hm5 f1 f2 f3 h0; simp only [decide_eq_true_eq, decide_eq_false_iff_not, beq_iff_eq, beq_eq_false_iff_ne, bne_iff_ne, ne_eq, bne_eq_false_iff_eq] at *; simp [trendC, chR, normC, overC, underC, meanN, heldN, riseN, setR, Rt.l, *]; try omega)
          · simp (config := { maxSteps := 400000 }) only [go_sem, Rt.l, k35, k36, rtV, Rt.eta, h0, d1, d2, d3, d4, f1, f2, f3, z1, z2, z3, z4, hd', q1, q2, q3, q4, q5, q6, q7, q8, q9, q10, q11, p0, p1, p2, p3, p4, p5, p6, p7, p8, p9, p10, p11, p12, p13, hM, hm5, ↓reduceIte, beq_self_eq_true, bne_self_eq_false, Int.reduceAdd, Int.reduceSub, Int.reduceMul, Int.reduceNeg, Int.reduceEq, Int.reduceNe, Int.cast_ofNat_Int, Int.lt_irrefl, Int.le_refl, Nat.reduceEqDiff, Nat.reduceLeDiff, Nat.reduceLT, Int.reducePow, IntKind.bits, Nat.reduceAdd, Nat.reduceMul, Nat.reduceSub, Int.reduceBNe, Int.reduceBEq, Int.reduceLE, Int.reduceLT, Int.reduceToNat, reduceCtorEq, Nat.zero_ne_one, Nat.one_ne_zero, and_self, and_true, true_and, Option.getD_some, Option.isSome_some, wrapL, gt_iff_lt, ge_iff_le, Int.toNat_natCast, Nat.sub_zero, ite_self, spB_TT, Nat.zero_add, Nat.add_zero]
            repeat' (first | refine spB_i (fun _ => ?_) (fun _ => ?_) | refine andB_i ?_ ?_)
            all_goals (refine Ends.pureE rfl ?_; rw [hR']; clear hR' q1 q2 q3 q4 q5 q6 q7 q8 q9 q10 q11 p0 p1 p2 p3 p4 p5 p6 p7 p8 p9 p10 p11 p12 p13 z1 z2 z3 z4 d1 d2 d3 d4 hM hm5 f1 f2 f3 h0; simp only [decide_eq_true_eq, decide_eq_false_iff_not, beq_iff_eq, beq_eq_false_iff_ne, bne_iff_ne, ne_eq, bne_eq_false_iff_eq] at *; simp [trendC, chR, normC, overC, underC, meanN, heldN, riseN, setR, Rt.l, *]; try omega)
        · have hm0 : meanR r arr = r.mean := by simp only [meanR, hm, hz, ne_eq, not_false_eq_true, true_and, if_false]
          have f3 : decide (11 * r.mean / 10 < arr) = false := decide_eq_false hz
          rw [hm0] at hR'
          clear hm0
          rcases ht with rfl | rfl | rfl
          · by_cases hp : r.phase = 0
            · have fp : (r.phase == 0) = true := by simp [hp]
              simp (config := { maxSteps := 400000 }) only [go_sem, Rt.l, k35, k36, rtV, Rt.eta, h0, d1, d2, d3, d4, fp, f1, f2, f3, z1, z2, z3, z4, hd', q1, q2, q3, q4, q5, q6, q7, q8, q9, q10, q11, p0, p1, p2, p3, p4, p5, p6, p7, p8, p9, p10, p11, p12, p13, hM, hm5, ↓reduceIte, beq_self_eq_true, bne_self_eq_false, Int.reduceAdd, Int.reduceSub, Int.reduceMul, Int.reduceNeg, Int.reduceEq, Int.reduceNe, Int.cast_ofNat_Int, Int.lt_irrefl, Int.le_refl, Nat.reduceEqDiff, Nat.reduceLeDiff, Nat.reduceLT, Int.reducePow, IntKind.bits, Nat.reduceAdd, Nat.reduceMul, Nat.reduceSub, Int.reduceBNe, Int.reduceBEq, Int.reduceLE, Int.reduceLT, Int.reduceToNat, reduceCtorEq, Nat.zero_ne_one, Nat.one_ne_zero, and_self, and_true, true_and, Option.getD_some, Option.isSome_some, wrapL, gt_iff_lt, ge_iff_le, Int.toNat_natCast, Nat.sub_zero, ite_self, spB_TT, Nat.zero_add, Nat.add_zero]
              repeat' (first | refine spB_i (fun _ => ?_) (fun _ => ?_) | refine andB_i ?_ ?_)
              all_goals (refine Ends.pureE rfl ?_; rw [hR']; clear hR' q1 q2 q3 q4 q5 q6 q7 q8 q9 q10 q11 p0 p1 p2 p3 p4 p5 p6 p7 p8 p9 p10 p11 p12 p13 z1 z2 z3 z4 d1 d2 d3 d4 hM hm5 f1 f2 f3 h0; simp only [decide_eq_true_eq, decide_eq_false_iff_not, beq_iff_eq, beq_eq_false_iff_ne, bne_iff_ne, ne_eq, bne_eq_false_iff_eq] at *; simp [trendC, chR, normC, overC, underC, meanN, heldN, riseN, setR, Rt.l, *]; try omega)
            · have fp : (r.phase == 0) = false := by simp [hp]
              simp (config := { maxSteps := 400000 }) only [go_sem, Rt.l, k35, k36, rtV, Rt.eta, h0, d1, d2, d3, d4, fp, f1, f2, f3, z1, z2, z3, z4, hd', q1, q2, q3, q4, q5, q6, q7, q8, q9, q10, q11, p0, p1, p2, p3, p4, p5, p6, p7, p8, p9, p10, p11, p12, p13, hM, hm5, ↓reduceIte, beq_self_eq_true, bne_self_eq_false, Int.reduceAdd, Int.reduceSub, Int.reduceMul, Int.reduceNeg, Int.reduceEq, Int.reduceNe, Int.cast_ofNat_Int, Int.lt_irrefl, Int.le_refl, Nat.reduceEqDiff, Nat.reduceLeDiff, Nat.reduceLT, Int.reducePow, IntKind.bits, Nat.reduceAdd, Nat.reduceMul, Nat.reduceSub, Int.reduceBNe, Int.reduceBEq, Int.reduceLE, Int.reduceLT, Int.reduceToNat, reduceCtorEq, Nat.zero_ne_one, Nat.one_ne_zero, and_self, and_true, true_and, Option.getD_some, Option.isSome_some, wrapL, gt_iff_lt, ge_iff_le, Int.toNat_natCast, Nat.sub_zero, ite_self, spB_TT, Nat.zero_add, Nat.add_zero]
              repeat' (first | refine spB_i (fun _ => ?_) (fun _ => ?_) | refine andB_i ?_ ?_)
              all_goals (refine Ends.pureE rfl ?_; rw [hR']; clear hR' q1 q2 q3 q4 q5 q6 q7 q8 q9 q10 q11 p0 p1 p2 p3 p4 p5 p6 p7 p8 p9 p10 p11 p12 p13 z1 z2 z3 z4 d1 d2 d3 d4 hM hm5 f1 f2 f3 h0; simp only [decide_eq_true_eq, decide_eq_false_iff_not, beq_iff_eq, beq_eq_false_iff_ne, bne_iff_ne, ne_eq, bne_eq_false_iff_eq] at *; simp [trendC, chR, normC, overC, underC, meanN, heldN, riseN, setR, Rt.l, *]; try omega)
          · simp (config := { maxSteps := 400000 }) only [go_sem, Rt.l, k35, k36, rtV, Rt.eta, h0, d1, d2, d3, d4, f1, f2, f3, z1, z2, z3, z4, hd', q1, q2, q3, q4, q5, q6, q7, q8, q9, q10, q11, p0, p1, p2, p3, p4, p5, p6, p7, p8, p9, p10, p11, p12, p13, hM, hm5, ↓reduceIte, beq_self_eq_true, bne_self_eq_false, Int.reduceAdd, Int.reduceSub, Int.reduceMul, Int.reduceNeg, Int.reduceEq, Int.reduceNe, Int.cast_ofNat_Int, Int.lt_irrefl, Int.le_refl, Nat.reduceEqDiff, Nat.reduceLeDiff, Nat.reduceLT, Int.reducePow, IntKind.bits, Nat.reduceAdd, Nat.reduceMul, Nat.reduceSub, Int.reduceBNe, Int.reduceBEq, Int.reduceLE, Int.reduceLT, Int.reduceToNat, reduceCtorEq, Nat.zero_ne_one, Nat.one_ne_zero, and_self, and_true, true_and, Option.getD_some, Option.isSome_some, wrapL, gt_iff_lt, ge_iff_le, Int.toNat_natCast, Nat.sub_zero, ite_self, spB_TT, Nat.zero_add, Nat.add_zero]
            repeat' (first | refine spB_i (fun _ => ?_) (fun _ => ?_) | refine andB_i ?_ ?_)
            all_goals (refine Ends.pureE rfl ?_; rw [hR']; clear hR' q1 q2 q3 q4 q5 q6 q7 q8 q9 q10 q11 p0 p1 p2 p3 p4 p5 p6 p7 p8 p9 p10 p11 p12 p13 z1 z2 z3 z4 d1 d2 d3 d4 hM hm5 f1 f2 f3 h0; simp only [decide_eq_true_eq, decide_eq_false_iff_not, beq_iff_eq, beq_eq_false_iff_ne, bne_iff_ne, ne_eq, bne_eq_false_iff_eq] at *; simp [trendC, chR, normC, overC, underC, meanN, heldN, riseN, setR, Rt.l, *]; try omega)
          · simp (config := { maxSteps := 400000 }) only [go_sem, Rt.l, k35, k36, rtV, Rt.eta, h0, d1, d2, d3, d4, f1, f2, f3, z1, z2, z3, z4, hd', q1, q2, q3, q4, q5, q6, q7, q8, q9, q10, q11, p0, p1, p2, p3, p4, p5, p6, p7, p8, p9, p10, p11, p12, p13, hM, hm5, ↓reduceIte, beq_self_eq_true, bne_self_eq_false, Int.reduceAdd, Int.reduceSub, Int.reduceMul, Int.reduceNeg, Int.reduceEq, Int.reduceNe, Int.cast_ofNat_Int, Int.lt_irrefl, Int.le_refl, Nat.reduceEqDiff, Nat.reduceLeDiff, Nat.reduceLT, Int.reducePow, IntKind.bits, Nat.reduceAdd, Nat.reduceMul, Nat.reduceSub, Int.reduceBNe, Int.reduceBEq, Int.reduceLE, Int.reduceLT, Int.reduceToNat, reduceCtorEq, Nat.zero_ne_one, Nat.one_ne_zero, and_self, and_true, true_and, Option.getD_some, Option.isSome_some, wrapL, gt_iff_lt, ge_iff_le, Int.toNat_natCast, Nat.sub_zero, ite_self, spB_TT, Nat.zero_add, Nat.add_zero]
            repeat' (first | refine spB_i (fun _ => ?_) (fun _ => ?_) | refine andB_i ?_ ?_)
            all_goals (refine Ends.pureE rfl ?_; rw [hR']; clear hR' q1 q2 q3 q4 q5 q6 q7 q8 q9 q10 q11 p0 p1 p2 p3 p4 p5 p6 p7 p8 p9 p10 p11 p12 p13 z1 z2 z3 z4 d1 d2 d3 d4 hM hm5 f1 f2 f3 h0; simp only [decide_eq_true_eq, decide_eq_false_iff_not, beq_iff_eq, beq_eq_false_iff_ne, bne_iff_ne, ne_eq, bne_eq_false_iff_eq] at *; simp [trendC, chR, normC, overC, underC, meanN, heldN, riseN, setR, Rt.l, *]; try omega)
  · generalize hR : reportS r now t arr = R
    have he : (lateE r now != 0) = true := by simp [h0]
    have hR' : R = (zRt, lateE r now) := by rw [← hR]; simp [reportS, h0]
    simp (config := { maxSteps := 400000 }) only [go_sem, Rt.l, k35, k36, rtV, Rt.eta, he, ↓reduceIte, beq_self_eq_true, bne_self_eq_false, Int.reduceAdd, Int.reduceSub, Int.reduceMul, Int.reduceNeg, Int.reduceEq, Int.reduceNe, Int.cast_ofNat_Int, Int.lt_irrefl, Int.le_refl, Nat.reduceEqDiff, Nat.reduceLeDiff, Nat.reduceLT, Int.reducePow, IntKind.bits, Nat.reduceAdd, Nat.reduceMul, Nat.reduceSub, Int.reduceBNe, Int.reduceBEq, Int.reduceLE, Int.reduceLT, Int.reduceToNat, reduceCtorEq, Nat.zero_ne_one, Nat.one_ne_zero, and_self, and_true, true_and, Option.getD_some, Option.isSome_some, wrapL, gt_iff_lt, ge_iff_le, Int.toNat_natCast, Nat.sub_zero, ite_self, spB_TT, Nat.zero_add, Nat.add_zero]
    refine Ends.pureE rfl ?_; rw [hR']; rfl
end Go.Proofs.Rate
