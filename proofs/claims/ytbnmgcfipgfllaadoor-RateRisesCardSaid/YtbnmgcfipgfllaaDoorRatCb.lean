/- Texts laid as one: RatC4 RatC5. -/
import Derived.Test.YtbnmgcfipgfllaaDoorRatCa
section
/- Contracts of chapter 30: Lossy. -/
namespace Go.Proofs.Rate
open Go.Ab
set_option maxRecDepth 100000
set_option maxHeartbeats 4000000
set_option linter.unusedSimpArgs false
set_option linter.unusedVariables false

def lossyS (r : Rt) (now f : Int) : Rt × Int :=
  if lateE r now ≠ 0 then (zRt, lateE r now)
  else if f < 0 ∨ 255 < f then (zRt, 2)
  else if 26 ≤ f ∧ (r.low = 0 ∨ 300 ≤ now - r.low) then ({ setR r (r.now * (512 - f) / 512) with low := now, phase := 0, att := now }, 0)
  else if f ≤ 5 ∧ (r.rai = 0 ∨ 1000 ≤ now - r.rai) then ({ setR r (r.now + r.now / 20) with rai := now, att := now }, 0)
  else ({ r with att := now }, 0)
theorem w21 (r : Rt) (now f : Int) : FTL Tryd.prog 21 [.agg r.l, .i .i64 now, .i .i64 f] [] 0 (.tup [.agg (lossyS r now f).1.l, .i .i64 (lossyS r now f).2]) [] 0 := by
  refine FTL.of_iw hT9 mo' Tryd.func21 i21_eq (by simp [i21]) (iw_of_jw ?_)
  dsimp only [i21, T9]
  by_cases h0 : lateE r now = 0
  · obtain ⟨hg, hn1, hn2⟩ := late_ok h0
    obtain ⟨g1, g2, g3, g4, g5, g6, g7, g8, g9, g10⟩ := good_iff hg
    generalize hR : lossyS r now f = R
    have hd : decide (lateE r now = 0) = true := decide_eq_true h0
    by_cases hf : f < 0 ∨ 255 < f
    · have hf' : [f].all (inI 0 255) = false := by simp [inI]; omega
      have hR2 : R = (zRt, 2) := by rw [← hR]; simp [lossyS, h0, hf]
      simp (config := { maxSteps := 400000 }) only [go_sem, Rt.l, Ch.l, startC, k33, k34, kWi, rtV, chV, Rt.eta, Ch.eta, hd, iteD_t, intsB, unrows, intV, hf', ↓reduceIte, beq_self_eq_true, bne_self_eq_false, Int.reduceAdd, Int.reduceSub, Int.reduceMul, Int.reduceNeg, Int.reduceEq, Int.reduceNe, Int.cast_ofNat_Int, Int.lt_irrefl, Int.le_refl, Nat.reduceEqDiff, Nat.reduceLeDiff, Nat.reduceLT, Int.reducePow, IntKind.bits, Nat.reduceAdd, Nat.reduceMul, Nat.reduceSub, Int.reduceBNe, Int.reduceBEq, Int.reduceLE, Int.reduceLT, Int.reduceToNat, reduceCtorEq, Nat.zero_ne_one, Nat.one_ne_zero, and_self, and_true, true_and, Option.getD_some, Option.isSome_some, wrapL, gt_iff_lt, ge_iff_le, Int.toNat_natCast, Nat.sub_zero, ite_self, spB_TT, Nat.zero_add, Nat.add_zero]
      refine Ends.pureE rfl ?_; rw [hR2]; rfl
    · have hf' : [f].all (inI 0 255) = true := by simp [inI]; omega
      have q1 : IntKind.i64.wrap (512 - f) = 512 - f := wrapL (by omega) (by omega)
      have b1 : 0 ≤ r.now * (512 - f) := Int.mul_nonneg (by omega) (by omega)
      have b2 : r.now * (512 - f) ≤ 100000000 * 512 := Int.mul_le_mul g2.2 (by omega) (by omega) (by omega)
      have q2 : IntKind.i64.wrap (r.now * (512 - f)) = r.now * (512 - f) := wrapL (by omega) (by omega)
      have q3 : (r.now * (512 - f)).tdiv 512 = r.now * (512 - f) / 512 := Int.tdiv_eq_ediv_of_nonneg b1
      have q4 : IntKind.i64.wrap (r.now * (512 - f) / 512) = r.now * (512 - f) / 512 := wrapL (by omega) (by omega)
      have q5 : IntKind.i64.wrap (now - r.low) = now - r.low := wrapL (by omega) (by omega)
      have q6 : IntKind.i64.wrap (now - r.rai) = now - r.rai := wrapL (by omega) (by omega)
      have q7 : r.now.tdiv 20 = r.now / 20 := Int.tdiv_eq_ediv_of_nonneg (by omega)
      have q8 : IntKind.i64.wrap (r.now / 20) = r.now / 20 := wrapL (by omega) (by omega)
      have q9 : IntKind.i64.wrap (r.now + r.now / 20) = r.now + r.now / 20 := wrapL (by omega) (by omega)
      simp (config := { maxSteps := 400000 }) only [go_sem, Rt.l, Ch.l, startC, k33, k34, kWi, rtV, chV, Rt.eta, Ch.eta, hd, iteD_t, intsB, unrows, intV, hf', q1, q2, q3, q4, q5, q6, q7, q8, q9, ↓reduceIte, beq_self_eq_true, bne_self_eq_false, Int.reduceAdd, Int.reduceSub, Int.reduceMul, Int.reduceNeg, Int.reduceEq, Int.reduceNe, Int.cast_ofNat_Int, Int.lt_irrefl, Int.le_refl, Nat.reduceEqDiff, Nat.reduceLeDiff, Nat.reduceLT, Int.reducePow, IntKind.bits, Nat.reduceAdd, Nat.reduceMul, Nat.reduceSub, Int.reduceBNe, Int.reduceBEq, Int.reduceLE, Int.reduceLT, Int.reduceToNat, reduceCtorEq, Nat.zero_ne_one, Nat.one_ne_zero, and_self, and_true, true_and, Option.getD_some, Option.isSome_some, wrapL, gt_iff_lt, ge_iff_le, Int.toNat_natCast, Nat.sub_zero, ite_self, spB_TT, Nat.zero_add, Nat.add_zero]
      repeat' (first | refine spB_i (fun _ => ?_) (fun _ => ?_) | refine andB_i ?_ ?_)
      all_goals (refine Ends.pureE rfl ?_; rw [← hR]; clear hR q1 q2 q3 q4 q5 q6 q7 q8 q9 b1 b2 hd hf'; simp only [decide_eq_true_eq, decide_eq_false_iff_not, beq_iff_eq, beq_eq_false_iff_ne] at *)
      all_goals (simp only [lossyS, setR, Rt.l, h0, hf, ne_eq, not_true_eq_false, if_false])
      all_goals (split <;> first | rfl | omega | (split <;> first | rfl | omega))
  · generalize hR : lossyS r now f = R
    have hd : decide (lateE r now = 0) = false := decide_eq_false h0
    have hR' : R = (zRt, lateE r now) := by rw [← hR]; simp [lossyS, h0]
    have he : (lateE r now != 0) = true := by simp [h0]
    simp (config := { maxSteps := 400000 }) only [go_sem, Rt.l, Ch.l, startC, k33, k34, kWi, rtV, chV, Rt.eta, Ch.eta, hd, iteD_f, he, intsB, unrows, intV, ↓reduceIte, beq_self_eq_true, bne_self_eq_false, Int.reduceAdd, Int.reduceSub, Int.reduceMul, Int.reduceNeg, Int.reduceEq, Int.reduceNe, Int.cast_ofNat_Int, Int.lt_irrefl, Int.le_refl, Nat.reduceEqDiff, Nat.reduceLeDiff, Nat.reduceLT, Int.reducePow, IntKind.bits, Nat.reduceAdd, Nat.reduceMul, Nat.reduceSub, Int.reduceBNe, Int.reduceBEq, Int.reduceLE, Int.reduceLT, Int.reduceToNat, reduceCtorEq, Nat.zero_ne_one, Nat.one_ne_zero, and_self, and_true, true_and, Option.getD_some, Option.isSome_some, wrapL, gt_iff_lt, ge_iff_le, Int.toNat_natCast, Nat.sub_zero, ite_self, spB_TT, Nat.zero_add, Nat.add_zero]
    refine Ends.pureE rfl ?_; rw [hR']; rfl
def errS (r : Rt) (now : Int) : Rt × Int := (zRt, lateE r now)
theorem w22 (r : Rt) (now f : Int) : FTL Tryd.prog 22 [.agg r.l, .i .i64 now, .i .i64 f] [] 0 (.tup [.agg (lossyS r now f).1.l, .i .i64 (lossyS r now f).2]) [] 0 := by
  refine FTL.of_iw hT10 mo' Tryd.func22 i22_eq (by simp [i22]) (iw_of_jw ?_)
  dsimp only [i22, T10]
  by_cases h0 : lateE r now = 0
  · obtain ⟨hg, hn1, hn2⟩ := late_ok h0
    obtain ⟨g1, g2, g3, g4, g5, g6, g7, g8, g9, g10⟩ := good_iff hg
    generalize hR : lossyS r now f = R
    by_cases hf : f < 0 ∨ 255 < f
    · have hR2 : R = (zRt, 2) := by rw [← hR]; simp [lossyS, h0, hf]
      have hb : (decide (f < 0) || decide (255 < f)) = true := by simp; omega
      simp (config := { maxSteps := 400000 }) only [go_sem, Rt.l, k35, k36, rtV, Rt.eta, h0, ↓reduceIte, beq_self_eq_true, bne_self_eq_false, Int.reduceAdd, Int.reduceSub, Int.reduceMul, Int.reduceNeg, Int.reduceEq, Int.reduceNe, Int.cast_ofNat_Int, Int.lt_irrefl, Int.le_refl, Nat.reduceEqDiff, Nat.reduceLeDiff, Nat.reduceLT, Int.reducePow, IntKind.bits, Nat.reduceAdd, Nat.reduceMul, Nat.reduceSub, Int.reduceBNe, Int.reduceBEq, Int.reduceLE, Int.reduceLT, Int.reduceToNat, reduceCtorEq, Nat.zero_ne_one, Nat.one_ne_zero, and_self, and_true, true_and, Option.getD_some, Option.isSome_some, wrapL, gt_iff_lt, ge_iff_le, Int.toNat_natCast, Nat.sub_zero, ite_self, spB_TT, Nat.zero_add, Nat.add_zero]
      repeat' (first | refine spB_i (fun _ => ?_) (fun _ => ?_) | refine andB_i ?_ ?_)
      all_goals first
        | (refine Ends.pureE rfl ?_; rw [hR2]; rfl)
        | (exfalso; simp at *; omega)
    · have c1 : decide (f < 0) = false := decide_eq_false (by omega)
      have c2 : decide (255 < f) = false := decide_eq_false (by omega)
      have q1 : IntKind.i64.wrap (512 - f) = 512 - f := wrapL (by omega) (by omega)
      have b1 : 0 ≤ r.now * (512 - f) := Int.mul_nonneg (by omega) (by omega)
      have b2 : r.now * (512 - f) ≤ 100000000 * 512 := Int.mul_le_mul g2.2 (by omega) (by omega) (by omega)
      have q2 : IntKind.i64.wrap (r.now * (512 - f)) = r.now * (512 - f) := wrapL (by omega) (by omega)
      have q3 : (r.now * (512 - f)).tdiv 512 = r.now * (512 - f) / 512 := Int.tdiv_eq_ediv_of_nonneg b1
      have q4 : IntKind.i64.wrap (r.now * (512 - f) / 512) = r.now * (512 - f) / 512 := wrapL (by omega) (by omega)
      have q5 : IntKind.i64.wrap (now - r.low) = now - r.low := wrapL (by omega) (by omega)
      have q6 : IntKind.i64.wrap (now - r.rai) = now - r.rai := wrapL (by omega) (by omega)
      have q7 : r.now.tdiv 20 = r.now / 20 := Int.tdiv_eq_ediv_of_nonneg (by omega)
      have q8 : IntKind.i64.wrap (r.now / 20) = r.now / 20 := wrapL (by omega) (by omega)
      have q9 : IntKind.i64.wrap (r.now + r.now / 20) = r.now + r.now / 20 := wrapL (by omega) (by omega)
      have hM : ∀ x : Int, min (max x r.least) r.most = max r.least (min x r.most) := fun x => by omega
      by_cases hz : 26 ≤ f
      · have d1 : decide (26 ≤ f) = true := decide_eq_true hz
        have d2 : decide (f ≤ 5) = false := decide_eq_false (by omega)
        simp (config := { maxSteps := 400000 }) only [go_sem, Rt.l, k35, k36, rtV, Rt.eta, h0, c1, c2, q1, q2, q3, q4, q5, d1, d2, hM, ↓reduceIte, beq_self_eq_true, bne_self_eq_false, Int.reduceAdd, Int.reduceSub, Int.reduceMul, Int.reduceNeg, Int.reduceEq, Int.reduceNe, Int.cast_ofNat_Int, Int.lt_irrefl, Int.le_refl, Nat.reduceEqDiff, Nat.reduceLeDiff, Nat.reduceLT, Int.reducePow, IntKind.bits, Nat.reduceAdd, Nat.reduceMul, Nat.reduceSub, Int.reduceBNe, Int.reduceBEq, Int.reduceLE, Int.reduceLT, Int.reduceToNat, reduceCtorEq, Nat.zero_ne_one, Nat.one_ne_zero, and_self, and_true, true_and, Option.getD_some, Option.isSome_some, wrapL, gt_iff_lt, ge_iff_le, Int.toNat_natCast, Nat.sub_zero, ite_self, spB_TT, Nat.zero_add, Nat.add_zero]
        repeat' (first | refine spB_i (fun _ => ?_) (fun _ => ?_) | refine andB_i ?_ ?_)
        all_goals (refine Ends.pureE rfl ?_; rw [← hR]; clear hR q1 q2 q3 q4 q5 q6 q7 q8 q9 b1 b2 d1 d2 hM; simp only [decide_eq_true_eq, decide_eq_false_iff_not, beq_iff_eq, beq_eq_false_iff_ne] at *)
        all_goals (simp only [lossyS, setR, Rt.l, h0, hf, ne_eq, not_true_eq_false, if_false])
        all_goals (split <;> first | rfl | omega | (split <;> first | rfl | omega))
      · have d1 : decide (26 ≤ f) = false := decide_eq_false hz
        simp (config := { maxSteps := 400000 }) only [go_sem, Rt.l, k35, k36, rtV, Rt.eta, h0, c1, c2, q1, q2, q3, q4, q5, q6, q7, q8, q9, d1, hM, ↓reduceIte, beq_self_eq_true, bne_self_eq_false, Int.reduceAdd, Int.reduceSub, Int.reduceMul, Int.reduceNeg, Int.reduceEq, Int.reduceNe, Int.cast_ofNat_Int, Int.lt_irrefl, Int.le_refl, Nat.reduceEqDiff, Nat.reduceLeDiff, Nat.reduceLT, Int.reducePow, IntKind.bits, Nat.reduceAdd, Nat.reduceMul, Nat.reduceSub, Int.reduceBNe, Int.reduceBEq, Int.reduceLE, Int.reduceLT, Int.reduceToNat, reduceCtorEq, Nat.zero_ne_one, Nat.one_ne_zero, and_self, and_true, true_and, Option.getD_some, Option.isSome_some, wrapL, gt_iff_lt, ge_iff_le, Int.toNat_natCast, Nat.sub_zero, ite_self, spB_TT, Nat.zero_add, Nat.add_zero]
        repeat' (first | refine spB_i (fun _ => ?_) (fun _ => ?_) | refine andB_i ?_ ?_)
        all_goals (refine Ends.pureE rfl ?_; rw [← hR]; clear hR q1 q2 q3 q4 q5 q6 q7 q8 q9 b1 b2 d1 hM; simp only [decide_eq_true_eq, decide_eq_false_iff_not, beq_iff_eq, beq_eq_false_iff_ne] at *)
        all_goals (simp only [lossyS, setR, Rt.l, h0, hf, ne_eq, not_true_eq_false, if_false])
        all_goals (split <;> first | rfl | omega | (split <;> first | rfl | omega))
  · generalize hR : lossyS r now f = R
    have he : (lateE r now != 0) = true := by simp [h0]
    have hR' : R = (zRt, lateE r now) := by rw [← hR]; simp [lossyS, h0]
    simp (config := { maxSteps := 400000 }) only [go_sem, Rt.l, k35, k36, rtV, Rt.eta, he, ↓reduceIte, beq_self_eq_true, bne_self_eq_false, Int.reduceAdd, Int.reduceSub, Int.reduceMul, Int.reduceNeg, Int.reduceEq, Int.reduceNe, Int.cast_ofNat_Int, Int.lt_irrefl, Int.le_refl, Nat.reduceEqDiff, Nat.reduceLeDiff, Nat.reduceLT, Int.reducePow, IntKind.bits, Nat.reduceAdd, Nat.reduceMul, Nat.reduceSub, Int.reduceBNe, Int.reduceBEq, Int.reduceLE, Int.reduceLT, Int.reduceToNat, reduceCtorEq, Nat.zero_ne_one, Nat.one_ne_zero, and_self, and_true, true_and, Option.getD_some, Option.isSome_some, wrapL, gt_iff_lt, ge_iff_le, Int.toNat_natCast, Nat.sub_zero, ite_self, spB_TT, Nat.zero_add, Nat.add_zero]
    refine Ends.pureE rfl ?_; rw [hR']; rfl
end Go.Proofs.Rate
end
section
/- Contracts of chapter 30: Probe. -/
namespace Go.Proofs.Rate
open Go.Ab
set_option maxRecDepth 100000
set_option maxHeartbeats 4000000
set_option linter.unusedSimpArgs false
set_option linter.unusedVariables false

def probeN (s g : Int) : Int := if 10 * g < 9 * s then 95 * g / 100 else min s g
def probeS (r : Rt) (now s g : Int) : Rt × Int :=
  if lateE r now ≠ 0 then (zRt, lateE r now)
  else if (isRate s && isRate g) = false then (zRt, 2)
  else if probeN s g ≤ r.now then ({ r with att := now }, 0)
  else ({ setR r (probeN s g) with phase := 1, mean := if r.mean < probeN s g then 0 else r.mean, att := now }, 0)
theorem rates1 (x : Int) : ratesS [x] = isRate x := by simp [ratesS, sortedS, inI, isRate]
theorem w23 (r : Rt) (now s g : Int) : FTL Tryd.prog 23 [.agg r.l, .i .i64 now, .i .i64 s, .i .i64 g] [] 0 (.tup [.agg (probeS r now s g).1.l, .i .i64 (probeS r now s g).2]) [] 0 := by
  refine FTL.of_iw hT9 mo' Tryd.func23 i23_eq (by simp [i23]) (iw_of_jw ?_)
  dsimp only [i23, T9]
  by_cases h0 : lateE r now = 0
  · obtain ⟨hg, hn1, hn2⟩ := late_ok h0
    obtain ⟨g1, g2, g3, g4, g5, g6, g7, g8, g9, g10⟩ := good_iff hg
    generalize hR : probeS r now s g = R
    have hd : decide (lateE r now = 0) = true := decide_eq_true h0
    cases e1 : isRate s
    · have hR2 : R = (zRt, 2) := by rw [← hR]; simp [probeS, h0, e1]
      simp (config := { maxSteps := 400000 }) only [go_sem, Rt.l, Ch.l, startC, k33, k34, k30, rtV, chV, Rt.eta, Ch.eta, hd, iteD_t, intsB, unrows, intV, few, rates1, e1, ↓reduceIte, beq_self_eq_true, bne_self_eq_false, Int.reduceAdd, Int.reduceSub, Int.reduceMul, Int.reduceNeg, Int.reduceEq, Int.reduceNe, Int.cast_ofNat_Int, Int.lt_irrefl, Int.le_refl, Nat.reduceEqDiff, Nat.reduceLeDiff, Nat.reduceLT, Int.reducePow, IntKind.bits, Nat.reduceAdd, Nat.reduceMul, Nat.reduceSub, Int.reduceBNe, Int.reduceBEq, Int.reduceLE, Int.reduceLT, Int.reduceToNat, reduceCtorEq, Nat.zero_ne_one, Nat.one_ne_zero, and_self, and_true, true_and, Option.getD_some, Option.isSome_some, wrapL, gt_iff_lt, ge_iff_le, Int.toNat_natCast, Nat.sub_zero, ite_self, spB_TT, Nat.zero_add, Nat.add_zero]
      refine Ends.pureE rfl ?_; rw [hR2]; rfl
    · cases e2 : isRate g
      · have hR2 : R = (zRt, 2) := by rw [← hR]; simp [probeS, h0, e1, e2]
        simp (config := { maxSteps := 400000 }) only [go_sem, Rt.l, Ch.l, startC, k33, k34, k30, rtV, chV, Rt.eta, Ch.eta, hd, iteD_t, intsB, unrows, intV, few, rates1, e1, e2, ↓reduceIte, beq_self_eq_true, bne_self_eq_false, Int.reduceAdd, Int.reduceSub, Int.reduceMul, Int.reduceNeg, Int.reduceEq, Int.reduceNe, Int.cast_ofNat_Int, Int.lt_irrefl, Int.le_refl, Nat.reduceEqDiff, Nat.reduceLeDiff, Nat.reduceLT, Int.reducePow, IntKind.bits, Nat.reduceAdd, Nat.reduceMul, Nat.reduceSub, Int.reduceBNe, Int.reduceBEq, Int.reduceLE, Int.reduceLT, Int.reduceToNat, reduceCtorEq, Nat.zero_ne_one, Nat.one_ne_zero, and_self, and_true, true_and, Option.getD_some, Option.isSome_some, wrapL, gt_iff_lt, ge_iff_le, Int.toNat_natCast, Nat.sub_zero, ite_self, spB_TT, Nat.zero_add, Nat.add_zero]
        refine Ends.pureE rfl ?_; rw [hR2]; rfl
      · have f1 := e1
        have f2 := e2
        simp only [isRate, Bool.and_eq_true, decide_eq_true_eq] at f1 f2
        have q1 : IntKind.i64.wrap (10 * g) = 10 * g := wrapL (by omega) (by omega)
        have q2 : IntKind.i64.wrap (9 * s) = 9 * s := wrapL (by omega) (by omega)
        have q3 : IntKind.i64.wrap (95 * g) = 95 * g := wrapL (by omega) (by omega)
        have q4 : (95 * g).tdiv 100 = 95 * g / 100 := Int.tdiv_eq_ediv_of_nonneg (by omega)
        have q5 : IntKind.i64.wrap (95 * g / 100) = 95 * g / 100 := wrapL (by omega) (by omega)
        by_cases hz : 10 * g < 9 * s
        · have d1 : decide (10 * g < 9 * s) = true := decide_eq_true hz
          have hq : probeN s g = 95 * g / 100 := by simp [probeN, hz]
          simp (config := { maxSteps := 400000 }) only [go_sem, Rt.l, Ch.l, startC, k33, k34, k30, rtV, chV, Rt.eta, Ch.eta, hd, iteD_t, intsB, unrows, intV, few, rates1, e1, e2, q1, q2, q3, q4, q5, d1, ↓reduceIte, beq_self_eq_true, bne_self_eq_false, Int.reduceAdd, Int.reduceSub, Int.reduceMul, Int.reduceNeg, Int.reduceEq, Int.reduceNe, Int.cast_ofNat_Int, Int.lt_irrefl, Int.le_refl, Nat.reduceEqDiff, Nat.reduceLeDiff, Nat.reduceLT, Int.reducePow, IntKind.bits, Nat.reduceAdd, Nat.reduceMul, Nat.reduceSub, Int.reduceBNe, Int.reduceBEq, Int.reduceLE, Int.reduceLT, Int.reduceToNat, reduceCtorEq, Nat.zero_ne_one, Nat.one_ne_zero, and_self, and_true, true_and, Option.getD_some, Option.isSome_some, wrapL, gt_iff_lt, ge_iff_le, Int.toNat_natCast, Nat.sub_zero, ite_self, spB_TT, Nat.zero_add, Nat.add_zero]
          repeat' (first | refine spB_i (fun _ => ?_) (fun _ => ?_) | refine andB_i ?_ ?_)
          all_goals (refine Ends.pureE rfl ?_; rw [← hR]; clear hR q1 q2 q3 q4 q5 d1 hd; simp only [setR, decide_eq_true_eq, decide_eq_false_iff_not, beq_iff_eq, beq_eq_false_iff_ne] at *)
          all_goals (simp only [probeS, setR, Rt.l, h0, e1, e2, hq, *, ne_eq, not_true_eq_false, if_false, if_true, Bool.and_self, Bool.true_eq_false, ↓reduceIte]; try rfl)
          all_goals grind
        · have d1 : decide (10 * g < 9 * s) = false := decide_eq_false hz
          have hq : probeN s g = min s g := by simp [probeN, hz]
          simp (config := { maxSteps := 400000 }) only [go_sem, Rt.l, Ch.l, startC, k33, k34, k30, rtV, chV, Rt.eta, Ch.eta, hd, iteD_t, intsB, unrows, intV, few, rates1, e1, e2, q1, q2, q3, q4, q5, d1, ↓reduceIte, beq_self_eq_true, bne_self_eq_false, Int.reduceAdd, Int.reduceSub, Int.reduceMul, Int.reduceNeg, Int.reduceEq, Int.reduceNe, Int.cast_ofNat_Int, Int.lt_irrefl, Int.le_refl, Nat.reduceEqDiff, Nat.reduceLeDiff, Nat.reduceLT, Int.reducePow, IntKind.bits, Nat.reduceAdd, Nat.reduceMul, Nat.reduceSub, Int.reduceBNe, Int.reduceBEq, Int.reduceLE, Int.reduceLT, Int.reduceToNat, reduceCtorEq, Nat.zero_ne_one, Nat.one_ne_zero, and_self, and_true, true_and, Option.getD_some, Option.isSome_some, wrapL, gt_iff_lt, ge_iff_le, Int.toNat_natCast, Nat.sub_zero, ite_self, spB_TT, Nat.zero_add, Nat.add_zero]
          repeat' (first | refine spB_i (fun _ => ?_) (fun _ => ?_) | refine andB_i ?_ ?_)
          all_goals (refine Ends.pureE rfl ?_; rw [← hR]; clear hR q1 q2 q3 q4 q5 d1 hd; simp only [setR, decide_eq_true_eq, decide_eq_false_iff_not, beq_iff_eq, beq_eq_false_iff_ne] at *)
          all_goals (simp only [probeS, setR, Rt.l, h0, e1, e2, hq, *, ne_eq, not_true_eq_false, if_false, if_true, Bool.and_self, Bool.true_eq_false, ↓reduceIte]; try rfl)
          all_goals grind
  · generalize hR : probeS r now s g = R
    have hd : decide (lateE r now = 0) = false := decide_eq_false h0
    have he : (lateE r now != 0) = true := by simp [h0]
    have hR' : R = (zRt, lateE r now) := by rw [← hR]; simp [probeS, h0]
    simp (config := { maxSteps := 400000 }) only [go_sem, Rt.l, Ch.l, startC, k33, k34, k30, rtV, chV, Rt.eta, Ch.eta, hd, iteD_f, he, intsB, unrows, intV, ↓reduceIte, beq_self_eq_true, bne_self_eq_false, Int.reduceAdd, Int.reduceSub, Int.reduceMul, Int.reduceNeg, Int.reduceEq, Int.reduceNe, Int.cast_ofNat_Int, Int.lt_irrefl, Int.le_refl, Nat.reduceEqDiff, Nat.reduceLeDiff, Nat.reduceLT, Int.reducePow, IntKind.bits, Nat.reduceAdd, Nat.reduceMul, Nat.reduceSub, Int.reduceBNe, Int.reduceBEq, Int.reduceLE, Int.reduceLT, Int.reduceToNat, reduceCtorEq, Nat.zero_ne_one, Nat.one_ne_zero, and_self, and_true, true_and, Option.getD_some, Option.isSome_some, wrapL, gt_iff_lt, ge_iff_le, Int.toNat_natCast, Nat.sub_zero, ite_self, spB_TT, Nat.zero_add, Nat.add_zero]
    refine Ends.pureE rfl ?_; rw [hR']; rfl
theorem w24 (r : Rt) (now s g : Int) : FTL Tryd.prog 24 [.agg r.l, .i .i64 now, .i .i64 s, .i .i64 g] [] 0 (.tup [.agg (probeS r now s g).1.l, .i .i64 (probeS r now s g).2]) [] 0 := by
  refine FTL.of_iw hT10 mo' Tryd.func24 i24_eq (by simp [i24]) (iw_of_jw ?_)
  dsimp only [i24, T10]
  by_cases h0 : lateE r now = 0
  · obtain ⟨hg, hn1, hn2⟩ := late_ok h0
    obtain ⟨g1, g2, g3, g4, g5, g6, g7, g8, g9, g10⟩ := good_iff hg
    generalize hR : probeS r now s g = R
    cases e1 : isRate s
    · have hR2 : R = (zRt, 2) := by rw [← hR]; simp [probeS, h0, e1]
      simp (config := { maxSteps := 400000 }) only [go_sem, Rt.l, k35, k36, k32, rtV, Rt.eta, h0, e1, ↓reduceIte, beq_self_eq_true, bne_self_eq_false, Int.reduceAdd, Int.reduceSub, Int.reduceMul, Int.reduceNeg, Int.reduceEq, Int.reduceNe, Int.cast_ofNat_Int, Int.lt_irrefl, Int.le_refl, Nat.reduceEqDiff, Nat.reduceLeDiff, Nat.reduceLT, Int.reducePow, IntKind.bits, Nat.reduceAdd, Nat.reduceMul, Nat.reduceSub, Int.reduceBNe, Int.reduceBEq, Int.reduceLE, Int.reduceLT, Int.reduceToNat, reduceCtorEq, Nat.zero_ne_one, Nat.one_ne_zero, and_self, and_true, true_and, Option.getD_some, Option.isSome_some, wrapL, gt_iff_lt, ge_iff_le, Int.toNat_natCast, Nat.sub_zero, ite_self, spB_TT, Nat.zero_add, Nat.add_zero]
      refine Ends.pureE rfl ?_; rw [hR2]; rfl
    · cases e2 : isRate g
      · have hR2 : R = (zRt, 2) := by rw [← hR]; simp [probeS, h0, e1, e2]
        simp (config := { maxSteps := 400000 }) only [go_sem, Rt.l, k35, k36, k32, rtV, Rt.eta, h0, e1, e2, ↓reduceIte, beq_self_eq_true, bne_self_eq_false, Int.reduceAdd, Int.reduceSub, Int.reduceMul, Int.reduceNeg, Int.reduceEq, Int.reduceNe, Int.cast_ofNat_Int, Int.lt_irrefl, Int.le_refl, Nat.reduceEqDiff, Nat.reduceLeDiff, Nat.reduceLT, Int.reducePow, IntKind.bits, Nat.reduceAdd, Nat.reduceMul, Nat.reduceSub, Int.reduceBNe, Int.reduceBEq, Int.reduceLE, Int.reduceLT, Int.reduceToNat, reduceCtorEq, Nat.zero_ne_one, Nat.one_ne_zero, and_self, and_true, true_and, Option.getD_some, Option.isSome_some, wrapL, gt_iff_lt, ge_iff_le, Int.toNat_natCast, Nat.sub_zero, ite_self, spB_TT, Nat.zero_add, Nat.add_zero]
        refine Ends.pureE rfl ?_; rw [hR2]; rfl
      · have f1 := e1
        have f2 := e2
        simp only [isRate, Bool.and_eq_true, decide_eq_true_eq] at f1 f2
        have q1 : IntKind.i64.wrap (10 * g) = 10 * g := wrapL (by omega) (by omega)
        have q2 : IntKind.i64.wrap (9 * s) = 9 * s := wrapL (by omega) (by omega)
        have q3 : IntKind.i64.wrap (95 * g) = 95 * g := wrapL (by omega) (by omega)
        have q4 : (95 * g).tdiv 100 = 95 * g / 100 := Int.tdiv_eq_ediv_of_nonneg (by omega)
        have q5 : IntKind.i64.wrap (95 * g / 100) = 95 * g / 100 := wrapL (by omega) (by omega)
        have hM : ∀ x : Int, min (max x r.least) r.most = max r.least (min x r.most) := fun x => by omega
        by_cases hz : 10 * g < 9 * s
        · have d1 : decide (10 * g < 9 * s) = true := decide_eq_true hz
          have hq : probeN s g = 95 * g / 100 := by simp [probeN, hz]
          simp (config := { maxSteps := 400000 }) only [go_sem, Rt.l, k35, k36, k32, rtV, Rt.eta, h0, e1, e2, q1, q2, q3, q4, q5, d1, hM, ↓reduceIte, beq_self_eq_true, bne_self_eq_false, Int.reduceAdd, Int.reduceSub, Int.reduceMul, Int.reduceNeg, Int.reduceEq, Int.reduceNe, Int.cast_ofNat_Int, Int.lt_irrefl, Int.le_refl, Nat.reduceEqDiff, Nat.reduceLeDiff, Nat.reduceLT, Int.reducePow, IntKind.bits, Nat.reduceAdd, Nat.reduceMul, Nat.reduceSub, Int.reduceBNe, Int.reduceBEq, Int.reduceLE, Int.reduceLT, Int.reduceToNat, reduceCtorEq, Nat.zero_ne_one, Nat.one_ne_zero, and_self, and_true, true_and, Option.getD_some, Option.isSome_some, wrapL, gt_iff_lt, ge_iff_le, Int.toNat_natCast, Nat.sub_zero, ite_self, spB_TT, Nat.zero_add, Nat.add_zero]
          repeat' (first | refine spB_i (fun _ => ?_) (fun _ => ?_) | refine andB_i ?_ ?_)
          all_goals (refine Ends.pureE rfl ?_; rw [← hR]; clear hR q1 q2 q3 q4 q5 d1 hM; simp only [setR, decide_eq_true_eq, decide_eq_false_iff_not, beq_iff_eq, beq_eq_false_iff_ne] at *)
          all_goals (simp only [probeS, setR, Rt.l, h0, e1, e2, hq, *, ne_eq, not_true_eq_false, if_false, if_true, Bool.and_self, Bool.true_eq_false, ↓reduceIte]; try rfl)
          all_goals grind
        · have d1 : decide (10 * g < 9 * s) = false := decide_eq_false hz
          have hq : probeN s g = min s g := by simp [probeN, hz]
          simp (config := { maxSteps := 400000 }) only [go_sem, Rt.l, k35, k36, k32, rtV, Rt.eta, h0, e1, e2, q1, q2, q3, q4, q5, d1, hM, ↓reduceIte, beq_self_eq_true, bne_self_eq_false, Int.reduceAdd, Int.reduceSub, Int.reduceMul, Int.reduceNeg, Int.reduceEq, Int.reduceNe, Int.cast_ofNat_Int, Int.lt_irrefl, Int.le_refl, Nat.reduceEqDiff, Nat.reduceLeDiff, Nat.reduceLT, Int.reducePow, IntKind.bits, Nat.reduceAdd, Nat.reduceMul, Nat.reduceSub, Int.reduceBNe, Int.reduceBEq, Int.reduceLE, Int.reduceLT, Int.reduceToNat, reduceCtorEq, Nat.zero_ne_one, Nat.one_ne_zero, and_self, and_true, true_and, Option.getD_some, Option.isSome_some, wrapL, gt_iff_lt, ge_iff_le, Int.toNat_natCast, Nat.sub_zero, ite_self, spB_TT, Nat.zero_add, Nat.add_zero]
          repeat' (first | refine spB_i (fun _ => ?_) (fun _ => ?_) | refine andB_i ?_ ?_)
          all_goals (refine Ends.pureE rfl ?_; rw [← hR]; clear hR q1 q2 q3 q4 q5 d1 hM; simp only [setR, decide_eq_true_eq, decide_eq_false_iff_not, beq_iff_eq, beq_eq_false_iff_ne] at *)
          all_goals (simp only [probeS, setR, Rt.l, h0, e1, e2, hq, *, ne_eq, not_true_eq_false, if_false, if_true, Bool.and_self, Bool.true_eq_false, ↓reduceIte]; try rfl)
          all_goals grind
  · generalize hR : probeS r now s g = R
    have he : (lateE r now != 0) = true := by simp [h0]
    have hR' : R = (zRt, lateE r now) := by rw [← hR]; simp [probeS, h0]
    simp (config := { maxSteps := 400000 }) only [go_sem, Rt.l, k35, k36, rtV, Rt.eta, he, ↓reduceIte, beq_self_eq_true, bne_self_eq_false, Int.reduceAdd, Int.reduceSub, Int.reduceMul, Int.reduceNeg, Int.reduceEq, Int.reduceNe, Int.cast_ofNat_Int, Int.lt_irrefl, Int.le_refl, Nat.reduceEqDiff, Nat.reduceLeDiff, Nat.reduceLT, Int.reducePow, IntKind.bits, Nat.reduceAdd, Nat.reduceMul, Nat.reduceSub, Int.reduceBNe, Int.reduceBEq, Int.reduceLE, Int.reduceLT, Int.reduceToNat, reduceCtorEq, Nat.zero_ne_one, Nat.one_ne_zero, and_self, and_true, true_and, Option.getD_some, Option.isSome_some, wrapL, gt_iff_lt, ge_iff_le, Int.toNat_natCast, Nat.sub_zero, ite_self, spB_TT, Nat.zero_add, Nat.add_zero]
    refine Ends.pureE rfl ?_; rw [hR']; rfl
end Go.Proofs.Rate
end
