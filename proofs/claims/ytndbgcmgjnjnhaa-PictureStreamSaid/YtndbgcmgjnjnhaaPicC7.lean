/- Contracts of chapter 40: Sound and Show. -/
import Derived.Test.YtndbgcmgjnjnhaaPicC6
import Derived.Test.YtndbgcmgjnjnhaaAbLoops
namespace Go.Proofs.Pic
open Go.Ab
set_option maxRecDepth 100000
set_option maxHeartbeats 4000000
set_option linter.unusedSimpArgs false
set_option linter.unusedVariables false

def k52 : Ct
  | [.p b 0], h, n => (hget h b).bind fun k => (vwB k).bind fun x => some (x.1.good && x.2.good, { v := .b (showS x.1 x.2).2, n, rd := [b], md := [(b, some { cells := vw (showS x.1 x.2).1 x.2 })] })
  | _, _, _ => none
theorem s52 : SoundAt Try.prog 52 k52 := fun args h n c E hc ht => by
  unfold k52 at hc
  split at hc
  · rename_i b
    simp only [Option.bind_eq_some_iff] at hc
    obtain ⟨k, hk, ⟨d, s⟩, hm, he⟩ := hc
    cases he
    rw [vwB_eq hm] at hk
    simp only [Bool.and_eq_true] at ht
    exact CallOK.upd1 (argsL := [.p 0 0]) (by kernel_rfl) rfl rfl rfl rfl rfl hk (w52 _ _ ht.1 ht.2)
  · cases hc
def okD (d : Dc) (k : Nat) : Prop := (1 ≤ k → d.x.fit = true) ∧ (2 ≤ k → d.y.fit = true ∧ (!d.y.lv || d.x.lv) = true) ∧ (3 ≤ k → d.z.fit = true ∧ (!d.z.lv || d.y.lv) = true)
theorem w26 (d : Dc) : FTL Try.prog 26 [.agg d.l] [] 0 (.i .i64 (if d.good then 0 else 402)) [] 0 := by
  refine FTL.of_iw hT1 mo Try.func26 i26_eq (by simp [i26]) (iw_of_jw ?_)
  dsimp only [i26, T1]
  generalize hR : (if d.good then (0 : Int) else 402) = R
  simp only [go_sem, Dc.l, ↓reduceIte, beq_self_eq_true, bne_self_eq_false, Int.reduceAdd, Int.reduceSub, Int.reduceMul, Int.reduceNeg, Int.reduceEq, Int.reduceNe, Int.cast_ofNat_Int, Int.lt_irrefl, Int.le_refl, Nat.reduceEqDiff, Nat.reduceLeDiff, Nat.reduceLT, Int.reducePow, IntKind.bits, Nat.reduceAdd, Nat.reduceMul, Nat.reduceSub, Int.reduceBNe, Int.reduceBEq, Int.reduceLE, Int.reduceLT, Int.reduceToNat, reduceCtorEq, Nat.zero_ne_one, Nat.one_ne_zero, and_self, and_true, true_and, Option.getD_some, Option.isSome_some, wrapL, gt_iff_lt, ge_iff_le]
  refine ⟨fun h => ?_, fun _ => ?_⟩
  · refine Ends.pureE rfl (congrArg _ ?_)
    rw [← hR, if_pos]
    simp at h
    simp [Dc.good, Ly.fit, h]
  · refine Loop.countI (F := ⟨Try.prog, cxT T1, [9, 13, 56], 58, 0⟩) hT1 mo 3 (okD d) (fun k => [(12, .i .i64 (k : Int)), (11, .agg d.l), (1, .p 0 0)]) (fun _ => [(0, { cells := d.l })]) 1 (by decide) (by simp [okD]) ?_ ?_ (fun k hk ho => ?_)
    · simp only [go_sem, Dc.l, AV.bel, belL, nblt, ↓reduceIte, beq_self_eq_true, bne_self_eq_false, Int.reduceAdd, Int.reduceSub, Int.reduceMul, Int.reduceNeg, Int.reduceEq, Int.reduceNe, Int.cast_ofNat_Int, Int.lt_irrefl, Int.le_refl, Nat.reduceEqDiff, Nat.reduceLeDiff, Nat.reduceLT, Int.reducePow, IntKind.bits, Nat.reduceAdd, Nat.reduceMul, Nat.reduceSub, Int.reduceBNe, Int.reduceBEq, Int.reduceLE, Int.reduceLT, Int.reduceToNat, reduceCtorEq, Nat.zero_ne_one, Nat.one_ne_zero, and_self, and_true, true_and, Option.getD_some, Option.isSome_some, wrapL, gt_iff_lt, ge_iff_le]
    · simp only [go_sem, Dc.l, AV.bel, belL, nblt, ↓reduceIte, beq_self_eq_true, bne_self_eq_false, Int.reduceAdd, Int.reduceSub, Int.reduceMul, Int.reduceNeg, Int.reduceEq, Int.reduceNe, Int.cast_ofNat_Int, Int.lt_irrefl, Int.le_refl, Nat.reduceEqDiff, Nat.reduceLeDiff, Nat.reduceLT, Int.reducePow, IntKind.bits, Nat.reduceAdd, Nat.reduceMul, Nat.reduceSub, Int.reduceBNe, Int.reduceBEq, Int.reduceLE, Int.reduceLT, Int.reduceToNat, reduceCtorEq, Nat.zero_ne_one, Nat.one_ne_zero, and_self, and_true, true_and, Option.getD_some, Option.isSome_some, wrapL, gt_iff_lt, ge_iff_le]
    · dsimp only [T1]
      match k, hk with
      | 0, _ =>
        simp only [go_sem, Dc.l, k44, AV.bel, belL, nblt, Int.ofNat_eq_natCast, Int.cast_ofNat_Int, Int.natCast_zero, ↓reduceIte, beq_self_eq_true, bne_self_eq_false, Int.reduceAdd, Int.reduceSub, Int.reduceMul, Int.reduceNeg, Int.reduceEq, Int.reduceNe, Int.cast_ofNat_Int, Int.lt_irrefl, Int.le_refl, Nat.reduceEqDiff, Nat.reduceLeDiff, Nat.reduceLT, Int.reducePow, IntKind.bits, Nat.reduceAdd, Nat.reduceMul, Nat.reduceSub, Int.reduceBNe, Int.reduceBEq, Int.reduceLE, Int.reduceLT, Int.reduceToNat, reduceCtorEq, Nat.zero_ne_one, Nat.one_ne_zero, and_self, and_true, true_and, Option.getD_some, Option.isSome_some, wrapL, gt_iff_lt, ge_iff_le]
        repeat' (first | refine spB_i (fun _ => ?_) (fun _ => ?_) | refine andB_i ?_ ?_)
        all_goals first
          | (refine Ends.pureE rfl (congrArg _ ?_); rw [← hR, if_neg]; simp only [okD, Dc.good, Ly.fit] at *; grind)
          | (simp only [okD, Ly.fit] at *; grind)
      | 1, _ =>
        simp only [go_sem, Dc.l, k44, AV.bel, belL, nblt, Int.ofNat_eq_natCast, Int.cast_ofNat_Int, Int.natCast_one, ↓reduceIte, beq_self_eq_true, bne_self_eq_false, Int.reduceAdd, Int.reduceSub, Int.reduceMul, Int.reduceNeg, Int.reduceEq, Int.reduceNe, Int.cast_ofNat_Int, Int.lt_irrefl, Int.le_refl, Nat.reduceEqDiff, Nat.reduceLeDiff, Nat.reduceLT, Int.reducePow, IntKind.bits, Nat.reduceAdd, Nat.reduceMul, Nat.reduceSub, Int.reduceBNe, Int.reduceBEq, Int.reduceLE, Int.reduceLT, Int.reduceToNat, reduceCtorEq, Nat.zero_ne_one, Nat.one_ne_zero, and_self, and_true, true_and, Option.getD_some, Option.isSome_some, wrapL, gt_iff_lt, ge_iff_le]
        repeat' (first | refine spB_i (fun _ => ?_) (fun _ => ?_) | refine andB_i ?_ ?_)
        all_goals first
          | (refine Ends.pureE rfl (congrArg _ ?_); rw [← hR, if_neg]; simp only [okD, Dc.good, Ly.fit] at *; grind)
          | (simp only [okD, Ly.fit] at *; grind)
      | 2, _ =>
        simp only [go_sem, Dc.l, k44, AV.bel, belL, nblt, Int.ofNat_eq_natCast, Int.cast_ofNat_Int, ↓reduceIte, beq_self_eq_true, bne_self_eq_false, Int.reduceAdd, Int.reduceSub, Int.reduceMul, Int.reduceNeg, Int.reduceEq, Int.reduceNe, Int.cast_ofNat_Int, Int.lt_irrefl, Int.le_refl, Nat.reduceEqDiff, Nat.reduceLeDiff, Nat.reduceLT, Int.reducePow, IntKind.bits, Nat.reduceAdd, Nat.reduceMul, Nat.reduceSub, Int.reduceBNe, Int.reduceBEq, Int.reduceLE, Int.reduceLT, Int.reduceToNat, reduceCtorEq, Nat.zero_ne_one, Nat.one_ne_zero, and_self, and_true, true_and, Option.getD_some, Option.isSome_some, wrapL, gt_iff_lt, ge_iff_le]
        repeat' (first | refine spB_i (fun _ => ?_) (fun _ => ?_) | refine andB_i ?_ ?_)
        all_goals first
          | (refine Ends.pureE rfl (congrArg _ ?_); rw [← hR, if_neg]; simp only [okD, Dc.good, Ly.fit] at *; grind)
          | (simp only [okD, Ly.fit] at *; grind)
      | 3, _ =>
        simp only [go_sem, Dc.l, k44, AV.bel, belL, nblt, Int.ofNat_eq_natCast, Int.cast_ofNat_Int, ↓reduceIte, beq_self_eq_true, bne_self_eq_false, Int.reduceAdd, Int.reduceSub, Int.reduceMul, Int.reduceNeg, Int.reduceEq, Int.reduceNe, Int.cast_ofNat_Int, Int.lt_irrefl, Int.le_refl, Nat.reduceEqDiff, Nat.reduceLeDiff, Nat.reduceLT, Int.reducePow, IntKind.bits, Nat.reduceAdd, Nat.reduceMul, Nat.reduceSub, Int.reduceBNe, Int.reduceBEq, Int.reduceLE, Int.reduceLT, Int.reduceToNat, reduceCtorEq, Nat.zero_ne_one, Nat.one_ne_zero, and_self, and_true, true_and, Option.getD_some, Option.isSome_some, wrapL, gt_iff_lt, ge_iff_le]
        refine Ends.pureE rfl (congrArg _ ?_)
        rw [← hR, if_pos]
        simp only [okD, Dc.good, Bool.and_eq_true] at *
        exact ⟨⟨⟨⟨ho.1 (by omega), (ho.2.1 (by omega)).1⟩, (ho.2.2 (by omega)).1⟩, (ho.2.1 (by omega)).2⟩, (ho.2.2 (by omega)).2⟩
theorem w27 (d : Dc) : FTL Try.prog 27 [.agg d.l] [] 0 (.b d.good) [] 0 := by
  refine FTL.of_iw hT1 mo Try.func27 i27_eq (by simp [i27]) (iw_of_jw ?_)
  dsimp only [i27, T1]
  generalize hR : d.good = R
  simp only [go_sem, Dc.l, ↓reduceIte, beq_self_eq_true, bne_self_eq_false, Int.reduceAdd, Int.reduceSub, Int.reduceMul, Int.reduceNeg, Int.reduceEq, Int.reduceNe, Int.cast_ofNat_Int, Int.lt_irrefl, Int.le_refl, Nat.reduceEqDiff, Nat.reduceLeDiff, Nat.reduceLT, Int.reducePow, IntKind.bits, Nat.reduceAdd, Nat.reduceMul, Nat.reduceSub, Int.reduceBNe, Int.reduceBEq, Int.reduceLE, Int.reduceLT, Int.reduceToNat, reduceCtorEq, Nat.zero_ne_one, Nat.one_ne_zero, and_self, and_true, true_and, Option.getD_some, Option.isSome_some, wrapL, gt_iff_lt, ge_iff_le]
  refine Loop.countI (F := ⟨Try.prog, cxT T1, [6, 40, 75], 76, 0⟩) hT1 mo 3 (okD d) (fun k => [(3, .i .i64 (k : Int)), (1, .p 0 0)]) (fun _ => [(0, { cells := d.l })]) 1 (by decide) (by simp [okD]) ?_ ?_ (fun k hk ho => ?_)
  · simp only [go_sem, Dc.l, AV.bel, belL, nblt, ↓reduceIte, beq_self_eq_true, bne_self_eq_false, Int.reduceAdd, Int.reduceSub, Int.reduceMul, Int.reduceNeg, Int.reduceEq, Int.reduceNe, Int.cast_ofNat_Int, Int.lt_irrefl, Int.le_refl, Nat.reduceEqDiff, Nat.reduceLeDiff, Nat.reduceLT, Int.reducePow, IntKind.bits, Nat.reduceAdd, Nat.reduceMul, Nat.reduceSub, Int.reduceBNe, Int.reduceBEq, Int.reduceLE, Int.reduceLT, Int.reduceToNat, reduceCtorEq, Nat.zero_ne_one, Nat.one_ne_zero, and_self, and_true, true_and, Option.getD_some, Option.isSome_some, wrapL, gt_iff_lt, ge_iff_le]
  · simp only [go_sem, Dc.l, AV.bel, belL, nblt, ↓reduceIte, beq_self_eq_true, bne_self_eq_false, Int.reduceAdd, Int.reduceSub, Int.reduceMul, Int.reduceNeg, Int.reduceEq, Int.reduceNe, Int.cast_ofNat_Int, Int.lt_irrefl, Int.le_refl, Nat.reduceEqDiff, Nat.reduceLeDiff, Nat.reduceLT, Int.reducePow, IntKind.bits, Nat.reduceAdd, Nat.reduceMul, Nat.reduceSub, Int.reduceBNe, Int.reduceBEq, Int.reduceLE, Int.reduceLT, Int.reduceToNat, reduceCtorEq, Nat.zero_ne_one, Nat.one_ne_zero, and_self, and_true, true_and, Option.getD_some, Option.isSome_some, wrapL, gt_iff_lt, ge_iff_le]
  · dsimp only [T1]
    match k, hk with
    | 0, _ =>
      simp only [go_sem, Dc.l, k44, AV.bel, belL, nblt, Int.ofNat_eq_natCast, Int.cast_ofNat_Int, Int.natCast_zero, ↓reduceIte, beq_self_eq_true, bne_self_eq_false, Int.reduceAdd, Int.reduceSub, Int.reduceMul, Int.reduceNeg, Int.reduceEq, Int.reduceNe, Int.cast_ofNat_Int, Int.lt_irrefl, Int.le_refl, Nat.reduceEqDiff, Nat.reduceLeDiff, Nat.reduceLT, Int.reducePow, IntKind.bits, Nat.reduceAdd, Nat.reduceMul, Nat.reduceSub, Int.reduceBNe, Int.reduceBEq, Int.reduceLE, Int.reduceLT, Int.reduceToNat, reduceCtorEq, Nat.zero_ne_one, Nat.one_ne_zero, and_self, and_true, true_and, Option.getD_some, Option.isSome_some, wrapL, gt_iff_lt, ge_iff_le]
      repeat' (first | refine spB_i (fun _ => ?_) (fun _ => ?_) | refine andB_i ?_ ?_)
      all_goals first
        | (refine Ends.pureE rfl (congrArg _ ?_); rw [← hR]; simp only [okD, Dc.good, Ly.fit] at *; grind)
        | (simp only [okD, Ly.fit] at *; grind)
    | 1, _ =>
      simp only [go_sem, Dc.l, k44, AV.bel, belL, nblt, Int.ofNat_eq_natCast, Int.cast_ofNat_Int, Int.natCast_one, ↓reduceIte, beq_self_eq_true, bne_self_eq_false, Int.reduceAdd, Int.reduceSub, Int.reduceMul, Int.reduceNeg, Int.reduceEq, Int.reduceNe, Int.cast_ofNat_Int, Int.lt_irrefl, Int.le_refl, Nat.reduceEqDiff, Nat.reduceLeDiff, Nat.reduceLT, Int.reducePow, IntKind.bits, Nat.reduceAdd, Nat.reduceMul, Nat.reduceSub, Int.reduceBNe, Int.reduceBEq, Int.reduceLE, Int.reduceLT, Int.reduceToNat, reduceCtorEq, Nat.zero_ne_one, Nat.one_ne_zero, and_self, and_true, true_and, Option.getD_some, Option.isSome_some, wrapL, gt_iff_lt, ge_iff_le]
      repeat' (first | refine spB_i (fun _ => ?_) (fun _ => ?_) | refine andB_i ?_ ?_)
      all_goals first
        | (refine Ends.pureE rfl (congrArg _ ?_); rw [← hR]; simp only [okD, Dc.good, Ly.fit] at *; grind)
        | (simp only [okD, Ly.fit] at *; grind)
    | 2, _ =>
      simp only [go_sem, Dc.l, k44, AV.bel, belL, nblt, Int.ofNat_eq_natCast, Int.cast_ofNat_Int, ↓reduceIte, beq_self_eq_true, bne_self_eq_false, Int.reduceAdd, Int.reduceSub, Int.reduceMul, Int.reduceNeg, Int.reduceEq, Int.reduceNe, Int.cast_ofNat_Int, Int.lt_irrefl, Int.le_refl, Nat.reduceEqDiff, Nat.reduceLeDiff, Nat.reduceLT, Int.reducePow, IntKind.bits, Nat.reduceAdd, Nat.reduceMul, Nat.reduceSub, Int.reduceBNe, Int.reduceBEq, Int.reduceLE, Int.reduceLT, Int.reduceToNat, reduceCtorEq, Nat.zero_ne_one, Nat.one_ne_zero, and_self, and_true, true_and, Option.getD_some, Option.isSome_some, wrapL, gt_iff_lt, ge_iff_le]
      repeat' (first | refine spB_i (fun _ => ?_) (fun _ => ?_) | refine andB_i ?_ ?_)
      all_goals first
        | (refine Ends.pureE rfl (congrArg _ ?_); rw [← hR]; simp only [okD, Dc.good, Ly.fit] at *; grind)
        | (simp only [okD, Ly.fit] at *; grind)
    | 3, _ =>
      simp only [go_sem, Dc.l, k44, AV.bel, belL, nblt, Int.ofNat_eq_natCast, Int.cast_ofNat_Int, ↓reduceIte, beq_self_eq_true, bne_self_eq_false, Int.reduceAdd, Int.reduceSub, Int.reduceMul, Int.reduceNeg, Int.reduceEq, Int.reduceNe, Int.cast_ofNat_Int, Int.lt_irrefl, Int.le_refl, Nat.reduceEqDiff, Nat.reduceLeDiff, Nat.reduceLT, Int.reducePow, IntKind.bits, Nat.reduceAdd, Nat.reduceMul, Nat.reduceSub, Int.reduceBNe, Int.reduceBEq, Int.reduceLE, Int.reduceLT, Int.reduceToNat, reduceCtorEq, Nat.zero_ne_one, Nat.one_ne_zero, and_self, and_true, true_and, Option.getD_some, Option.isSome_some, wrapL, gt_iff_lt, ge_iff_le]
      refine Ends.pureE rfl (congrArg _ ?_)
      rw [← hR]; symm
      simp only [okD, Dc.good, Bool.and_eq_true] at *
      exact ⟨⟨⟨⟨ho.1 (by omega), (ho.2.1 (by omega)).1⟩, (ho.2.2 (by omega)).1⟩, (ho.2.1 (by omega)).2⟩, (ho.2.2 (by omega)).2⟩
end Go.Proofs.Pic
