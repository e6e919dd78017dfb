/- PictureOnce: the law function, over its argument. -/
import Derived.Test.YtndbgcmgjnjnhaaPicLaw8
import Derived.Test.YtndbgcmgjnjnhaaPicLaw5b
namespace Go.Proofs.Pic
open Go.Ab Go.ChangeShapes Go.WideShapes
set_option maxRecDepth 100000
set_option linter.unusedVariables false
set_option linter.unusedSimpArgs false
theorem w8n : FTL Try.prog 8 [.ns] [] 1 (.b true) [] 1 := by
  refine FTL.of_iw hT16 mo Try.func8 i8_eq (by simp [i8]) (iw_of_jw ?_)
  dsimp only [i8, T16]
  have c0 : min (0 : Int) 40 = 0 := by decide
  simp (config := { maxSteps := 400000 }) only [go_sem, k18, c0, ↓reduceIte, beq_self_eq_true, bne_self_eq_false, Int.reduceAdd, Int.reduceSub, Int.reduceMul, Int.reduceNeg, Int.reduceEq, Int.reduceNe, Int.cast_ofNat_Int, Int.lt_irrefl, Int.le_refl, Nat.reduceEqDiff, Nat.reduceLeDiff, Nat.reduceLT, Int.reducePow, IntKind.bits, Nat.reduceAdd, Nat.reduceMul, Nat.reduceSub, Int.reduceBNe, Int.reduceBEq, Int.reduceLE, Int.reduceLT, Int.reduceToNat, reduceCtorEq, Nat.zero_ne_one, Nat.one_ne_zero, and_self, and_true, true_and, Option.getD_some, Option.isSome_some, wrapL, gt_iff_lt, ge_iff_le, Int.toNat_natCast, Nat.sub_zero, ite_self, spB_TT, Nat.zero_add, Nat.add_zero]
  refine Loop.rounds (F := ⟨Try.prog, cxT T16, [17, 25, 56, 57, 103, 107, 141], 145, 1⟩) 1 hT16 mo ?_
  dsimp only [T16]
  simp (config := { maxSteps := 400000 }) only [go_sem, ↓reduceIte, beq_self_eq_true, bne_self_eq_false, Int.reduceAdd, Int.reduceSub, Int.reduceMul, Int.reduceNeg, Int.reduceEq, Int.reduceNe, Int.cast_ofNat_Int, Int.lt_irrefl, Int.le_refl, Nat.reduceEqDiff, Nat.reduceLeDiff, Nat.reduceLT, Int.reducePow, IntKind.bits, Nat.reduceAdd, Nat.reduceMul, Nat.reduceSub, Int.reduceBNe, Int.reduceBEq, Int.reduceLE, Int.reduceLT, Int.reduceToNat, reduceCtorEq, Nat.zero_ne_one, Nat.one_ne_zero, and_self, and_true, true_and, Option.getD_some, Option.isSome_some, wrapL, gt_iff_lt, ge_iff_le, Int.toNat_natCast, Nat.sub_zero, ite_self, spB_TT, Nat.zero_add, Nat.add_zero]
  exact Ends.pure rfl
theorem w8 (av : AV) (hp : Hp) (h : ArgShp (.sl tDr) 0 av hp) : FTL Try.prog 8 [av] hp 1 (.b true) [] 1 := by
  rcases h with ⟨rfl, rfl⟩ | ⟨ls, cap, hls, hcap, hmax, rfl, rfl⟩
  · exact w8n
  · obtain ⟨m, rfl, hm⟩ := drs_of_flat hls
    have := body8 m cap hm (by simpa using hcap)
    simpa [rows] using this
end Go.Proofs.Pic
