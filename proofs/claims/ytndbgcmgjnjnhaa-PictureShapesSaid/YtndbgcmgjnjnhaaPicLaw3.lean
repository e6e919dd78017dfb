/- PictureShapes: the law function. -/
import Derived.Test.YtndbgcmgjnjnhaaPicC2
import Derived.Test.YtndbgcmgjnjnhaaPicIR3
namespace Go.Proofs.Pic
open Go.Ab
set_option maxRecDepth 100000
set_option maxHeartbeats 4000000
set_option linter.unusedSimpArgs false
set_option linter.unusedVariables false
def T4 : List (Nat × Ct) := [(12, k12), (13, k13), (14, k14), (15, k15), (16, k16), (17, k45), (18, k18)]
theorem hT4 : Sound Try.prog (cxT T4) := Sound.cons s12 <| Sound.cons s13 <| Sound.cons s14 <| Sound.cons s15 <| Sound.cons s16 <| Sound.cons s17 <| Sound.cons s18 Sound.nil
def iv : Fin 5 → Int := fun i => i.val
theorem iv0 : iv 0 = 0 := rfl
theorem iv1 : iv 1 = 1 := rfl
theorem iv2 : iv 2 = 2 := rfl
theorem iv3 : iv 3 = 3 := rfl
theorem iv4 : iv 4 = 4 := rfl
attribute [local congr] spB_congrC andB_congrC
theorem w3 (f i b t s w0 a0 n0 w1 a1 n1 : Int) (st ky sy la : Bool) (id ba te sp : Int) : FTL Try.prog 3 [.agg [.i .u8 f, .i .u16 i, .i .u8 b, .i .u8 t, .i .u8 s], .agg [.i .u8 w0, .i .u8 a0, .i .i64 n0, .i .u8 w1, .i .u8 a1, .i .i64 n1], .agg [.b st, .b ky, .b sy, .b la, .i .i64 id, .i .i64 ba, .i .i64 te, .i .i64 sp]] [] 3
    (.b true) [] 3 := by
  refine FTL.of_iw hT4 mo Try.func3 i3_eq (by simp [i3]) (iw_of_jw ?_)
  dsimp only [i3, T4]
  simp only [go_sem, k12, k13, k14, k15, k16, k45, k18, Sh.l, Sh.eta, ↓reduceIte, beq_self_eq_true, bne_self_eq_false, Int.reduceAdd, Int.reduceSub, Int.reduceMul, Int.reduceNeg, Int.reduceEq, Int.reduceNe, Int.cast_ofNat_Int, Int.lt_irrefl, Int.le_refl, Nat.reduceEqDiff, Nat.reduceLeDiff, Nat.reduceLT, Int.reducePow, IntKind.bits, Nat.reduceAdd, Nat.reduceMul, Nat.reduceSub, Int.reduceBNe, Int.reduceBEq, Int.reduceLE, Int.reduceLT, Int.reduceToNat, reduceCtorEq, Nat.zero_ne_one, Nat.one_ne_zero, and_self, and_true, true_and]
  generalize draftS f i b t s = x0
  generalize bendS w0 n0 x0 = x1
  generalize bendS w1 n1 x1 = x2
  refine Loop.inv (F := ⟨Try.prog, cxT T4, [31, 41, 56], 59, 3⟩) hT4 mo (X := Fin 5) (fun i => ([(30,   .i .i64 (iv i)), (29, .agg [.b x0.st, .b x0.ky, .b x0.sy, .b x0.la, .i .i64 x0.id, .i .i64 x0.ba, .i .i64 x0.te, .i .i64 x0.sp, .b x1.st, .b x1.ky, .b x1.sy, .b x1.la, .i .i64 x1.id, .i .i64 x1.ba, .i .i64 x1.te, .i .i64 x1.sp, .b x2.st, .b x2.ky, .b x2.sy, .b x2.la, .i .i64 x2.id, .i .i64 x2.ba, .i .i64 x2.te, .i .i64 x2.sp, .b st, .b ky, .b sy, .b la, .i .i64 id, .i .i64 ba, .i .i64 te, .i .i64 sp]), (6, .b false)], [], 3)) (fun i => 5 - i.val) 0 _root_.id ?_ ?_
  · refine Wk.keep (Nat.le_refl _) ?_ trivial
    simp only [go_sem, AV.bel, belL, iv0, ↓reduceIte, beq_self_eq_true, bne_self_eq_false, Int.reduceAdd, Int.reduceSub, Int.reduceMul, Int.reduceNeg, Int.reduceEq, Int.reduceNe, Int.cast_ofNat_Int, Int.lt_irrefl, Int.le_refl, Nat.reduceEqDiff, Nat.reduceLeDiff, Nat.reduceLT, Int.reducePow, IntKind.bits, Nat.reduceAdd, Nat.reduceMul, Nat.reduceSub, Int.reduceBNe, Int.reduceBEq, Int.reduceLE, Int.reduceLT, Int.reduceToNat, reduceCtorEq, Nat.zero_ne_one, Nat.one_ne_zero, and_self, and_true, true_and]
  · intro i
    refine iw_of_jw ?_
    dsimp only [T4]
    match i with
    | 0 =>
      cases hg : x0.good
      · simp only [go_sem, k14, k15, k16, k45, k18, Sh.l, Sh.eta, hg, Bool.false_eq_true, iv0, ↓reduceIte, beq_self_eq_true, bne_self_eq_false, Int.reduceAdd, Int.reduceSub, Int.reduceMul, Int.reduceNeg, Int.reduceEq, Int.reduceNe, Int.cast_ofNat_Int, Int.lt_irrefl, Int.le_refl, Nat.reduceEqDiff, Nat.reduceLeDiff, Nat.reduceLT, Int.reducePow, IntKind.bits, Nat.reduceAdd, Nat.reduceMul, Nat.reduceSub, Int.reduceBNe, Int.reduceBEq, Int.reduceLE, Int.reduceLT, Int.reduceToNat, reduceCtorEq, Nat.zero_ne_one, Nat.one_ne_zero, and_self, and_true, true_and]
        refine ⟨1, _root_.id, Wk.keep (Nat.le_refl _) ?_ trivial, by decide⟩
        simp only [go_sem, AV.bel, belL, iv1, ↓reduceIte, beq_self_eq_true, bne_self_eq_false, Int.reduceAdd, Int.reduceSub, Int.reduceMul, Int.reduceNeg, Int.reduceEq, Int.reduceNe, Int.cast_ofNat_Int, Int.lt_irrefl, Int.le_refl, Nat.reduceEqDiff, Nat.reduceLeDiff, Nat.reduceLT, Int.reducePow, IntKind.bits, Nat.reduceAdd, Nat.reduceMul, Nat.reduceSub, Int.reduceBNe, Int.reduceBEq, Int.reduceLE, Int.reduceLT, Int.reduceToNat, reduceCtorEq, Nat.zero_ne_one, Nat.one_ne_zero, and_self, and_true, true_and]
        rfl
      · simp only [go_sem, k14, k15, k16, k45, k18, Sh.l, Sh.eta, hg, iv0, ↓reduceIte, beq_self_eq_true, bne_self_eq_false, Int.reduceAdd, Int.reduceSub, Int.reduceMul, Int.reduceNeg, Int.reduceEq, Int.reduceNe, Int.cast_ofNat_Int, Int.lt_irrefl, Int.le_refl, Nat.reduceEqDiff, Nat.reduceLeDiff, Nat.reduceLT, Int.reducePow, IntKind.bits, Nat.reduceAdd, Nat.reduceMul, Nat.reduceSub, Int.reduceBNe, Int.reduceBEq, Int.reduceLE, Int.reduceLT, Int.reduceToNat, reduceCtorEq, Nat.zero_ne_one, Nat.one_ne_zero, and_self, and_true, true_and]
        refine ⟨1, _root_.id, Wk.keep (Nat.le_refl _) ?_ trivial, by decide⟩
        simp only [go_sem, AV.bel, belL, iv1, ↓reduceIte, beq_self_eq_true, bne_self_eq_false, Int.reduceAdd, Int.reduceSub, Int.reduceMul, Int.reduceNeg, Int.reduceEq, Int.reduceNe, Int.cast_ofNat_Int, Int.lt_irrefl, Int.le_refl, Nat.reduceEqDiff, Nat.reduceLeDiff, Nat.reduceLT, Int.reducePow, IntKind.bits, Nat.reduceAdd, Nat.reduceMul, Nat.reduceSub, Int.reduceBNe, Int.reduceBEq, Int.reduceLE, Int.reduceLT, Int.reduceToNat, reduceCtorEq, Nat.zero_ne_one, Nat.one_ne_zero, and_self, and_true, true_and]
        rfl
    | 1 =>
      cases hg : x1.good
      · simp only [go_sem, k14, k15, k16, k45, k18, Sh.l, Sh.eta, hg, Bool.false_eq_true, iv1, ↓reduceIte, beq_self_eq_true, bne_self_eq_false, Int.reduceAdd, Int.reduceSub, Int.reduceMul, Int.reduceNeg, Int.reduceEq, Int.reduceNe, Int.cast_ofNat_Int, Int.lt_irrefl, Int.le_refl, Nat.reduceEqDiff, Nat.reduceLeDiff, Nat.reduceLT, Int.reducePow, IntKind.bits, Nat.reduceAdd, Nat.reduceMul, Nat.reduceSub, Int.reduceBNe, Int.reduceBEq, Int.reduceLE, Int.reduceLT, Int.reduceToNat, reduceCtorEq, Nat.zero_ne_one, Nat.one_ne_zero, and_self, and_true, true_and]
        refine ⟨2, _root_.id, Wk.keep (Nat.le_refl _) ?_ trivial, by decide⟩
        simp only [go_sem, AV.bel, belL, iv2, ↓reduceIte, beq_self_eq_true, bne_self_eq_false, Int.reduceAdd, Int.reduceSub, Int.reduceMul, Int.reduceNeg, Int.reduceEq, Int.reduceNe, Int.cast_ofNat_Int, Int.lt_irrefl, Int.le_refl, Nat.reduceEqDiff, Nat.reduceLeDiff, Nat.reduceLT, Int.reducePow, IntKind.bits, Nat.reduceAdd, Nat.reduceMul, Nat.reduceSub, Int.reduceBNe, Int.reduceBEq, Int.reduceLE, Int.reduceLT, Int.reduceToNat, reduceCtorEq, Nat.zero_ne_one, Nat.one_ne_zero, and_self, and_true, true_and]
        rfl
      · simp only [go_sem, k14, k15, k16, k45, k18, Sh.l, Sh.eta, hg, iv1, ↓reduceIte, beq_self_eq_true, bne_self_eq_false, Int.reduceAdd, Int.reduceSub, Int.reduceMul, Int.reduceNeg, Int.reduceEq, Int.reduceNe, Int.cast_ofNat_Int, Int.lt_irrefl, Int.le_refl, Nat.reduceEqDiff, Nat.reduceLeDiff, Nat.reduceLT, Int.reducePow, IntKind.bits, Nat.reduceAdd, Nat.reduceMul, Nat.reduceSub, Int.reduceBNe, Int.reduceBEq, Int.reduceLE, Int.reduceLT, Int.reduceToNat, reduceCtorEq, Nat.zero_ne_one, Nat.one_ne_zero, and_self, and_true, true_and]
        refine ⟨2, _root_.id, Wk.keep (Nat.le_refl _) ?_ trivial, by decide⟩
        simp only [go_sem, AV.bel, belL, iv2, ↓reduceIte, beq_self_eq_true, bne_self_eq_false, Int.reduceAdd, Int.reduceSub, Int.reduceMul, Int.reduceNeg, Int.reduceEq, Int.reduceNe, Int.cast_ofNat_Int, Int.lt_irrefl, Int.le_refl, Nat.reduceEqDiff, Nat.reduceLeDiff, Nat.reduceLT, Int.reducePow, IntKind.bits, Nat.reduceAdd, Nat.reduceMul, Nat.reduceSub, Int.reduceBNe, Int.reduceBEq, Int.reduceLE, Int.reduceLT, Int.reduceToNat, reduceCtorEq, Nat.zero_ne_one, Nat.one_ne_zero, and_self, and_true, true_and]
        rfl
    | 2 =>
      cases hg : x2.good
      · simp only [go_sem, k14, k15, k16, k45, k18, Sh.l, Sh.eta, hg, Bool.false_eq_true, iv2, ↓reduceIte, beq_self_eq_true, bne_self_eq_false, Int.reduceAdd, Int.reduceSub, Int.reduceMul, Int.reduceNeg, Int.reduceEq, Int.reduceNe, Int.cast_ofNat_Int, Int.lt_irrefl, Int.le_refl, Nat.reduceEqDiff, Nat.reduceLeDiff, Nat.reduceLT, Int.reducePow, IntKind.bits, Nat.reduceAdd, Nat.reduceMul, Nat.reduceSub, Int.reduceBNe, Int.reduceBEq, Int.reduceLE, Int.reduceLT, Int.reduceToNat, reduceCtorEq, Nat.zero_ne_one, Nat.one_ne_zero, and_self, and_true, true_and]
        refine ⟨3, _root_.id, Wk.keep (Nat.le_refl _) ?_ trivial, by decide⟩
        simp only [go_sem, AV.bel, belL, iv3, ↓reduceIte, beq_self_eq_true, bne_self_eq_false, Int.reduceAdd, Int.reduceSub, Int.reduceMul, Int.reduceNeg, Int.reduceEq, Int.reduceNe, Int.cast_ofNat_Int, Int.lt_irrefl, Int.le_refl, Nat.reduceEqDiff, Nat.reduceLeDiff, Nat.reduceLT, Int.reducePow, IntKind.bits, Nat.reduceAdd, Nat.reduceMul, Nat.reduceSub, Int.reduceBNe, Int.reduceBEq, Int.reduceLE, Int.reduceLT, Int.reduceToNat, reduceCtorEq, Nat.zero_ne_one, Nat.one_ne_zero, and_self, and_true, true_and]
        rfl
      · simp only [go_sem, k14, k15, k16, k45, k18, Sh.l, Sh.eta, hg, iv2, ↓reduceIte, beq_self_eq_true, bne_self_eq_false, Int.reduceAdd, Int.reduceSub, Int.reduceMul, Int.reduceNeg, Int.reduceEq, Int.reduceNe, Int.cast_ofNat_Int, Int.lt_irrefl, Int.le_refl, Nat.reduceEqDiff, Nat.reduceLeDiff, Nat.reduceLT, Int.reducePow, IntKind.bits, Nat.reduceAdd, Nat.reduceMul, Nat.reduceSub, Int.reduceBNe, Int.reduceBEq, Int.reduceLE, Int.reduceLT, Int.reduceToNat, reduceCtorEq, Nat.zero_ne_one, Nat.one_ne_zero, and_self, and_true, true_and]
        refine ⟨3, _root_.id, Wk.keep (Nat.le_refl _) ?_ trivial, by decide⟩
        simp only [go_sem, AV.bel, belL, iv3, ↓reduceIte, beq_self_eq_true, bne_self_eq_false, Int.reduceAdd, Int.reduceSub, Int.reduceMul, Int.reduceNeg, Int.reduceEq, Int.reduceNe, Int.cast_ofNat_Int, Int.lt_irrefl, Int.le_refl, Nat.reduceEqDiff, Nat.reduceLeDiff, Nat.reduceLT, Int.reducePow, IntKind.bits, Nat.reduceAdd, Nat.reduceMul, Nat.reduceSub, Int.reduceBNe, Int.reduceBEq, Int.reduceLE, Int.reduceLT, Int.reduceToNat, reduceCtorEq, Nat.zero_ne_one, Nat.one_ne_zero, and_self, and_true, true_and]
        rfl
    | 3 =>
      cases hg : (Sh.mk st ky sy la id ba te sp).good
      · simp only [go_sem, k14, k15, k16, k45, k18, Sh.l, Sh.eta, hg, Bool.false_eq_true, iv3, ↓reduceIte, beq_self_eq_true, bne_self_eq_false, Int.reduceAdd, Int.reduceSub, Int.reduceMul, Int.reduceNeg, Int.reduceEq, Int.reduceNe, Int.cast_ofNat_Int, Int.lt_irrefl, Int.le_refl, Nat.reduceEqDiff, Nat.reduceLeDiff, Nat.reduceLT, Int.reducePow, IntKind.bits, Nat.reduceAdd, Nat.reduceMul, Nat.reduceSub, Int.reduceBNe, Int.reduceBEq, Int.reduceLE, Int.reduceLT, Int.reduceToNat, reduceCtorEq, Nat.zero_ne_one, Nat.one_ne_zero, and_self, and_true, true_and]
        refine ⟨4, _root_.id, Wk.keep (Nat.le_refl _) ?_ trivial, by decide⟩
        simp only [go_sem, AV.bel, belL, iv4, ↓reduceIte, beq_self_eq_true, bne_self_eq_false, Int.reduceAdd, Int.reduceSub, Int.reduceMul, Int.reduceNeg, Int.reduceEq, Int.reduceNe, Int.cast_ofNat_Int, Int.lt_irrefl, Int.le_refl, Nat.reduceEqDiff, Nat.reduceLeDiff, Nat.reduceLT, Int.reducePow, IntKind.bits, Nat.reduceAdd, Nat.reduceMul, Nat.reduceSub, Int.reduceBNe, Int.reduceBEq, Int.reduceLE, Int.reduceLT, Int.reduceToNat, reduceCtorEq, Nat.zero_ne_one, Nat.one_ne_zero, and_self, and_true, true_and]
        rfl
      · simp only [go_sem, k14, k15, k16, k45, k18, Sh.l, Sh.eta, hg, iv3, ↓reduceIte, beq_self_eq_true, bne_self_eq_false, Int.reduceAdd, Int.reduceSub, Int.reduceMul, Int.reduceNeg, Int.reduceEq, Int.reduceNe, Int.cast_ofNat_Int, Int.lt_irrefl, Int.le_refl, Nat.reduceEqDiff, Nat.reduceLeDiff, Nat.reduceLT, Int.reducePow, IntKind.bits, Nat.reduceAdd, Nat.reduceMul, Nat.reduceSub, Int.reduceBNe, Int.reduceBEq, Int.reduceLE, Int.reduceLT, Int.reduceToNat, reduceCtorEq, Nat.zero_ne_one, Nat.one_ne_zero, and_self, and_true, true_and]
        refine ⟨4, _root_.id, Wk.keep (Nat.le_refl _) ?_ trivial, by decide⟩
        simp only [go_sem, AV.bel, belL, iv4, ↓reduceIte, beq_self_eq_true, bne_self_eq_false, Int.reduceAdd, Int.reduceSub, Int.reduceMul, Int.reduceNeg, Int.reduceEq, Int.reduceNe, Int.cast_ofNat_Int, Int.lt_irrefl, Int.le_refl, Nat.reduceEqDiff, Nat.reduceLeDiff, Nat.reduceLT, Int.reducePow, IntKind.bits, Nat.reduceAdd, Nat.reduceMul, Nat.reduceSub, Int.reduceBNe, Int.reduceBEq, Int.reduceLE, Int.reduceLT, Int.reduceToNat, reduceCtorEq, Nat.zero_ne_one, Nat.one_ne_zero, and_self, and_true, true_and]
        rfl
    | 4 =>
      simp only [go_sem, k14, k15, k16, k45, k18, Sh.l, Sh.eta, iv4, ↓reduceIte, beq_self_eq_true, bne_self_eq_false, Int.reduceAdd, Int.reduceSub, Int.reduceMul, Int.reduceNeg, Int.reduceEq, Int.reduceNe, Int.cast_ofNat_Int, Int.lt_irrefl, Int.le_refl, Nat.reduceEqDiff, Nat.reduceLeDiff, Nat.reduceLT, Int.reducePow, IntKind.bits, Nat.reduceAdd, Nat.reduceMul, Nat.reduceSub, Int.reduceBNe, Int.reduceBEq, Int.reduceLE, Int.reduceLT, Int.reduceToNat, reduceCtorEq, Nat.zero_ne_one, Nat.one_ne_zero, and_self, and_true, true_and]
      exact Ends.pure rfl
end Go.Proofs.Pic
