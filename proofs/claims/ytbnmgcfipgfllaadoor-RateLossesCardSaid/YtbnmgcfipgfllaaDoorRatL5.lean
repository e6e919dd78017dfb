/- Law 5 of chapter 30, the walk; printed by ratl45.py. -/
import Derived.Test.YtbnmgcfipgfllaaDoorRatD3
namespace Go.Proofs.Rate
open Go.Ab
set_option maxRecDepth 100000
set_option maxHeartbeats 8000000
set_option linter.unusedSimpArgs false
set_option linter.unusedVariables false
def T19 : List (Nat × Ct) := [(10, k10), (21, k21), (22, k21), (23, k23), (24, k23), (18, k18)]
theorem hT19 : Sound Tryd.prog (cxT T19) := Sound.cons s10 <| Sound.cons s21 <| Sound.cons s22 <| Sound.cons s23 <| Sound.cons s24 <| Sound.cons s18 Sound.nil

theorem w5n (a b c : Int) (x y : Bd) (w : Rt) (n0 n1 n2 : Int) (v : Ev) (ha : u32B a = true) (hb : u32B b = true) (hc : u32B c = true) (hx : x.ok = true) (hy : y.ok = true) (hv : v.ok = true) : FTL Tryd.prog 5 [.agg [.i .u32 a, .i .u32 b, .i .u32 c, .ns], .agg (x.l ++ y.l), .agg w.l, .agg [.i .i64 n0, .i .i64 n1, .i .i64 n2], .agg v.l] [(1, gBlk)] 2 (.b true) [] 2 := by
  refine FTL.of_iw hT19 mo' Tryd.func5 i5_eq (by simp [i5]) (iw_of_jw ?_)
  dsimp only [i5, T19]
  unfold gBlk
  have hs := statesL_at (draftS a b c []) x y w
  have hsl := statesL_len (draftS a b c []) x y w
  have hsb : belL 7 (statesL (draftS a b c []) x y w) = true := rfl
  simp only [Ev.ok, decide_eq_true_eq] at hv
  obtain ⟨g1, g2, g3, g4, g5⟩ := hv
  have q1 : IntKind.i64.wrap v.wait = v.wait := wrapL (by omega) (by omega)
  have q2 : IntKind.i64.wrap v.a = v.a := wrapL (by omega) (by omega)
  have q3 : IntKind.i64.wrap v.b = v.b := wrapL (by omega) (by omega)
  have q4 : IntKind.i64.wrap v.small = v.small := wrapL (by omega) (by omega)
  have q5 : v.small.tmod 3 = v.small % 3 := Int.tmod_eq_emod_of_nonneg (by omega)
  have q6 : IntKind.u8.wrap (v.small % 3) = v.small % 3 := wrap_u8 (by omega) (by omega)
  have q7 : IntKind.i64.wrap (v.small % 3) = v.small % 3 := wrapL (by omega) (by omega)
  simp (config := { maxSteps := 400000 }) only [go_sem, evG, hglobC, hglob, k10, bdsV, rtV, Rt.l, Bd.l, Ev.l, Rt.eta, ha, hb, hc, hx, hy, ↓reduceIte, beq_self_eq_true, bne_self_eq_false, Int.reduceAdd, Int.reduceSub, Int.reduceMul, Int.reduceNeg, Int.reduceEq, Int.reduceNe, Int.cast_ofNat_Int, Int.lt_irrefl, Int.le_refl, Nat.reduceEqDiff, Nat.reduceLeDiff, Nat.reduceLT, Int.reducePow, IntKind.bits, Nat.reduceAdd, Nat.reduceMul, Nat.reduceSub, Int.reduceBNe, Int.reduceBEq, Int.reduceLE, Int.reduceLT, Int.reduceToNat, reduceCtorEq, Nat.zero_ne_one, Nat.one_ne_zero, and_self, and_true, true_and, Option.getD_some, Option.isSome_some, wrapL, gt_iff_lt, ge_iff_le, Int.toNat_natCast, Nat.sub_zero, ite_self, spB_TT, Nat.zero_add, Nat.add_zero]
  generalize statesL (draftS a b c []) x y w = SL at *
  refine Loop.count (F := ⟨Tryd.prog, cxT T19, [30, 49, 76, 106, 137], 141, 2⟩) hT19 mo' 4 (fun k => [(29, .i .i64 (k : Int)), (28, .agg SL), (9, .p 6 0), (8, .p 5 0)]) (fun _ => [(6, { cells := [.i .u8 v.what, .i .u8 v.small, .i .u16 v.wait, .i .u32 v.a, .i .u32 v.b] }), (5, { cells := [.i .i64 n0, .i .i64 n1, .i .i64 n2] }), (1, gBlk)]) 7 (by decide) ?_ ?_ (fun k hk => ?_)
  · simp (config := { maxSteps := 400000 }) only [go_sem, AV.bel, belL, nblt, hsb, ↓reduceIte, beq_self_eq_true, bne_self_eq_false, Int.reduceAdd, Int.reduceSub, Int.reduceMul, Int.reduceNeg, Int.reduceEq, Int.reduceNe, Int.cast_ofNat_Int, Int.lt_irrefl, Int.le_refl, Nat.reduceEqDiff, Nat.reduceLeDiff, Nat.reduceLT, Int.reducePow, IntKind.bits, Nat.reduceAdd, Nat.reduceMul, Nat.reduceSub, Int.reduceBNe, Int.reduceBEq, Int.reduceLE, Int.reduceLT, Int.reduceToNat, reduceCtorEq, Nat.zero_ne_one, Nat.one_ne_zero, and_self, and_true, true_and, Option.getD_some, Option.isSome_some, wrapL, gt_iff_lt, ge_iff_le, Int.toNat_natCast, Nat.sub_zero, ite_self, spB_TT, Nat.zero_add, Nat.add_zero]
  · simp (config := { maxSteps := 400000 }) only [go_sem, gBlk, AV.bel, belL, nblt, hsb, ↓reduceIte, beq_self_eq_true, bne_self_eq_false, Int.reduceAdd, Int.reduceSub, Int.reduceMul, Int.reduceNeg, Int.reduceEq, Int.reduceNe, Int.cast_ofNat_Int, Int.lt_irrefl, Int.le_refl, Nat.reduceEqDiff, Nat.reduceLeDiff, Nat.reduceLT, Int.reducePow, IntKind.bits, Nat.reduceAdd, Nat.reduceMul, Nat.reduceSub, Int.reduceBNe, Int.reduceBEq, Int.reduceLE, Int.reduceLT, Int.reduceToNat, reduceCtorEq, Nat.zero_ne_one, Nat.one_ne_zero, and_self, and_true, true_and, Option.getD_some, Option.isSome_some, wrapL, gt_iff_lt, ge_iff_le, Int.toNat_natCast, Nat.sub_zero, ite_self, spB_TT, Nat.zero_add, Nat.add_zero]
  · dsimp only [T19]
    by_cases h4 : k < 4
    · obtain ⟨z, hz⟩ := hs k h4
      have c1 : decide ((k : Int) < 4) = true := decide_eq_true (by omega)
      have c2 : decide (0 ≤ (k : Int) ∧ (k : Int) < 4) = true := decide_eq_true (by omega)
      have c3 : decide (k * 8 ≤ 24) = true := decide_eq_true (by omega)
      have hq : IntKind.i64.wrap ((k : Int) + 1) = ((k + 1 : Nat) : Int) := by rw [wrapL (by omega) (by omega)]; omega
      unfold gBlk
      simp (config := { maxSteps := 400000 }) only [go_sem, evG, hglobC, hglob, c1, c2, c3, hz, hsl, k21, k23, rtV, Rt.l, Rt.eta, q1, q2, q3, q4, q5, q6, q7, Bool.false_eq_true, Int.toNat_natCast, ↓reduceIte, beq_self_eq_true, bne_self_eq_false, Int.reduceAdd, Int.reduceSub, Int.reduceMul, Int.reduceNeg, Int.reduceEq, Int.reduceNe, Int.cast_ofNat_Int, Int.lt_irrefl, Int.le_refl, Nat.reduceEqDiff, Nat.reduceLeDiff, Nat.reduceLT, Int.reducePow, IntKind.bits, Nat.reduceAdd, Nat.reduceMul, Nat.reduceSub, Int.reduceBNe, Int.reduceBEq, Int.reduceLE, Int.reduceLT, Int.reduceToNat, reduceCtorEq, Nat.zero_ne_one, Nat.one_ne_zero, and_self, and_true, true_and, Option.getD_some, Option.isSome_some, wrapL, gt_iff_lt, ge_iff_le, Int.toNat_natCast, Nat.sub_zero, ite_self, spB_TT, Nat.zero_add, Nat.add_zero]
      refine Loop.rounds (F := ⟨Tryd.prog, cxT T19, [30, 49, 76, 106, 137], 141, 2⟩) 3 hT19 mo' ?_
      dsimp only [T19]
      simp (config := { maxSteps := 400000 }) only [go_sem, evG, hglobC, hglob, c1, c2, c3, hz, hsl, k21, k23, rtV, Rt.l, Rt.eta, q1, q2, q3, q4, q5, q6, q7, Int.toNat_natCast, ↓reduceIte, beq_self_eq_true, bne_self_eq_false, Int.reduceAdd, Int.reduceSub, Int.reduceMul, Int.reduceNeg, Int.reduceEq, Int.reduceNe, Int.cast_ofNat_Int, Int.lt_irrefl, Int.le_refl, Nat.reduceEqDiff, Nat.reduceLeDiff, Nat.reduceLT, Int.reducePow, IntKind.bits, Nat.reduceAdd, Nat.reduceMul, Nat.reduceSub, Int.reduceBNe, Int.reduceBEq, Int.reduceLE, Int.reduceLT, Int.reduceToNat, reduceCtorEq, Nat.zero_ne_one, Nat.one_ne_zero, and_self, and_true, true_and, Option.getD_some, Option.isSome_some, wrapL, gt_iff_lt, ge_iff_le, Int.toNat_natCast, Nat.sub_zero, ite_self, spB_TT, Nat.zero_add, Nat.add_zero]
      refine Loop.rounds (F := ⟨Tryd.prog, cxT T19, [30, 49, 76, 106, 137], 141, 2⟩) 4 hT19 mo' ?_
      dsimp only [T19]
      simp (config := { maxSteps := 400000 }) only [go_sem, evG, hglobC, hglob, c1, c2, c3, hz, hsl, k21, k23, rtV, Rt.l, Rt.eta, hq, h4, AV.bel, belL, nblt, hsb, Int.toNat_natCast, ↓reduceIte, beq_self_eq_true, bne_self_eq_false, Int.reduceAdd, Int.reduceSub, Int.reduceMul, Int.reduceNeg, Int.reduceEq, Int.reduceNe, Int.cast_ofNat_Int, Int.lt_irrefl, Int.le_refl, Nat.reduceEqDiff, Nat.reduceLeDiff, Nat.reduceLT, Int.reducePow, IntKind.bits, Nat.reduceAdd, Nat.reduceMul, Nat.reduceSub, Int.reduceBNe, Int.reduceBEq, Int.reduceLE, Int.reduceLT, Int.reduceToNat, reduceCtorEq, Nat.zero_ne_one, Nat.one_ne_zero, and_self, and_true, true_and, Option.getD_some, Option.isSome_some, wrapL, gt_iff_lt, ge_iff_le, Int.toNat_natCast, Nat.sub_zero, ite_self, spB_TT, Nat.zero_add, Nat.add_zero]
    · have c1 : decide ((k : Int) < 4) = false := decide_eq_false (by omega)
      unfold gBlk
      simp (config := { maxSteps := 400000 }) only [go_sem, evG, hglobC, hglob, c1, k18, gAt, gIs, ↓reduceIte, beq_self_eq_true, bne_self_eq_false, Int.reduceAdd, Int.reduceSub, Int.reduceMul, Int.reduceNeg, Int.reduceEq, Int.reduceNe, Int.cast_ofNat_Int, Int.lt_irrefl, Int.le_refl, Nat.reduceEqDiff, Nat.reduceLeDiff, Nat.reduceLT, Int.reducePow, IntKind.bits, Nat.reduceAdd, Nat.reduceMul, Nat.reduceSub, Int.reduceBNe, Int.reduceBEq, Int.reduceLE, Int.reduceLT, Int.reduceToNat, reduceCtorEq, Nat.zero_ne_one, Nat.one_ne_zero, and_self, and_true, true_and, Option.getD_some, Option.isSome_some, wrapL, gt_iff_lt, ge_iff_le, Int.toNat_natCast, Nat.sub_zero, ite_self, spB_TT, Nat.zero_add, Nat.add_zero]
      exact Ends.pure rfl

theorem w5s (a b c : Int) (l : List Ev) (cap : Nat) (hl : l.all Ev.ok = true) (x y : Bd) (w : Rt) (n0 n1 n2 : Int) (v : Ev) (ha : u32B a = true) (hb : u32B b = true) (hc : u32B c = true) (hx : x.ok = true) (hy : y.ok = true) (hv : v.ok = true) : FTL Tryd.prog 5 [.agg [.i .u32 a, .i .u32 b, .i .u32 c, .sl 0 0 l.length cap], .agg (x.l ++ y.l), .agg w.l, .agg [.i .i64 n0, .i .i64 n1, .i .i64 n2], .agg v.l] [(0, { cells := rows Ev.l l, ro := true }), (1, gBlk)] 2 (.b true) [] 2 := by
  refine FTL.of_iw hT19 mo' Tryd.func5 i5_eq (by simp [i5]) (iw_of_jw ?_)
  dsimp only [i5, T19]
  unfold gBlk
  have hu := evsB_rows l true
  have hEb : belL 7 (rows Ev.l l) = true := belL_mono0 _ (rows_bel Ev.l_bel)
  generalize rows Ev.l l = EL at *
  have hs := statesL_at (draftS a b c l) x y w
  have hsl := statesL_len (draftS a b c l) x y w
  have hsb : belL 7 (statesL (draftS a b c l) x y w) = true := rfl
  simp only [Ev.ok, decide_eq_true_eq] at hv
  obtain ⟨g1, g2, g3, g4, g5⟩ := hv
  have q1 : IntKind.i64.wrap v.wait = v.wait := wrapL (by omega) (by omega)
  have q2 : IntKind.i64.wrap v.a = v.a := wrapL (by omega) (by omega)
  have q3 : IntKind.i64.wrap v.b = v.b := wrapL (by omega) (by omega)
  have q4 : IntKind.i64.wrap v.small = v.small := wrapL (by omega) (by omega)
  have q5 : v.small.tmod 3 = v.small % 3 := Int.tmod_eq_emod_of_nonneg (by omega)
  have q6 : IntKind.u8.wrap (v.small % 3) = v.small % 3 := wrap_u8 (by omega) (by omega)
  have q7 : IntKind.i64.wrap (v.small % 3) = v.small % 3 := wrapL (by omega) (by omega)
  simp (config := { maxSteps := 400000 }) only [go_sem, evG, hglobC, hglob, k10, bdsV, rtV, Rt.l, Bd.l, Ev.l, Rt.eta, ha, hb, hc, hx, hy, hu, hl, hEb, ↓reduceIte, beq_self_eq_true, bne_self_eq_false, Int.reduceAdd, Int.reduceSub, Int.reduceMul, Int.reduceNeg, Int.reduceEq, Int.reduceNe, Int.cast_ofNat_Int, Int.lt_irrefl, Int.le_refl, Nat.reduceEqDiff, Nat.reduceLeDiff, Nat.reduceLT, Int.reducePow, IntKind.bits, Nat.reduceAdd, Nat.reduceMul, Nat.reduceSub, Int.reduceBNe, Int.reduceBEq, Int.reduceLE, Int.reduceLT, Int.reduceToNat, reduceCtorEq, Nat.zero_ne_one, Nat.one_ne_zero, and_self, and_true, true_and, Option.getD_some, Option.isSome_some, wrapL, gt_iff_lt, ge_iff_le, Int.toNat_natCast, Nat.sub_zero, ite_self, spB_TT, Nat.zero_add, Nat.add_zero]
  generalize statesL (draftS a b c l) x y w = SL at *
  refine Loop.count (F := ⟨Tryd.prog, cxT T19, [30, 49, 76, 106, 137], 141, 2⟩) hT19 mo' 4 (fun k => [(29, .i .i64 (k : Int)), (28, .agg SL), (9, .p 6 0), (8, .p 5 0)]) (fun _ => [(6, { cells := [.i .u8 v.what, .i .u8 v.small, .i .u16 v.wait, .i .u32 v.a, .i .u32 v.b] }), (5, { cells := [.i .i64 n0, .i .i64 n1, .i .i64 n2] }), (0, { cells := EL, ro := true }), (1, gBlk)]) 7 (by decide) ?_ ?_ (fun k hk => ?_)
  · simp (config := { maxSteps := 400000 }) only [go_sem, AV.bel, belL, nblt, hsb, ↓reduceIte, beq_self_eq_true, bne_self_eq_false, Int.reduceAdd, Int.reduceSub, Int.reduceMul, Int.reduceNeg, Int.reduceEq, Int.reduceNe, Int.cast_ofNat_Int, Int.lt_irrefl, Int.le_refl, Nat.reduceEqDiff, Nat.reduceLeDiff, Nat.reduceLT, Int.reducePow, IntKind.bits, Nat.reduceAdd, Nat.reduceMul, Nat.reduceSub, Int.reduceBNe, Int.reduceBEq, Int.reduceLE, Int.reduceLT, Int.reduceToNat, reduceCtorEq, Nat.zero_ne_one, Nat.one_ne_zero, and_self, and_true, true_and, Option.getD_some, Option.isSome_some, wrapL, gt_iff_lt, ge_iff_le, Int.toNat_natCast, Nat.sub_zero, ite_self, spB_TT, Nat.zero_add, Nat.add_zero]
  · simp (config := { maxSteps := 400000 }) only [go_sem, gBlk, AV.bel, belL, nblt, hsb, hu, hl, hEb, ↓reduceIte, beq_self_eq_true, bne_self_eq_false, Int.reduceAdd, Int.reduceSub, Int.reduceMul, Int.reduceNeg, Int.reduceEq, Int.reduceNe, Int.cast_ofNat_Int, Int.lt_irrefl, Int.le_refl, Nat.reduceEqDiff, Nat.reduceLeDiff, Nat.reduceLT, Int.reducePow, IntKind.bits, Nat.reduceAdd, Nat.reduceMul, Nat.reduceSub, Int.reduceBNe, Int.reduceBEq, Int.reduceLE, Int.reduceLT, Int.reduceToNat, reduceCtorEq, Nat.zero_ne_one, Nat.one_ne_zero, and_self, and_true, true_and, Option.getD_some, Option.isSome_some, wrapL, gt_iff_lt, ge_iff_le, Int.toNat_natCast, Nat.sub_zero, ite_self, spB_TT, Nat.zero_add, Nat.add_zero]
  · dsimp only [T19]
    by_cases h4 : k < 4
    · obtain ⟨z, hz⟩ := hs k h4
      have c1 : decide ((k : Int) < 4) = true := decide_eq_true (by omega)
      have c2 : decide (0 ≤ (k : Int) ∧ (k : Int) < 4) = true := decide_eq_true (by omega)
      have c3 : decide (k * 8 ≤ 24) = true := decide_eq_true (by omega)
      have hq : IntKind.i64.wrap ((k : Int) + 1) = ((k + 1 : Nat) : Int) := by rw [wrapL (by omega) (by omega)]; omega
      unfold gBlk
      simp (config := { maxSteps := 400000 }) only [go_sem, evG, hglobC, hglob, c1, c2, c3, hz, hsl, k21, k23, rtV, Rt.l, Rt.eta, q1, q2, q3, q4, q5, q6, q7, Bool.false_eq_true, Int.toNat_natCast, hu, hl, hEb, ↓reduceIte, beq_self_eq_true, bne_self_eq_false, Int.reduceAdd, Int.reduceSub, Int.reduceMul, Int.reduceNeg, Int.reduceEq, Int.reduceNe, Int.cast_ofNat_Int, Int.lt_irrefl, Int.le_refl, Nat.reduceEqDiff, Nat.reduceLeDiff, Nat.reduceLT, Int.reducePow, IntKind.bits, Nat.reduceAdd, Nat.reduceMul, Nat.reduceSub, Int.reduceBNe, Int.reduceBEq, Int.reduceLE, Int.reduceLT, Int.reduceToNat, reduceCtorEq, Nat.zero_ne_one, Nat.one_ne_zero, and_self, and_true, true_and, Option.getD_some, Option.isSome_some, wrapL, gt_iff_lt, ge_iff_le, Int.toNat_natCast, Nat.sub_zero, ite_self, spB_TT, Nat.zero_add, Nat.add_zero]
      refine Loop.rounds (F := ⟨Tryd.prog, cxT T19, [30, 49, 76, 106, 137], 141, 2⟩) 3 hT19 mo' ?_
      dsimp only [T19]
      simp (config := { maxSteps := 400000 }) only [go_sem, evG, hglobC, hglob, c1, c2, c3, hz, hsl, k21, k23, rtV, Rt.l, Rt.eta, q1, q2, q3, q4, q5, q6, q7, Int.toNat_natCast, hu, hl, hEb, ↓reduceIte, beq_self_eq_true, bne_self_eq_false, Int.reduceAdd, Int.reduceSub, Int.reduceMul, Int.reduceNeg, Int.reduceEq, Int.reduceNe, Int.cast_ofNat_Int, Int.lt_irrefl, Int.le_refl, Nat.reduceEqDiff, Nat.reduceLeDiff, Nat.reduceLT, Int.reducePow, IntKind.bits, Nat.reduceAdd, Nat.reduceMul, Nat.reduceSub, Int.reduceBNe, Int.reduceBEq, Int.reduceLE, Int.reduceLT, Int.reduceToNat, reduceCtorEq, Nat.zero_ne_one, Nat.one_ne_zero, and_self, and_true, true_and, Option.getD_some, Option.isSome_some, wrapL, gt_iff_lt, ge_iff_le, Int.toNat_natCast, Nat.sub_zero, ite_self, spB_TT, Nat.zero_add, Nat.add_zero]
      refine Loop.rounds (F := ⟨Tryd.prog, cxT T19, [30, 49, 76, 106, 137], 141, 2⟩) 4 hT19 mo' ?_
      dsimp only [T19]
      simp (config := { maxSteps := 400000 }) only [go_sem, evG, hglobC, hglob, c1, c2, c3, hz, hsl, k21, k23, rtV, Rt.l, Rt.eta, hq, h4, AV.bel, belL, nblt, hsb, Int.toNat_natCast, hu, hl, hEb, ↓reduceIte, beq_self_eq_true, bne_self_eq_false, Int.reduceAdd, Int.reduceSub, Int.reduceMul, Int.reduceNeg, Int.reduceEq, Int.reduceNe, Int.cast_ofNat_Int, Int.lt_irrefl, Int.le_refl, Nat.reduceEqDiff, Nat.reduceLeDiff, Nat.reduceLT, Int.reducePow, IntKind.bits, Nat.reduceAdd, Nat.reduceMul, Nat.reduceSub, Int.reduceBNe, Int.reduceBEq, Int.reduceLE, Int.reduceLT, Int.reduceToNat, reduceCtorEq, Nat.zero_ne_one, Nat.one_ne_zero, and_self, and_true, true_and, Option.getD_some, Option.isSome_some, wrapL, gt_iff_lt, ge_iff_le, Int.toNat_natCast, Nat.sub_zero, ite_self, spB_TT, Nat.zero_add, Nat.add_zero]
    · have c1 : decide ((k : Int) < 4) = false := decide_eq_false (by omega)
      unfold gBlk
      simp (config := { maxSteps := 400000 }) only [go_sem, evG, hglobC, hglob, c1, k18, gAt, gIs, hu, hl, hEb, ↓reduceIte, beq_self_eq_true, bne_self_eq_false, Int.reduceAdd, Int.reduceSub, Int.reduceMul, Int.reduceNeg, Int.reduceEq, Int.reduceNe, Int.cast_ofNat_Int, Int.lt_irrefl, Int.le_refl, Nat.reduceEqDiff, Nat.reduceLeDiff, Nat.reduceLT, Int.reducePow, IntKind.bits, Nat.reduceAdd, Nat.reduceMul, Nat.reduceSub, Int.reduceBNe, Int.reduceBEq, Int.reduceLE, Int.reduceLT, Int.reduceToNat, reduceCtorEq, Nat.zero_ne_one, Nat.one_ne_zero, and_self, and_true, true_and, Option.getD_some, Option.isSome_some, wrapL, gt_iff_lt, ge_iff_le, Int.toNat_natCast, Nat.sub_zero, ite_self, spB_TT, Nat.zero_add, Nat.add_zero]
      exact Ends.pure rfl
end Go.Proofs.Rate
