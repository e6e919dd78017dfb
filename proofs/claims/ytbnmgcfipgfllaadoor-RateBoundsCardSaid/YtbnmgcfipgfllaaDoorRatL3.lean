/- Law 3 of chapter 30, the walk; printed by ratl3.py. -/
import Derived.Test.YtbnmgcfipgfllaaDoorRatD3
namespace Go.Proofs.Rate
open Go.Ab
set_option maxRecDepth 100000
set_option maxHeartbeats 8000000
set_option linter.unusedSimpArgs false
set_option linter.unusedVariables false
def T17 : List (Nat × Ct) := [(10, k10), (11, k11), (12, k12), (13, k13), (14, k13), (15, k15), (16, k16), (17, k16), (18, k18)]
theorem hT17 : Sound Tryd.prog (cxT T17) := Sound.cons s10 <| Sound.cons s11 <| Sound.cons s12 <| Sound.cons s13 <| Sound.cons s14 <| Sound.cons s15 <| Sound.cons s16 <| Sound.cons s17 <| Sound.cons s18 Sound.nil
theorem beq300 (b : Bool) : ((if b = true then (0 : Int) else 300) == 0) = b := by cases b <;> rfl

theorem w3n (a b c : Int) (x y : Bd) (w : Rt) (n0 n1 n2 wt : Int) (ha : u32B a = true) (hb : u32B b = true) (hc : u32B c = true) (hx : x.ok = true) (hy : y.ok = true) (hw1 : 0 ≤ wt) (hw2 : wt ≤ 65535) : FTL Tryd.prog 3 [.agg [.i .u32 a, .i .u32 b, .i .u32 c, .ns], .agg (x.l ++ y.l), .agg w.l, .agg [.i .i64 n0, .i .i64 n1, .i .i64 n2], .i .u16 wt] [(1, gBlk)] 2 (.b true) [] 2 := by
  refine FTL.of_iw hT17 mo' Tryd.func3 i3_eq (by simp [i3]) (iw_of_jw ?_)
  dsimp only [i3, T17]
  unfold gBlk
  have hs := statesL_at (draftS a b c []) x y w
  have hsl := statesL_len (draftS a b c []) x y w
  have hsb : belL 6 (statesL (draftS a b c []) x y w) = true := rfl
  have q0 : IntKind.i64.wrap wt = wt := wrapL (by omega) (by omega)
  simp (config := { maxSteps := 400000 }) only [go_sem, evG, hglobC, hglob, k10, bdsV, rtV, Rt.l, Bd.l, Rt.eta, ha, hb, hc, hx, hy, ↓reduceIte, beq_self_eq_true, bne_self_eq_false, Int.reduceAdd, Int.reduceSub, Int.reduceMul, Int.reduceNeg, Int.reduceEq, Int.reduceNe, Int.cast_ofNat_Int, Int.lt_irrefl, Int.le_refl, Nat.reduceEqDiff, Nat.reduceLeDiff, Nat.reduceLT, Int.reducePow, IntKind.bits, Nat.reduceAdd, Nat.reduceMul, Nat.reduceSub, Int.reduceBNe, Int.reduceBEq, Int.reduceLE, Int.reduceLT, Int.reduceToNat, reduceCtorEq, Nat.zero_ne_one, Nat.one_ne_zero, and_self, and_true, true_and, Option.getD_some, Option.isSome_some, wrapL, gt_iff_lt, ge_iff_le, Int.toNat_natCast, Nat.sub_zero, ite_self, spB_TT, Nat.zero_add, Nat.add_zero]
  generalize statesL (draftS a b c []) x y w = SL at *
  refine Loop.count (F := ⟨Tryd.prog, cxT T17, [34, 50, 60, 89, 110, 139], 142, 2⟩) hT17 mo' 4 (fun k => [(33, .i .i64 (k : Int)), (32, .agg SL), (8, .p 5 0), (5, .p 2 0), (4, .i .u16 wt)]) (fun _ => [(5, { cells := [.i .i64 n0, .i .i64 n1, .i .i64 n2] }), (2, { cells := [.i .u32 a, .i .u32 b, .i .u32 c, .ns] }), (1, gBlk)]) 6 (by decide) ?_ ?_ (fun k hk => ?_)
  · simp (config := { maxSteps := 400000 }) only [go_sem, AV.bel, belL, nblt, hsb, ↓reduceIte, beq_self_eq_true, bne_self_eq_false, Int.reduceAdd, Int.reduceSub, Int.reduceMul, Int.reduceNeg, Int.reduceEq, Int.reduceNe, Int.cast_ofNat_Int, Int.lt_irrefl, Int.le_refl, Nat.reduceEqDiff, Nat.reduceLeDiff, Nat.reduceLT, Int.reducePow, IntKind.bits, Nat.reduceAdd, Nat.reduceMul, Nat.reduceSub, Int.reduceBNe, Int.reduceBEq, Int.reduceLE, Int.reduceLT, Int.reduceToNat, reduceCtorEq, Nat.zero_ne_one, Nat.one_ne_zero, and_self, and_true, true_and, Option.getD_some, Option.isSome_some, wrapL, gt_iff_lt, ge_iff_le, Int.toNat_natCast, Nat.sub_zero, ite_self, spB_TT, Nat.zero_add, Nat.add_zero]
  · simp (config := { maxSteps := 400000 }) only [go_sem, gBlk, AV.bel, belL, nblt, hsb, ↓reduceIte, beq_self_eq_true, bne_self_eq_false, Int.reduceAdd, Int.reduceSub, Int.reduceMul, Int.reduceNeg, Int.reduceEq, Int.reduceNe, Int.cast_ofNat_Int, Int.lt_irrefl, Int.le_refl, Nat.reduceEqDiff, Nat.reduceLeDiff, Nat.reduceLT, Int.reducePow, IntKind.bits, Nat.reduceAdd, Nat.reduceMul, Nat.reduceSub, Int.reduceBNe, Int.reduceBEq, Int.reduceLE, Int.reduceLT, Int.reduceToNat, reduceCtorEq, Nat.zero_ne_one, Nat.one_ne_zero, and_self, and_true, true_and, Option.getD_some, Option.isSome_some, wrapL, gt_iff_lt, ge_iff_le, Int.toNat_natCast, Nat.sub_zero, ite_self, spB_TT, Nat.zero_add, Nat.add_zero]
  · dsimp only [T17]
    by_cases h4 : k < 4
    · obtain ⟨z, hz⟩ := hs k h4
      have c1 : decide ((k : Int) < 4) = true := decide_eq_true (by omega)
      have c2 : decide (0 ≤ (k : Int) ∧ (k : Int) < 4) = true := decide_eq_true (by omega)
      have c3 : decide (k * 8 ≤ 24) = true := decide_eq_true (by omega)
      have hq : IntKind.i64.wrap ((k : Int) + 1) = ((k + 1 : Nat) : Int) := by rw [wrapL (by omega) (by omega)]; omega
      cases hg : z.good
      all_goals
        unfold gBlk
        simp (config := { maxSteps := 400000 }) only [go_sem, evG, hglobC, hglob, c1, c2, c3, hz, hsl, k11, k12, k13, rtV, Rt.l, Rt.eta, hg, q0, Bool.false_eq_true, Int.toNat_natCast, ↓reduceIte, beq_self_eq_true, bne_self_eq_false, Int.reduceAdd, Int.reduceSub, Int.reduceMul, Int.reduceNeg, Int.reduceEq, Int.reduceNe, Int.cast_ofNat_Int, Int.lt_irrefl, Int.le_refl, Nat.reduceEqDiff, Nat.reduceLeDiff, Nat.reduceLT, Int.reducePow, IntKind.bits, Nat.reduceAdd, Nat.reduceMul, Nat.reduceSub, Int.reduceBNe, Int.reduceBEq, Int.reduceLE, Int.reduceLT, Int.reduceToNat, reduceCtorEq, Nat.zero_ne_one, Nat.one_ne_zero, and_self, and_true, true_and, Option.getD_some, Option.isSome_some, wrapL, gt_iff_lt, ge_iff_le, Int.toNat_natCast, Nat.sub_zero, ite_self, spB_TT, Nat.zero_add, Nat.add_zero]
        refine Loop.rounds (F := ⟨Tryd.prog, cxT T17, [34, 50, 60, 89, 110, 139], 142, 2⟩) 3 hT17 mo' ?_
        dsimp only [T17]
        simp (config := { maxSteps := 400000 }) only [go_sem, evG, hglobC, hglob, c1, c2, c3, hz, hsl, k11, k12, k13, rtV, Rt.l, Rt.eta, hg, q0, hq, h4, AV.bel, belL, nblt, hsb, Int.toNat_natCast, ↓reduceIte, beq_self_eq_true, bne_self_eq_false, Int.reduceAdd, Int.reduceSub, Int.reduceMul, Int.reduceNeg, Int.reduceEq, Int.reduceNe, Int.cast_ofNat_Int, Int.lt_irrefl, Int.le_refl, Nat.reduceEqDiff, Nat.reduceLeDiff, Nat.reduceLT, Int.reducePow, IntKind.bits, Nat.reduceAdd, Nat.reduceMul, Nat.reduceSub, Int.reduceBNe, Int.reduceBEq, Int.reduceLE, Int.reduceLT, Int.reduceToNat, reduceCtorEq, Nat.zero_ne_one, Nat.one_ne_zero, and_self, and_true, true_and, Option.getD_some, Option.isSome_some, wrapL, gt_iff_lt, ge_iff_le, Int.toNat_natCast, Nat.sub_zero, ite_self, spB_TT, Nat.zero_add, Nat.add_zero]
    · have c1 : decide ((k : Int) < 4) = false := decide_eq_false (by omega)
      unfold gBlk
      simp (config := { maxSteps := 400000 }) only [go_sem, c1, k15, ha, hb, hc, ↓reduceIte, beq_self_eq_true, bne_self_eq_false, Int.reduceAdd, Int.reduceSub, Int.reduceMul, Int.reduceNeg, Int.reduceEq, Int.reduceNe, Int.cast_ofNat_Int, Int.lt_irrefl, Int.le_refl, Nat.reduceEqDiff, Nat.reduceLeDiff, Nat.reduceLT, Int.reducePow, IntKind.bits, Nat.reduceAdd, Nat.reduceMul, Nat.reduceSub, Int.reduceBNe, Int.reduceBEq, Int.reduceLE, Int.reduceLT, Int.reduceToNat, reduceCtorEq, Nat.zero_ne_one, Nat.one_ne_zero, and_self, and_true, true_and, Option.getD_some, Option.isSome_some, wrapL, gt_iff_lt, ge_iff_le, Int.toNat_natCast, Nat.sub_zero, ite_self, spB_TT, Nat.zero_add, Nat.add_zero]
      refine Loop.rounds (F := ⟨Tryd.prog, cxT T17, [34, 50, 60, 89, 110, 139], 142, 2⟩) 4 hT17 mo' ?_
      dsimp only [T17]
      simp (config := { maxSteps := 400000 }) only [go_sem, evG, hglobC, hglob, k16, k18, gAt, gIs, Rt.l, ↓reduceIte, beq_self_eq_true, bne_self_eq_false, Int.reduceAdd, Int.reduceSub, Int.reduceMul, Int.reduceNeg, Int.reduceEq, Int.reduceNe, Int.cast_ofNat_Int, Int.lt_irrefl, Int.le_refl, Nat.reduceEqDiff, Nat.reduceLeDiff, Nat.reduceLT, Int.reducePow, IntKind.bits, Nat.reduceAdd, Nat.reduceMul, Nat.reduceSub, Int.reduceBNe, Int.reduceBEq, Int.reduceLE, Int.reduceLT, Int.reduceToNat, reduceCtorEq, Nat.zero_ne_one, Nat.one_ne_zero, and_self, and_true, true_and, Option.getD_some, Option.isSome_some, wrapL, gt_iff_lt, ge_iff_le, Int.toNat_natCast, Nat.sub_zero, ite_self, spB_TT, Nat.zero_add, Nat.add_zero]
      exact Ends.pure rfl

theorem w3s (a b c : Int) (l : List Ev) (cap : Nat) (hl : l.all Ev.ok = true) (x y : Bd) (w : Rt) (n0 n1 n2 wt : Int) (ha : u32B a = true) (hb : u32B b = true) (hc : u32B c = true) (hx : x.ok = true) (hy : y.ok = true) (hw1 : 0 ≤ wt) (hw2 : wt ≤ 65535) : FTL Tryd.prog 3 [.agg [.i .u32 a, .i .u32 b, .i .u32 c, .sl 0 0 l.length cap], .agg (x.l ++ y.l), .agg w.l, .agg [.i .i64 n0, .i .i64 n1, .i .i64 n2], .i .u16 wt] [(0, { cells := rows Ev.l l, ro := true }), (1, gBlk)] 2 (.b true) [] 2 := by
  refine FTL.of_iw hT17 mo' Tryd.func3 i3_eq (by simp [i3]) (iw_of_jw ?_)
  dsimp only [i3, T17]
  unfold gBlk
  have hu := evsB_rows l true
  have hEb : belL 6 (rows Ev.l l) = true := belL_mono0 _ (rows_bel Ev.l_bel)
  generalize rows Ev.l l = EL at *
  have hs := statesL_at (draftS a b c l) x y w
  have hsl := statesL_len (draftS a b c l) x y w
  have hsb : belL 6 (statesL (draftS a b c l) x y w) = true := rfl
  have q0 : IntKind.i64.wrap wt = wt := wrapL (by omega) (by omega)
  simp (config := { maxSteps := 400000 }) only [go_sem, evG, hglobC, hglob, k10, bdsV, rtV, Rt.l, Bd.l, Rt.eta, ha, hb, hc, hx, hy, hu, hl, hEb, ↓reduceIte, beq_self_eq_true, bne_self_eq_false, Int.reduceAdd, Int.reduceSub, Int.reduceMul, Int.reduceNeg, Int.reduceEq, Int.reduceNe, Int.cast_ofNat_Int, Int.lt_irrefl, Int.le_refl, Nat.reduceEqDiff, Nat.reduceLeDiff, Nat.reduceLT, Int.reducePow, IntKind.bits, Nat.reduceAdd, Nat.reduceMul, Nat.reduceSub, Int.reduceBNe, Int.reduceBEq, Int.reduceLE, Int.reduceLT, Int.reduceToNat, reduceCtorEq, Nat.zero_ne_one, Nat.one_ne_zero, and_self, and_true, true_and, Option.getD_some, Option.isSome_some, wrapL, gt_iff_lt, ge_iff_le, Int.toNat_natCast, Nat.sub_zero, ite_self, spB_TT, Nat.zero_add, Nat.add_zero]
  generalize statesL (draftS a b c l) x y w = SL at *
  refine Loop.count (F := ⟨Tryd.prog, cxT T17, [34, 50, 60, 89, 110, 139], 142, 2⟩) hT17 mo' 4 (fun k => [(33, .i .i64 (k : Int)), (32, .agg SL), (8, .p 5 0), (5, .p 2 0), (4, .i .u16 wt)]) (fun _ => [(5, { cells := [.i .i64 n0, .i .i64 n1, .i .i64 n2] }), (2, { cells := [.i .u32 a, .i .u32 b, .i .u32 c, .sl 0 0 l.length cap] }), (0, { cells := EL, ro := true }), (1, gBlk)]) 6 (by decide) ?_ ?_ (fun k hk => ?_)
  · simp (config := { maxSteps := 400000 }) only [go_sem, AV.bel, belL, nblt, hsb, ↓reduceIte, beq_self_eq_true, bne_self_eq_false, Int.reduceAdd, Int.reduceSub, Int.reduceMul, Int.reduceNeg, Int.reduceEq, Int.reduceNe, Int.cast_ofNat_Int, Int.lt_irrefl, Int.le_refl, Nat.reduceEqDiff, Nat.reduceLeDiff, Nat.reduceLT, Int.reducePow, IntKind.bits, Nat.reduceAdd, Nat.reduceMul, Nat.reduceSub, Int.reduceBNe, Int.reduceBEq, Int.reduceLE, Int.reduceLT, Int.reduceToNat, reduceCtorEq, Nat.zero_ne_one, Nat.one_ne_zero, and_self, and_true, true_and, Option.getD_some, Option.isSome_some, wrapL, gt_iff_lt, ge_iff_le, Int.toNat_natCast, Nat.sub_zero, ite_self, spB_TT, Nat.zero_add, Nat.add_zero]
  · simp (config := { maxSteps := 400000 }) only [go_sem, gBlk, AV.bel, belL, nblt, hsb, hu, hl, hEb, ↓reduceIte, beq_self_eq_true, bne_self_eq_false, Int.reduceAdd, Int.reduceSub, Int.reduceMul, Int.reduceNeg, Int.reduceEq, Int.reduceNe, Int.cast_ofNat_Int, Int.lt_irrefl, Int.le_refl, Nat.reduceEqDiff, Nat.reduceLeDiff, Nat.reduceLT, Int.reducePow, IntKind.bits, Nat.reduceAdd, Nat.reduceMul, Nat.reduceSub, Int.reduceBNe, Int.reduceBEq, Int.reduceLE, Int.reduceLT, Int.reduceToNat, reduceCtorEq, Nat.zero_ne_one, Nat.one_ne_zero, and_self, and_true, true_and, Option.getD_some, Option.isSome_some, wrapL, gt_iff_lt, ge_iff_le, Int.toNat_natCast, Nat.sub_zero, ite_self, spB_TT, Nat.zero_add, Nat.add_zero]
  · dsimp only [T17]
    by_cases h4 : k < 4
    · obtain ⟨z, hz⟩ := hs k h4
      have c1 : decide ((k : Int) < 4) = true := decide_eq_true (by omega)
      have c2 : decide (0 ≤ (k : Int) ∧ (k : Int) < 4) = true := decide_eq_true (by omega)
      have c3 : decide (k * 8 ≤ 24) = true := decide_eq_true (by omega)
      have hq : IntKind.i64.wrap ((k : Int) + 1) = ((k + 1 : Nat) : Int) := by rw [wrapL (by omega) (by omega)]; omega
      cases hg : z.good
      all_goals
        unfold gBlk
        simp (config := { maxSteps := 400000 }) only [go_sem, evG, hglobC, hglob, c1, c2, c3, hz, hsl, k11, k12, k13, rtV, Rt.l, Rt.eta, hg, q0, Bool.false_eq_true, Int.toNat_natCast, hu, hl, hEb, ↓reduceIte, beq_self_eq_true, bne_self_eq_false, Int.reduceAdd, Int.reduceSub, Int.reduceMul, Int.reduceNeg, Int.reduceEq, Int.reduceNe, Int.cast_ofNat_Int, Int.lt_irrefl, Int.le_refl, Nat.reduceEqDiff, Nat.reduceLeDiff, Nat.reduceLT, Int.reducePow, IntKind.bits, Nat.reduceAdd, Nat.reduceMul, Nat.reduceSub, Int.reduceBNe, Int.reduceBEq, Int.reduceLE, Int.reduceLT, Int.reduceToNat, reduceCtorEq, Nat.zero_ne_one, Nat.one_ne_zero, and_self, and_true, true_and, Option.getD_some, Option.isSome_some, wrapL, gt_iff_lt, ge_iff_le, Int.toNat_natCast, Nat.sub_zero, ite_self, spB_TT, Nat.zero_add, Nat.add_zero]
        refine Loop.rounds (F := ⟨Tryd.prog, cxT T17, [34, 50, 60, 89, 110, 139], 142, 2⟩) 3 hT17 mo' ?_
        dsimp only [T17]
        simp (config := { maxSteps := 400000 }) only [go_sem, evG, hglobC, hglob, c1, c2, c3, hz, hsl, k11, k12, k13, rtV, Rt.l, Rt.eta, hg, q0, hq, h4, AV.bel, belL, nblt, hsb, Int.toNat_natCast, hu, hl, hEb, ↓reduceIte, beq_self_eq_true, bne_self_eq_false, Int.reduceAdd, Int.reduceSub, Int.reduceMul, Int.reduceNeg, Int.reduceEq, Int.reduceNe, Int.cast_ofNat_Int, Int.lt_irrefl, Int.le_refl, Nat.reduceEqDiff, Nat.reduceLeDiff, Nat.reduceLT, Int.reducePow, IntKind.bits, Nat.reduceAdd, Nat.reduceMul, Nat.reduceSub, Int.reduceBNe, Int.reduceBEq, Int.reduceLE, Int.reduceLT, Int.reduceToNat, reduceCtorEq, Nat.zero_ne_one, Nat.one_ne_zero, and_self, and_true, true_and, Option.getD_some, Option.isSome_some, wrapL, gt_iff_lt, ge_iff_le, Int.toNat_natCast, Nat.sub_zero, ite_self, spB_TT, Nat.zero_add, Nat.add_zero]
    · have c1 : decide ((k : Int) < 4) = false := decide_eq_false (by omega)
      unfold gBlk
      simp (config := { maxSteps := 400000 }) only [go_sem, c1, k15, ha, hb, hc, hu, hl, hEb, ↓reduceIte, beq_self_eq_true, bne_self_eq_false, Int.reduceAdd, Int.reduceSub, Int.reduceMul, Int.reduceNeg, Int.reduceEq, Int.reduceNe, Int.cast_ofNat_Int, Int.lt_irrefl, Int.le_refl, Nat.reduceEqDiff, Nat.reduceLeDiff, Nat.reduceLT, Int.reducePow, IntKind.bits, Nat.reduceAdd, Nat.reduceMul, Nat.reduceSub, Int.reduceBNe, Int.reduceBEq, Int.reduceLE, Int.reduceLT, Int.reduceToNat, reduceCtorEq, Nat.zero_ne_one, Nat.one_ne_zero, and_self, and_true, true_and, Option.getD_some, Option.isSome_some, wrapL, gt_iff_lt, ge_iff_le, Int.toNat_natCast, Nat.sub_zero, ite_self, spB_TT, Nat.zero_add, Nat.add_zero]
      refine Loop.rounds (F := ⟨Tryd.prog, cxT T17, [34, 50, 60, 89, 110, 139], 142, 2⟩) 4 hT17 mo' ?_
      dsimp only [T17]
      simp (config := { maxSteps := 400000 }) only [go_sem, evG, hglobC, hglob, k16, k18, gAt, gIs, Rt.l, hu, hl, hEb, ↓reduceIte, beq_self_eq_true, bne_self_eq_false, Int.reduceAdd, Int.reduceSub, Int.reduceMul, Int.reduceNeg, Int.reduceEq, Int.reduceNe, Int.cast_ofNat_Int, Int.lt_irrefl, Int.le_refl, Nat.reduceEqDiff, Nat.reduceLeDiff, Nat.reduceLT, Int.reducePow, IntKind.bits, Nat.reduceAdd, Nat.reduceMul, Nat.reduceSub, Int.reduceBNe, Int.reduceBEq, Int.reduceLE, Int.reduceLT, Int.reduceToNat, reduceCtorEq, Nat.zero_ne_one, Nat.one_ne_zero, and_self, and_true, true_and, Option.getD_some, Option.isSome_some, wrapL, gt_iff_lt, ge_iff_le, Int.toNat_natCast, Nat.sub_zero, ite_self, spB_TT, Nat.zero_add, Nat.add_zero]
      exact Ends.pure rfl
end Go.Proofs.Rate
