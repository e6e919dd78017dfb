/- ArrivalLater: the walk. -/
import Derived.Test.YtiacdfhaopnekaaArrP9
import Derived.Test.YtiacdfhaopnekaaArrC12
import Derived.Test.YtiacdfhaopnekaaAbShs
import Derived.Test.YtiacdfhaopnekaaArrI7
namespace Go.Proofs.Arr
open Go.Ab
set_option maxRecDepth 100000
set_option maxHeartbeats 16000000
set_option linter.unusedSimpArgs false
set_option linter.unusedVariables false
theorem shD_vsl {s : Sh} {b c o l k : Nat} (h : b ≠ c) : shD (s.v b) (.sl c o l k) = true := by
  cases s <;> simp [Sh.v, shD, nbeq, h]
def T7 : List (Nat × Ct) := [(18, k18), (24, k24), (20, k20)]
theorem hT7 : Sound Try.prog (cxT T7) := Sound.cons s18 <| Sound.cons s24 <| Sound.cons s20 Sound.nil
theorem w7 (f y : Int) (hf : 0 ≤ f ∧ f ≤ 65535) (hy : 0 ≤ y ∧ y ≤ 255) : FTL Try.prog 7 [.i .u16 f, .i .u8 y] [] 0 (.b true) [] 0 := by
  refine FTL.of_iw hT7 mo Try.func7 i7_eq (by simp [i7]) (iw_of_jw ?_)
  dsimp only [i7, T7]
  obtain ⟨c, hc⟩ : ∃ c, 5 + y % 10 = c := ⟨_, rfl⟩
  have hc5 : 5 ≤ c ∧ c ≤ 14 := by omega
  have y1 : y.tmod 10 = y % 10 := Int.tmod_eq_emod_of_nonneg hy.1
  have y2 : IntKind.i64.wrap (y % 10) = y % 10 := wrapL (by omega) (by omega)
  have y4 : IntKind.i64.wrap c = c := wrapL (by omega) (by omega)
  have y5 : IntKind.i64.wrap (20 + c) = 20 + c := wrapL (by omega) (by omega)
  have y6 : IntKind.i64.wrap (20 - c) = 20 - c := wrapL (by omega) (by omega)
  have y7 : IntKind.i64.wrap f = f := wrapL (by omega) (by omega)
  have y8 : IntKind.i64.wrap (2000 + f) = 2000 + f := wrapL (by omega) (by omega)
  simp (config := { maxSteps := 400000 }) only [go_sem, k18, k20, newT, zTr, Tr.l, y1, y2, hc, y4, ↓reduceIte, beq_self_eq_true, bne_self_eq_false, Int.reduceAdd, Int.reduceSub, Int.reduceMul, Int.reduceNeg, Int.reduceEq, Int.reduceNe, Int.cast_ofNat_Int, Int.lt_irrefl, Int.le_refl, Nat.reduceEqDiff, Nat.reduceLeDiff, Nat.reduceLT, Int.reducePow, IntKind.bits, Nat.reduceAdd, Nat.reduceMul, Nat.reduceSub, Int.reduceBNe, Int.reduceBEq, Int.reduceLE, Int.reduceLT, Int.reduceToNat, reduceCtorEq, Nat.zero_ne_one, Nat.one_ne_zero, and_self, and_true, true_and, Option.getD_some, Option.isSome_some, wrapL, gt_iff_lt, ge_iff_le, Int.toNat_natCast, Nat.sub_zero, ite_self, spB_TT, Nat.zero_add, Nat.add_zero]
  have tA := tmU hc5 hf
  have tB := tmD hc5 hf
  obtain ⟨sA1, sA2⟩ := up_spec hc5 hf
  obtain ⟨sB1, sB2⟩ := dn_spec hc5 hf
  obtain ⟨s, hs⟩ : ∃ s : Nat → Int, s = fun k : Nat => 20 * (k : Int) + f := ⟨_, rfl⟩
  obtain ⟨gA, hgA⟩ : ∃ g : Nat → Int, g = fun k : Nat => (20 + c) * (k : Int) + f := ⟨_, rfl⟩
  obtain ⟨gB, hgB⟩ : ∃ g : Nat → Int, g = fun k : Nat => 2000 + (20 - c) * (k : Int) + f := ⟨_, rfl⟩
  rw [← hs, ← hgA] at tA sA1 sA2
  rw [← hs, ← hgB] at tB sB1 sB2
  refine Loop.stepR (F := ⟨Try.prog, cxT T7, [16, 24, 80], 100, 0⟩) hT7 mo (X := Nat) (fun k => k ≤ 60) (fun k => 60 - k)
    (fun k => [(0, .i .u16 f), (5, .i .i64 c), (6, .p 0 0), (7, .p 1 0), (8, .b (orv s gA 1 k)), (9, .b (orv s gB 2 k)), (23, .i .i64 (k : Int))])
    (fun k => (0, { cells := (runS s gA k).1.l ((runQ s gA k).v 2) }) :: (1, { cells := (runS s gB k).1.l ((runQ s gB k).v 3) }) :: ((runQ s gA k).h 2 ++ (runQ s gB k).h 3)) 4 0 (fun k => k + 1) [] (fun _ => [(2, 7), (3, 12)]) (by decide) (by decide) (fun _ => by decide) (Nat.zero_le _) ?_ ?_ (fun k hk => ?_)
  · have h1 : orv s gA 1 0 = false := rfl
    have h2 : orv s gB 2 0 = false := rfl
    simp (config := { maxSteps := 400000 }) only [go_sem, h1, h2, AV.ren, renL, AV.bel, belL, nblt, ↓reduceIte, beq_self_eq_true, bne_self_eq_false, Int.reduceAdd, Int.reduceSub, Int.reduceMul, Int.reduceNeg, Int.reduceEq, Int.reduceNe, Int.cast_ofNat_Int, Int.lt_irrefl, Int.le_refl, Nat.reduceEqDiff, Nat.reduceLeDiff, Nat.reduceLT, Int.reducePow, IntKind.bits, Nat.reduceAdd, Nat.reduceMul, Nat.reduceSub, Int.reduceBNe, Int.reduceBEq, Int.reduceLE, Int.reduceLT, Int.reduceToNat, reduceCtorEq, Nat.zero_ne_one, Nat.one_ne_zero, and_self, and_true, true_and, Option.getD_some, Option.isSome_some, wrapL, gt_iff_lt, ge_iff_le, Int.toNat_natCast, Nat.sub_zero, ite_self, spB_TT, Nat.zero_add, Nat.add_zero]
  · have h1 : runQ s gA 0 = .nil := rfl
    have h2 : runQ s gB 0 = .nil := rfl
    have h3 : runS s gA 0 = (newT, []) := rfl
    have h4 : runS s gB 0 = (newT, []) := rfl
    simp (config := { maxSteps := 400000 }) only [go_sem, h1, h2, h3, h4, shh_n, shv_n, Tr.l, newT, zTr, AV.bel, belL, nblt, Blk.ren, renL, AV.ren, ↓reduceIte, beq_self_eq_true, bne_self_eq_false, Int.reduceAdd, Int.reduceSub, Int.reduceMul, Int.reduceNeg, Int.reduceEq, Int.reduceNe, Int.cast_ofNat_Int, Int.lt_irrefl, Int.le_refl, Nat.reduceEqDiff, Nat.reduceLeDiff, Nat.reduceLT, Int.reducePow, IntKind.bits, Nat.reduceAdd, Nat.reduceMul, Nat.reduceSub, Int.reduceBNe, Int.reduceBEq, Int.reduceLE, Int.reduceLT, Int.reduceToNat, reduceCtorEq, Nat.zero_ne_one, Nat.one_ne_zero, and_self, and_true, true_and, Option.getD_some, Option.isSome_some, wrapL, gt_iff_lt, ge_iff_le, Int.toNat_natCast, Nat.sub_zero, ite_self, spB_TT, Nat.zero_add, Nat.add_zero]
  · dsimp only [T7]
    by_cases hlt : k < 60
    · have hP := runQ_pts s gA k
      have hR := runQ_pts s gB k
      have hP' := runQ_pts s gA (k + 1)
      have hR' := runQ_pts s gB (k + 1)
      have okA := run_ok tA hlt
      have okB := run_ok tB hlt
      have uA := sA1 k hlt
      have uB := sB1 k hlt
      have e1 : runS s gA (k + 1) = addS (runS s gA k).1 (runS s gA k).2 (s k) (gA k) := rfl
      have e2 : runQ s gA (k + 1) = addQ (runS s gA k).1 (runQ s gA k) (runS s gA k).2 (s k) (gA k) := rfl
      have e3 : runS s gB (k + 1) = addS (runS s gB k).1 (runS s gB k).2 (s k) (gB k) := rfl
      have e4 : runQ s gB (k + 1) = addQ (runS s gB k).1 (runQ s gB k) (runS s gB k).2 (s k) (gB k) := rfl
      have e5 : orv s gA 1 (k + 1) = (orv s gA 1 k || ((runS s gA (k + 1)).1.sta == 1)) := rfl
      have e6 : orv s gB 2 (k + 1) = (orv s gB 2 k || ((runS s gB (k + 1)).1.sta == 2)) := rfl
      have mr := mul_rg hc5 hk
      have v0 : s k = 20 * (k : Int) + f := by rw [hs]
      have v1 : gA k = (20 + c) * (k : Int) + f := by rw [hgA]
      have v2 : gB k = 2000 + (20 - c) * (k : Int) + f := by rw [hgB]
      rw [e1] at uA hP'
      rw [e2] at hP'
      rw [e3] at uB hR'
      rw [e4] at hR'
      rw [e5, e6, e1, e2, e3, e4]
      generalize s k = a at *
      generalize gA k = b at *
      generalize gB k = d at *
      generalize runS s gA k = TL at *
      obtain ⟨t, pts⟩ := TL
      generalize runS s gB k = UL at *
      obtain ⟨u, pus⟩ := UL
      dsimp only at hP hR hP' hR' uA uB okA okB ⊢
      generalize runQ s gA k = P at *
      generalize runQ s gB k = R at *
      have rP := rd_pts hP
      have rR := rd_pts hR
      have pP := hP.pl
      have pR := hR.pl
      have pP' := hP'.pl
      have pR' := hR'.pl
      have W1 : IntKind.i64.wrap (20 * (k : Int)) = 20 * (k : Int) := wrapL (by omega) (by omega)
      have W2 : IntKind.i64.wrap (f + 20 * (k : Int)) = a := by rw [wrapL (by omega) (by omega)]; omega
      have W3 : IntKind.i64.wrap ((20 + c) * (k : Int)) = (20 + c) * (k : Int) := wrapL (by omega) (by omega)
      have W4 : IntKind.i64.wrap (f + (20 + c) * (k : Int)) = b := by rw [wrapL (by omega) (by omega)]; omega
      have W5 : IntKind.i64.wrap ((20 - c) * (k : Int)) = (20 - c) * (k : Int) := wrapL (by omega) (by omega)
      have W6 : IntKind.i64.wrap (2000 + f + (20 - c) * (k : Int)) = d := by rw [wrapL (by omega) (by omega)]; omega
      have c1 : decide ((k : Int) < 60) = true := decide_eq_true (by omega)
      have hw : IntKind.i64.wrap ((k : Int) + 1) = ((k + 1 : Nat) : Int) := by rw [wrapL (by omega) (by omega)]; omega
      have hsk : 60 - (k + 1) < 60 - k := by omega
      generalize orv s gA 1 k = oA at *
      generalize orv s gB 2 k = oB at *
      cases oA <;> cases oB
      all_goals
        simp (config := { maxSteps := 400000 }) only [go_sem, Tr.l, c1, k24, trV, Tr.eta, rP, rR, prV, adU, okA, okB, hw, pP, pR, pP', pR', hlt, hsk, y5, y6, y7, y8, W1, W2, W3, W4, W5, W6, uA, uB, shD_vsl, AV.bel, belL, nblt, Blk.ren, renL, AV.ren, Bool.true_or, Bool.false_or, ↓reduceIte, beq_self_eq_true, bne_self_eq_false, Int.reduceAdd, Int.reduceSub, Int.reduceMul, Int.reduceNeg, Int.reduceEq, Int.reduceNe, Int.cast_ofNat_Int, Int.lt_irrefl, Int.le_refl, Nat.reduceEqDiff, Nat.reduceLeDiff, Nat.reduceLT, Int.reducePow, IntKind.bits, Nat.reduceAdd, Nat.reduceMul, Nat.reduceSub, Int.reduceBNe, Int.reduceBEq, Int.reduceLE, Int.reduceLT, Int.reduceToNat, reduceCtorEq, Nat.zero_ne_one, Nat.one_ne_zero, and_self, and_true, true_and, Option.getD_some, Option.isSome_some, wrapL, gt_iff_lt, ge_iff_le, Int.toNat_natCast, Nat.sub_zero, ite_self, spB_TT, Nat.zero_add, Nat.add_zero]
        omega
        
    · have c1 : decide ((k : Int) < 60) = false := decide_eq_false (by omega)
      have hk60 : k = 60 := by omega
      subst hk60
      simp (config := { maxSteps := 400000 }) only [go_sem, Tr.l, c1, sA2, sB2, ↓reduceIte, beq_self_eq_true, bne_self_eq_false, Int.reduceAdd, Int.reduceSub, Int.reduceMul, Int.reduceNeg, Int.reduceEq, Int.reduceNe, Int.cast_ofNat_Int, Int.lt_irrefl, Int.le_refl, Nat.reduceEqDiff, Nat.reduceLeDiff, Nat.reduceLT, Int.reducePow, IntKind.bits, Nat.reduceAdd, Nat.reduceMul, Nat.reduceSub, Int.reduceBNe, Int.reduceBEq, Int.reduceLE, Int.reduceLT, Int.reduceToNat, reduceCtorEq, Nat.zero_ne_one, Nat.one_ne_zero, and_self, and_true, true_and, Option.getD_some, Option.isSome_some, wrapL, gt_iff_lt, ge_iff_le, Int.toNat_natCast, Nat.sub_zero, ite_self, spB_TT, Nat.zero_add, Nat.add_zero]
      exact Ends.pure rfl
      
end Go.Proofs.Arr
