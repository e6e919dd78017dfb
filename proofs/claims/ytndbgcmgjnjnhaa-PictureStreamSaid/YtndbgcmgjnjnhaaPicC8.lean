/- Contracts of chapter 40: Show and the reference's. -/
import Derived.Test.YtndbgcmgjnjnhaaPicC7
namespace Go.Proofs.Pic
open Go.Ab
set_option maxRecDepth 100000
set_option maxHeartbeats 8000000
set_option linter.unusedSimpArgs false
set_option linter.unusedVariables false

def dcV (l : List AV) : Option Dc := match l with
  | [.b a0, .i .i64 a1, .i .i64 a2, .i .i64 a3, .b b0, .i .i64 b1, .i .i64 b2, .i .i64 b3, .b c0, .i .i64 c1, .i .i64 c2, .i .i64 c3] => some ⟨⟨a0, a1, a2, a3⟩, ⟨b0, b1, b2, b3⟩, ⟨c0, c1, c2, c3⟩⟩
  | _ => none
theorem dcV_eq {l : List AV} {d : Dc} (h : dcV l = some d) : l = d.l := by
  unfold dcV at h
  split at h
  · cases h; rfl
  · cases h
def shV (l : List AV) : Option Sh := match l with
  | [.b st, .b ky, .b sy, .b la, .i .i64 id, .i .i64 ba, .i .i64 te, .i .i64 sp] => some ⟨st, ky, sy, la, id, ba, te, sp⟩
  | _ => none
theorem shV_eq {l : List AV} {d : Sh} (h : shV l = some d) : l = d.l := by
  unfold shV at h
  split at h
  · cases h; rfl
  · cases h
def k26 : Ct
  | [.agg l], _, n => (dcV l).bind fun d => some (true, { v := .i .i64 (if d.good then 0 else 402), n })
  | _, _, _ => none
theorem s26 : SoundAt Try.prog 26 k26 := fun args h n c E hc ht => by
  unfold k26 at hc
  split at hc
  · simp only [Option.bind_eq_some_iff] at hc
    obtain ⟨d, hd, he⟩ := hc
    cases he
    rw [dcV_eq hd]
    exact CallOK.pure (by kernel_rfl) rfl rfl (w26 _) _ _
  · cases hc
def k27 : Ct
  | [.agg l], _, n => (dcV l).bind fun d => some (true, { v := .b d.good, n })
  | _, _, _ => none
theorem s27 : SoundAt Try.prog 27 k27 := fun args h n c E hc ht => by
  unfold k27 at hc
  split at hc
  · simp only [Option.bind_eq_some_iff] at hc
    obtain ⟨d, hd, he⟩ := hc
    cases he
    rw [dcV_eq hd]
    exact CallOK.pure (by kernel_rfl) rfl rfl (w27 _) _ _
  · cases hc
def toldS (d : Dc) (s : Sh) : Dc × Bool × Int := if !d.good then (zDc, false, 402) else if !s.good then (zDc, false, 400) else ((showS d s).1, (showS d s).2, 0)
def T10 : List (Nat × Ct) := [(14, k14), (26, k26), (52, k52)]
theorem hT10 : Sound Try.prog (cxT T10) := Sound.cons s14 <| Sound.cons s26 <| Sound.cons s52 Sound.nil
theorem Dc.eta (d : Dc) : Dc.mk (Ly.mk d.x.lv d.x.id d.x.ba d.x.op) (Ly.mk d.y.lv d.y.id d.y.ba d.y.op) (Ly.mk d.z.lv d.z.id d.z.ba d.z.op) = d := rfl
theorem w28 (d : Dc) (s : Sh) : FTL Try.prog 28 [.agg d.l, .agg s.l] [] 0 (.tup [.agg (toldS d s).1.l, .b (toldS d s).2.1, .i .i64 (toldS d s).2.2]) [] 0 := by
  refine FTL.of_iw hT10 mo Try.func28 i28_eq (by simp [i28]) (iw_of_jw ?_)
  dsimp only [i28, T10]
  generalize hR : toldS d s = R
  by_cases hd : d.good = true
  · by_cases hs : s.good = true
    · simp only [go_sem, Dc.l, Sh.l, k14, k26, k52, dcV, vwB, hd, hs, Dc.eta, Sh.eta, vw, ↓reduceIte, beq_self_eq_true, bne_self_eq_false, Int.reduceAdd, Int.reduceSub, Int.reduceMul, Int.reduceNeg, Int.reduceEq, Int.reduceNe, Int.cast_ofNat_Int, Int.lt_irrefl, Int.le_refl, Nat.reduceEqDiff, Nat.reduceLeDiff, Nat.reduceLT, Int.reducePow, IntKind.bits, Nat.reduceAdd, Nat.reduceMul, Nat.reduceSub, Int.reduceBNe, Int.reduceBEq, Int.reduceLE, Int.reduceLT, Int.reduceToNat, reduceCtorEq, Nat.zero_ne_one, Nat.one_ne_zero, and_self, and_true, true_and, Option.getD_some, Option.isSome_some, wrapL, gt_iff_lt, ge_iff_le]
      rw [← hR]
      exact Ends.pureE rfl (by simp [toldS, hd, hs])
    · simp only [go_sem, Dc.l, Sh.l, k14, k26, k52, dcV, vwB, hd, hs, Dc.eta, Sh.eta, vw, Bool.false_eq_true, ↓reduceIte, beq_self_eq_true, bne_self_eq_false, Int.reduceAdd, Int.reduceSub, Int.reduceMul, Int.reduceNeg, Int.reduceEq, Int.reduceNe, Int.cast_ofNat_Int, Int.lt_irrefl, Int.le_refl, Nat.reduceEqDiff, Nat.reduceLeDiff, Nat.reduceLT, Int.reducePow, IntKind.bits, Nat.reduceAdd, Nat.reduceMul, Nat.reduceSub, Int.reduceBNe, Int.reduceBEq, Int.reduceLE, Int.reduceLT, Int.reduceToNat, reduceCtorEq, Nat.zero_ne_one, Nat.one_ne_zero, and_self, and_true, true_and, Option.getD_some, Option.isSome_some, wrapL, gt_iff_lt, ge_iff_le]
      rw [← hR]
      exact Ends.pureE rfl (by simp [toldS, hd, hs, zDc, zLy])
  · simp only [go_sem, Dc.l, Sh.l, k14, k26, k52, dcV, vwB, hd, Dc.eta, Sh.eta, vw, Bool.false_eq_true, ↓reduceIte, beq_self_eq_true, bne_self_eq_false, Int.reduceAdd, Int.reduceSub, Int.reduceMul, Int.reduceNeg, Int.reduceEq, Int.reduceNe, Int.cast_ofNat_Int, Int.lt_irrefl, Int.le_refl, Nat.reduceEqDiff, Nat.reduceLeDiff, Nat.reduceLT, Int.reducePow, IntKind.bits, Nat.reduceAdd, Nat.reduceMul, Nat.reduceSub, Int.reduceBNe, Int.reduceBEq, Int.reduceLE, Int.reduceLT, Int.reduceToNat, reduceCtorEq, Nat.zero_ne_one, Nat.one_ne_zero, and_self, and_true, true_and, Option.getD_some, Option.isSome_some, wrapL, gt_iff_lt, ge_iff_le]
    rw [← hR]
    exact Ends.pureE rfl (by simp [toldS, hd, zDc, zLy])
def k28 : Ct
  | [.agg l, .agg m], _, n => (dcV l).bind fun d => (shV m).bind fun s => some (true, { v := .tup [.agg (toldS d s).1.l, .b (toldS d s).2.1, .i .i64 (toldS d s).2.2], n })
  | _, _, _ => none
theorem s28 : SoundAt Try.prog 28 k28 := fun args h n c E hc ht => by
  unfold k28 at hc
  split at hc
  · simp only [Option.bind_eq_some_iff] at hc
    obtain ⟨d, hd, s, hs, he⟩ := hc
    cases he
    rw [dcV_eq hd, shV_eq hs]
    exact CallOK.pure (by kernel_rfl) rfl rfl (w28 _ _) _ _
  · cases hc
def k80 : Ct
  | [.i .i64 15], _, n => some (true, { v := .i .i64 32768, n })
  | [.i .i64 14], _, n => some (true, { v := .i .i64 16384, n })
  | _, _, _ => none
theorem s80 : SoundAt Try.prog 80 k80 := fun args h n c E hc ht => by
  unfold k80 at hc
  split at hc
  · cases hc; exact CallOK.pure (by kernel_rfl) rfl rfl (FTL.of_val 300 mo Valid.nil Try.func80 i80_eq (by kernel_rfl) rfl) _ _
  · cases hc; exact CallOK.pure (by kernel_rfl) rfl rfl (FTL.of_val 300 mo Valid.nil Try.func80 i80_eq (by kernel_rfl) rfl) _ _
  · cases hc
def T11 : List (Nat × Ct) := [(80, k80)]
theorem hT11 : Sound Try.prog (cxT T11) := Sound.cons s80 Sound.nil
theorem w67 (x y : Int) (hx : 0 ≤ x ∧ x ≤ 32767) (hy : 0 ≤ y ∧ y ≤ 32767) : FTL Try.prog 67 [.i .i64 x, .i .i64 y, .i .i64 15] [] 0 (.i .i64 (lead x y)) [] 0 := by
  refine FTL.of_iw hT11 mo Try.func67 i67_eq (by simp [i67]) (iw_of_jw ?_)
  dsimp only [i67, T11]
  have g1 : IntKind.i64.wrap (x - y) = x - y := wrapL (by omega) (by omega)
  have g2 : IntKind.i64.wrap (x - y + 32768) = x - y + 32768 := wrapL (by omega) (by omega)
  have g3 : IntKind.i64.wrap (x - y - 32768) = x - y - 32768 := wrapL (by omega) (by omega)
  have g4 : IntKind.i64.wrap (x - y + 32768 - 32768) = x - y + 32768 - 32768 := wrapL (by omega) (by omega)
  simp only [go_sem, k80, g1, g2, g3, g4, ↓reduceIte, beq_self_eq_true, bne_self_eq_false, Int.reduceAdd, Int.reduceSub, Int.reduceMul, Int.reduceNeg, Int.reduceEq, Int.reduceNe, Int.cast_ofNat_Int, Int.lt_irrefl, Int.le_refl, Nat.reduceEqDiff, Nat.reduceLeDiff, Nat.reduceLT, Int.reducePow, IntKind.bits, Nat.reduceAdd, Nat.reduceMul, Nat.reduceSub, Int.reduceBNe, Int.reduceBEq, Int.reduceLE, Int.reduceLT, Int.reduceToNat, reduceCtorEq, Nat.zero_ne_one, Nat.one_ne_zero, and_self, and_true, true_and, Option.getD_some, Option.isSome_some, wrapL, gt_iff_lt, ge_iff_le]
  repeat' (first | refine spB_i (fun _ => ?_) (fun _ => ?_) | refine andB_i ?_ ?_)
  all_goals (refine Ends.pureE rfl (congrArg _ ?_); simp only [lead, decide_eq_true_eq, decide_eq_false_iff_not] at *; split <;> omega)
def k67 : Ct
  | [.i .i64 x, .i .i64 y, .i .i64 15], _, n => some (decide ((0 ≤ x ∧ x ≤ 32767) ∧ (0 ≤ y ∧ y ≤ 32767)), { v := .i .i64 (lead x y), n })
  | _, _, _ => none
theorem s67 : SoundAt Try.prog 67 k67 := fun args h n c E hc ht => by
  unfold k67 at hc
  split at hc
  · cases hc
    simp only [decide_eq_true_eq] at ht
    exact CallOK.pure (by kernel_rfl) rfl rfl (w67 _ _ ht.1 ht.2) _ _
  · cases hc
theorem w68 (d : Dc) (i : Int) (h : 0 ≤ i ∧ i ≤ 2) : FTL Try.prog 68 [.agg d.l, .i .i64 i] [] 0 (.agg (d.cut i).l) [] 0 := by
  refine FTL.of_iw hT11 mo Try.func68 i68_eq (by simp [i68]) (iw_of_jw ?_)
  dsimp only [i68, T11]
  rcases (show i = 0 ∨ i = 1 ∨ i = 2 by omega) with rfl | rfl | rfl
  · simp only [go_sem, Dc.l, ↓reduceIte, beq_self_eq_true, bne_self_eq_false, Int.reduceAdd, Int.reduceSub, Int.reduceMul, Int.reduceNeg, Int.reduceEq, Int.reduceNe, Int.cast_ofNat_Int, Int.lt_irrefl, Int.le_refl, Nat.reduceEqDiff, Nat.reduceLeDiff, Nat.reduceLT, Int.reducePow, IntKind.bits, Nat.reduceAdd, Nat.reduceMul, Nat.reduceSub, Int.reduceBNe, Int.reduceBEq, Int.reduceLE, Int.reduceLT, Int.reduceToNat, reduceCtorEq, Nat.zero_ne_one, Nat.one_ne_zero, and_self, and_true, true_and, Option.getD_some, Option.isSome_some, wrapL, gt_iff_lt, ge_iff_le]
    refine Loop.rounds (F := ⟨Try.prog, cxT T11, [8], 16, 0⟩) 4 hT11 mo ?_
    dsimp only [T11]
    simp only [go_sem, ↓reduceIte, beq_self_eq_true, bne_self_eq_false, Int.reduceAdd, Int.reduceSub, Int.reduceMul, Int.reduceNeg, Int.reduceEq, Int.reduceNe, Int.cast_ofNat_Int, Int.lt_irrefl, Int.le_refl, Nat.reduceEqDiff, Nat.reduceLeDiff, Nat.reduceLT, Int.reducePow, IntKind.bits, Nat.reduceAdd, Nat.reduceMul, Nat.reduceSub, Int.reduceBNe, Int.reduceBEq, Int.reduceLE, Int.reduceLT, Int.reduceToNat, reduceCtorEq, Nat.zero_ne_one, Nat.one_ne_zero, and_self, and_true, true_and, Option.getD_some, Option.isSome_some, wrapL, gt_iff_lt, ge_iff_le]
    exact Ends.pureE rfl rfl
  · simp only [go_sem, Dc.l, ↓reduceIte, beq_self_eq_true, bne_self_eq_false, Int.reduceAdd, Int.reduceSub, Int.reduceMul, Int.reduceNeg, Int.reduceEq, Int.reduceNe, Int.cast_ofNat_Int, Int.lt_irrefl, Int.le_refl, Nat.reduceEqDiff, Nat.reduceLeDiff, Nat.reduceLT, Int.reducePow, IntKind.bits, Nat.reduceAdd, Nat.reduceMul, Nat.reduceSub, Int.reduceBNe, Int.reduceBEq, Int.reduceLE, Int.reduceLT, Int.reduceToNat, reduceCtorEq, Nat.zero_ne_one, Nat.one_ne_zero, and_self, and_true, true_and, Option.getD_some, Option.isSome_some, wrapL, gt_iff_lt, ge_iff_le]
    refine Loop.rounds (F := ⟨Try.prog, cxT T11, [8], 16, 0⟩) 4 hT11 mo ?_
    dsimp only [T11]
    simp only [go_sem, ↓reduceIte, beq_self_eq_true, bne_self_eq_false, Int.reduceAdd, Int.reduceSub, Int.reduceMul, Int.reduceNeg, Int.reduceEq, Int.reduceNe, Int.cast_ofNat_Int, Int.lt_irrefl, Int.le_refl, Nat.reduceEqDiff, Nat.reduceLeDiff, Nat.reduceLT, Int.reducePow, IntKind.bits, Nat.reduceAdd, Nat.reduceMul, Nat.reduceSub, Int.reduceBNe, Int.reduceBEq, Int.reduceLE, Int.reduceLT, Int.reduceToNat, reduceCtorEq, Nat.zero_ne_one, Nat.one_ne_zero, and_self, and_true, true_and, Option.getD_some, Option.isSome_some, wrapL, gt_iff_lt, ge_iff_le]
    exact Ends.pureE rfl rfl
  · simp only [go_sem, Dc.l, ↓reduceIte, beq_self_eq_true, bne_self_eq_false, Int.reduceAdd, Int.reduceSub, Int.reduceMul, Int.reduceNeg, Int.reduceEq, Int.reduceNe, Int.cast_ofNat_Int, Int.lt_irrefl, Int.le_refl, Nat.reduceEqDiff, Nat.reduceLeDiff, Nat.reduceLT, Int.reducePow, IntKind.bits, Nat.reduceAdd, Nat.reduceMul, Nat.reduceSub, Int.reduceBNe, Int.reduceBEq, Int.reduceLE, Int.reduceLT, Int.reduceToNat, reduceCtorEq, Nat.zero_ne_one, Nat.one_ne_zero, and_self, and_true, true_and, Option.getD_some, Option.isSome_some, wrapL, gt_iff_lt, ge_iff_le]
    refine Loop.rounds (F := ⟨Try.prog, cxT T11, [8], 16, 0⟩) 4 hT11 mo ?_
    dsimp only [T11]
    simp only [go_sem, ↓reduceIte, beq_self_eq_true, bne_self_eq_false, Int.reduceAdd, Int.reduceSub, Int.reduceMul, Int.reduceNeg, Int.reduceEq, Int.reduceNe, Int.cast_ofNat_Int, Int.lt_irrefl, Int.le_refl, Nat.reduceEqDiff, Nat.reduceLeDiff, Nat.reduceLT, Int.reducePow, IntKind.bits, Nat.reduceAdd, Nat.reduceMul, Nat.reduceSub, Int.reduceBNe, Int.reduceBEq, Int.reduceLE, Int.reduceLT, Int.reduceToNat, reduceCtorEq, Nat.zero_ne_one, Nat.one_ne_zero, and_self, and_true, true_and, Option.getD_some, Option.isSome_some, wrapL, gt_iff_lt, ge_iff_le]
    exact Ends.pureE rfl rfl
def k68 : Ct
  | [.agg l, .i .i64 i], _, n => (dcV l).bind fun d => some (decide (0 ≤ i ∧ i ≤ 2), { v := .agg (d.cut i).l, n })
  | _, _, _ => none
theorem s68 : SoundAt Try.prog 68 k68 := fun args h n c E hc ht => by
  unfold k68 at hc
  split at hc
  · simp only [Option.bind_eq_some_iff] at hc
    obtain ⟨d, hd, he⟩ := hc
    cases he
    rw [dcV_eq hd]
    exact CallOK.pure (by kernel_rfl) rfl rfl (w68 _ _ (of_decide_eq_true ht)) _ _
  · cases hc
end Go.Proofs.Pic
