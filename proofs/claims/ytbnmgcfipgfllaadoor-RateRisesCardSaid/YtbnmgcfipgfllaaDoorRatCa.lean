/- Texts laid as one: RatC1 RatC2 RatC3. -/
import Derived.Test.YtbnmgcfipgfllaaDoorRatW
import Derived.Test.YtbnmgcfipgfllaaDoorRatLIR
import Derived.Test.YtbnmgcfipgfllaaDoorAbLoops
section
/- Contracts of chapter 30: Check and New. -/
namespace Go.Proofs.Rate
open Go.Ab
set_option maxRecDepth 100000
set_option maxHeartbeats 4000000
set_option linter.unusedSimpArgs false
set_option linter.unusedVariables false

theorem w44 (a : Int) : FTL Tryd.prog 44 [.i .i64 a] [] 0 (.b false) [] 0 := by
  refine FTL.of_iw Sound.nil mo' Tryd.func44 i44_eq (by simp [i44]) (iw_of_jw ?_)
  dsimp only [i44]
  simp (config := { maxSteps := 400000 }) only [go_sem, ↓reduceIte, beq_self_eq_true, bne_self_eq_false, Int.reduceAdd, Int.reduceSub, Int.reduceMul, Int.reduceNeg, Int.reduceEq, Int.reduceNe, Int.cast_ofNat_Int, Int.lt_irrefl, Int.le_refl, Nat.reduceEqDiff, Nat.reduceLeDiff, Nat.reduceLT, Int.reducePow, IntKind.bits, Nat.reduceAdd, Nat.reduceMul, Nat.reduceSub, Int.reduceBNe, Int.reduceBEq, Int.reduceLE, Int.reduceLT, Int.reduceToNat, reduceCtorEq, Nat.zero_ne_one, Nat.one_ne_zero, and_self, and_true, true_and, Option.getD_some, Option.isSome_some, wrapL, gt_iff_lt, ge_iff_le, Int.toNat_natCast, Nat.sub_zero, ite_self, spB_TT, Nat.zero_add, Nat.add_zero]
  exact Ends.pure rfl
def k44 : Ct
  | [.i .i64 a], _, n => some (true, { v := .b false, n })
  | _, _, _ => none
theorem s44 : SoundAt Tryd.prog 44 k44 := fun args h n c E hc ht => by
  unfold k44 at hc
  split at hc
  · cases hc; exact CallOK.pure (by kernel_rfl) rfl rfl (w44 _) _ _
  · cases hc
def T1 : List (Nat × Ct) := [(44, k44)]
theorem hT1 : Sound Tryd.prog (cxT T1) := Sound.cons s44 Sound.nil
theorem w42 (a b : Int) : FTL Tryd.prog 42 [.i .i64 a, .i .i64 b] [] 0 (.b (decide (a < b))) [] 0 := by
  refine FTL.of_iw hT1 mo' Tryd.func42 i42_eq (by simp [i42]) (iw_of_jw ?_)
  dsimp only [i42, T1]
  simp (config := { maxSteps := 400000 }) only [go_sem, k44, ↓reduceIte, beq_self_eq_true, bne_self_eq_false, Int.reduceAdd, Int.reduceSub, Int.reduceMul, Int.reduceNeg, Int.reduceEq, Int.reduceNe, Int.cast_ofNat_Int, Int.lt_irrefl, Int.le_refl, Nat.reduceEqDiff, Nat.reduceLeDiff, Nat.reduceLT, Int.reducePow, IntKind.bits, Nat.reduceAdd, Nat.reduceMul, Nat.reduceSub, Int.reduceBNe, Int.reduceBEq, Int.reduceLE, Int.reduceLT, Int.reduceToNat, reduceCtorEq, Nat.zero_ne_one, Nat.one_ne_zero, and_self, and_true, true_and, Option.getD_some, Option.isSome_some, wrapL, gt_iff_lt, ge_iff_le, Int.toNat_natCast, Nat.sub_zero, ite_self, spB_TT, Nat.zero_add, Nat.add_zero]
  exact Ends.pure rfl
def k42 : Ct
  | [.i .i64 a, .i .i64 b], _, n => some (true, { v := .b (decide (a < b)), n })
  | _, _, _ => none
theorem s42 : SoundAt Tryd.prog 42 k42 := fun args h n c E hc ht => by
  unfold k42 at hc
  split at hc
  · cases hc; exact CallOK.pure (by kernel_rfl) rfl rfl (w42 _ _) _ _
  · cases hc
def T2 : List (Nat × Ct) := [(42, k42)]
theorem hT2 : Sound Tryd.prog (cxT T2) := Sound.cons s42 Sound.nil
def sortedS : List Int → Bool
  | [_] => true
  | [a, b] => decide (a ≤ b)
  | [a, b, c] => decide (b ≤ c) && decide (a ≤ b)
  | _ => false
def few (l : List Int) : Bool := decide (1 ≤ l.length ∧ l.length ≤ 3)
theorem w39 (l : List Int) (cap : Nat) (ro : Bool) (h : few l = true) : FTL Tryd.prog 39 [.sl 0 0 l.length cap] [(0, { cells := rows int1 l, ro := ro })] 1 (.b (sortedS l)) [(0, { cells := rows int1 l, ro := ro })] 1 := by
  refine FTL.of_iw hT2 mo' Tryd.func39 i39_eq (by simp [i39]) (iw_of_jw ?_)
  dsimp only [i39, T2]
  simp only [few, decide_eq_true_eq] at h
  match l, h with
  | [a], _ =>
    simp (config := { maxSteps := 400000 }) only [go_sem, ↓reduceIte, beq_self_eq_true, bne_self_eq_false, Int.reduceAdd, Int.reduceSub, Int.reduceMul, Int.reduceNeg, Int.reduceEq, Int.reduceNe, Int.cast_ofNat_Int, Int.lt_irrefl, Int.le_refl, Nat.reduceEqDiff, Nat.reduceLeDiff, Nat.reduceLT, Int.reducePow, IntKind.bits, Nat.reduceAdd, Nat.reduceMul, Nat.reduceSub, Int.reduceBNe, Int.reduceBEq, Int.reduceLE, Int.reduceLT, Int.reduceToNat, reduceCtorEq, Nat.zero_ne_one, Nat.one_ne_zero, and_self, and_true, true_and, Option.getD_some, Option.isSome_some, wrapL, gt_iff_lt, ge_iff_le, Int.toNat_natCast, Nat.sub_zero, ite_self, spB_TT, Nat.zero_add, Nat.add_zero]
    refine Loop.rounds (F := ⟨Tryd.prog, cxT T2, [8, 20], 21, 1⟩) 1 hT2 mo' ?_
    dsimp only [T2]
    simp (config := { maxSteps := 400000 }) only [go_sem, ↓reduceIte, beq_self_eq_true, bne_self_eq_false, Int.reduceAdd, Int.reduceSub, Int.reduceMul, Int.reduceNeg, Int.reduceEq, Int.reduceNe, Int.cast_ofNat_Int, Int.lt_irrefl, Int.le_refl, Nat.reduceEqDiff, Nat.reduceLeDiff, Nat.reduceLT, Int.reducePow, IntKind.bits, Nat.reduceAdd, Nat.reduceMul, Nat.reduceSub, Int.reduceBNe, Int.reduceBEq, Int.reduceLE, Int.reduceLT, Int.reduceToNat, reduceCtorEq, Nat.zero_ne_one, Nat.one_ne_zero, and_self, and_true, true_and, Option.getD_some, Option.isSome_some, wrapL, gt_iff_lt, ge_iff_le, Int.toNat_natCast, Nat.sub_zero, ite_self, spB_TT, Nat.zero_add, Nat.add_zero]
    exact Ends.keep1 rfl rfl rfl rfl rfl
  | [a, b], _ =>
    simp (config := { maxSteps := 400000 }) only [go_sem, ↓reduceIte, beq_self_eq_true, bne_self_eq_false, Int.reduceAdd, Int.reduceSub, Int.reduceMul, Int.reduceNeg, Int.reduceEq, Int.reduceNe, Int.cast_ofNat_Int, Int.lt_irrefl, Int.le_refl, Nat.reduceEqDiff, Nat.reduceLeDiff, Nat.reduceLT, Int.reducePow, IntKind.bits, Nat.reduceAdd, Nat.reduceMul, Nat.reduceSub, Int.reduceBNe, Int.reduceBEq, Int.reduceLE, Int.reduceLT, Int.reduceToNat, reduceCtorEq, Nat.zero_ne_one, Nat.one_ne_zero, and_self, and_true, true_and, Option.getD_some, Option.isSome_some, wrapL, gt_iff_lt, ge_iff_le, Int.toNat_natCast, Nat.sub_zero, ite_self, spB_TT, Nat.zero_add, Nat.add_zero]
    refine Loop.rounds (F := ⟨Tryd.prog, cxT T2, [8, 20], 21, 1⟩) 2 hT2 mo' ?_
    dsimp only [T2]
    simp (config := { maxSteps := 400000 }) only [go_sem, k42, rows, int1, List.map_cons, List.map_nil, List.flatten_cons, List.flatten_nil, ↓reduceIte, beq_self_eq_true, bne_self_eq_false, Int.reduceAdd, Int.reduceSub, Int.reduceMul, Int.reduceNeg, Int.reduceEq, Int.reduceNe, Int.cast_ofNat_Int, Int.lt_irrefl, Int.le_refl, Nat.reduceEqDiff, Nat.reduceLeDiff, Nat.reduceLT, Int.reducePow, IntKind.bits, Nat.reduceAdd, Nat.reduceMul, Nat.reduceSub, Int.reduceBNe, Int.reduceBEq, Int.reduceLE, Int.reduceLT, Int.reduceToNat, reduceCtorEq, Nat.zero_ne_one, Nat.one_ne_zero, and_self, and_true, true_and, Option.getD_some, Option.isSome_some, wrapL, gt_iff_lt, ge_iff_le, Int.toNat_natCast, Nat.sub_zero, ite_self, spB_TT, Nat.zero_add, Nat.add_zero]
    repeat' (first | refine spB_i (fun _ => ?_) (fun _ => ?_) | refine andB_i ?_ ?_)
    all_goals (refine Ends.keep1 rfl rfl rfl (congrArg _ ?_) rfl; simp only [sortedS, decide_eq_true_eq, decide_eq_false_iff_not] at *; grind)
  | [a, b, c], _ =>
    simp (config := { maxSteps := 400000 }) only [go_sem, ↓reduceIte, beq_self_eq_true, bne_self_eq_false, Int.reduceAdd, Int.reduceSub, Int.reduceMul, Int.reduceNeg, Int.reduceEq, Int.reduceNe, Int.cast_ofNat_Int, Int.lt_irrefl, Int.le_refl, Nat.reduceEqDiff, Nat.reduceLeDiff, Nat.reduceLT, Int.reducePow, IntKind.bits, Nat.reduceAdd, Nat.reduceMul, Nat.reduceSub, Int.reduceBNe, Int.reduceBEq, Int.reduceLE, Int.reduceLT, Int.reduceToNat, reduceCtorEq, Nat.zero_ne_one, Nat.one_ne_zero, and_self, and_true, true_and, Option.getD_some, Option.isSome_some, wrapL, gt_iff_lt, ge_iff_le, Int.toNat_natCast, Nat.sub_zero, ite_self, spB_TT, Nat.zero_add, Nat.add_zero]
    refine Loop.rounds (F := ⟨Tryd.prog, cxT T2, [8, 20], 21, 1⟩) 3 hT2 mo' ?_
    dsimp only [T2]
    simp (config := { maxSteps := 400000 }) only [go_sem, k42, rows, int1, List.map_cons, List.map_nil, List.flatten_cons, List.flatten_nil, ↓reduceIte, beq_self_eq_true, bne_self_eq_false, Int.reduceAdd, Int.reduceSub, Int.reduceMul, Int.reduceNeg, Int.reduceEq, Int.reduceNe, Int.cast_ofNat_Int, Int.lt_irrefl, Int.le_refl, Nat.reduceEqDiff, Nat.reduceLeDiff, Nat.reduceLT, Int.reducePow, IntKind.bits, Nat.reduceAdd, Nat.reduceMul, Nat.reduceSub, Int.reduceBNe, Int.reduceBEq, Int.reduceLE, Int.reduceLT, Int.reduceToNat, reduceCtorEq, Nat.zero_ne_one, Nat.one_ne_zero, and_self, and_true, true_and, Option.getD_some, Option.isSome_some, wrapL, gt_iff_lt, ge_iff_le, Int.toNat_natCast, Nat.sub_zero, ite_self, spB_TT, Nat.zero_add, Nat.add_zero]
    repeat' (first | refine spB_i (fun _ => ?_) (fun _ => ?_) | refine andB_i ?_ ?_)
    all_goals (refine Ends.keep1 rfl rfl rfl (congrArg _ ?_) rfl; simp only [sortedS, decide_eq_true_eq, decide_eq_false_iff_not] at *; grind)
def k39 : Ct
  | [.sl b 0 len cap], h, n => (hget h b).bind fun k => (intsB len k).bind fun l => some (few l, { v := .b (sortedS l), n, rd := [b] })
  | _, _, _ => none
theorem s39 : SoundAt Tryd.prog 39 k39 := fun args h n c E hc ht => by
  unfold k39 at hc
  split at hc
  · rename_i b len cap
    simp only [Option.bind_eq_some_iff] at hc
    obtain ⟨k, hk, l, hl, he⟩ := hc
    cases he
    obtain ⟨e1, rfl⟩ := intsB_eq hl
    rw [e1] at hk
    exact CallOK.read1 (argsL := [.sl 0 0 l.length cap]) (by kernel_rfl) rfl (rows_bel int1_bel) rfl hk (w39 l cap _ ht)
  · cases hc
def T3 : List (Nat × Ct) := [(31, kWi), (39, k39)]
theorem hT3 : Sound Tryd.prog (cxT T3) := Sound.cons sWi <| Sound.cons s39 Sound.nil
def ratesS (l : List Int) : Bool := l.all (inI 1000 100000000) && sortedS l
theorem w30 (l : List Int) (cap : Nat) (ro : Bool) (h : few l = true) : FTL Tryd.prog 30 [.sl 0 0 l.length cap] [(0, { cells := rows int1 l, ro := ro })] 1 (.b (ratesS l)) [(0, { cells := rows int1 l, ro := ro })] 1 := by
  refine FTL.of_iw hT3 mo' Tryd.func30 i30_eq (by simp [i30]) (iw_of_jw ?_)
  dsimp only [i30, T3]
  have hLb1 : belL 1 (rows int1 l) = true := belL_mono0 _ (rows_bel int1_bel)
  have hu := intsB_rows l ro
  have hc : decide (l.length ≤ 1000000000000) = true := decide_eq_true (by simp only [few, decide_eq_true_eq] at h; omega)
  generalize rows int1 l = L at hu hLb1 ⊢
  simp (config := { maxSteps := 400000 }) only [go_sem, kWi, k39, hu, hc, h, ↓reduceIte, beq_self_eq_true, bne_self_eq_false, Int.reduceAdd, Int.reduceSub, Int.reduceMul, Int.reduceNeg, Int.reduceEq, Int.reduceNe, Int.cast_ofNat_Int, Int.lt_irrefl, Int.le_refl, Nat.reduceEqDiff, Nat.reduceLeDiff, Nat.reduceLT, Int.reducePow, IntKind.bits, Nat.reduceAdd, Nat.reduceMul, Nat.reduceSub, Int.reduceBNe, Int.reduceBEq, Int.reduceLE, Int.reduceLT, Int.reduceToNat, reduceCtorEq, Nat.zero_ne_one, Nat.one_ne_zero, and_self, and_true, true_and, Option.getD_some, Option.isSome_some, wrapL, gt_iff_lt, ge_iff_le, Int.toNat_natCast, Nat.sub_zero, ite_self, spB_TT, Nat.zero_add, Nat.add_zero]
  repeat' (first | refine spB_i (fun _ => ?_) (fun _ => ?_) | refine andB_i ?_ ?_)
  all_goals (refine Ends.keep1 rfl rfl hLb1 (congrArg _ ?_) rfl; simp [ratesS, *])
def k30 : Ct
  | [.sl b 0 len cap], h, n => (hget h b).bind fun k => (intsB len k).bind fun l => some (few l, { v := .b (ratesS l), n, rd := [b] })
  | _, _, _ => none
theorem s30 : SoundAt Tryd.prog 30 k30 := fun args h n c E hc ht => by
  unfold k30 at hc
  split at hc
  · rename_i b len cap
    simp only [Option.bind_eq_some_iff] at hc
    obtain ⟨k, hk, l, hl, he⟩ := hc
    cases he
    obtain ⟨e1, rfl⟩ := intsB_eq hl
    rw [e1] at hk
    exact CallOK.read1 (argsL := [.sl 0 0 l.length cap]) (by kernel_rfl) rfl (rows_bel int1_bel) rfl hk (w30 l cap _ ht)
  · cases hc
structure Rt where
  now : Int
  least : Int
  most : Int
  phase : Int
  mean : Int
  att : Int
  low : Int
  rai : Int
def Rt.l (r : Rt) : List AV := [.i .i64 r.now, .i .i64 r.least, .i .i64 r.most, .i .i64 r.phase, .i .i64 r.mean, .i .i64 r.att, .i .i64 r.low, .i .i64 r.rai]
def zRt : Rt := ⟨0, 0, 0, 0, 0, 0, 0, 0⟩
theorem Rt.eta (r : Rt) : Rt.mk r.now r.least r.most r.phase r.mean r.att r.low r.rai = r := rfl
def isRate (x : Int) : Bool := decide (1000 ≤ x) && decide (x ≤ 100000000)
def Rt.good (r : Rt) : Bool := isRate r.least && isRate r.now && isRate r.most && decide (r.least ≤ r.now) && decide (r.now ≤ r.most) && (decide (0 ≤ r.phase) && decide (r.phase ≤ 1)) && (decide (0 ≤ r.att) && decide (r.att ≤ 1099511627776)) && (decide (0 ≤ r.low) && decide (r.low ≤ r.att)) && (decide (0 ≤ r.rai) && decide (r.rai ≤ r.att)) && (r.mean == 0 || isRate r.mean)
def T4 : List (Nat × Ct) := [(31, kWi), (30, k30)]
theorem hT4 : Sound Tryd.prog (cxT T4) := Sound.cons sWi <| Sound.cons s30 Sound.nil
theorem w11 (r : Rt) : FTL Tryd.prog 11 [.agg r.l] [] 0 (.i .i64 (if r.good then 0 else 300)) [] 0 := by
  refine FTL.of_iw hT4 mo' Tryd.func11 i11_eq (by simp [i11]) (iw_of_jw ?_)
  dsimp only [i11, T4]
  generalize hR : (if r.good then (0 : Int) else 300) = R
  simp (config := { maxSteps := 400000 }) only [go_sem, Rt.l, kWi, k30, intsB, unrows, intV, few, ↓reduceIte, beq_self_eq_true, bne_self_eq_false, Int.reduceAdd, Int.reduceSub, Int.reduceMul, Int.reduceNeg, Int.reduceEq, Int.reduceNe, Int.cast_ofNat_Int, Int.lt_irrefl, Int.le_refl, Nat.reduceEqDiff, Nat.reduceLeDiff, Nat.reduceLT, Int.reducePow, IntKind.bits, Nat.reduceAdd, Nat.reduceMul, Nat.reduceSub, Int.reduceBNe, Int.reduceBEq, Int.reduceLE, Int.reduceLT, Int.reduceToNat, reduceCtorEq, Nat.zero_ne_one, Nat.one_ne_zero, and_self, and_true, true_and, Option.getD_some, Option.isSome_some, wrapL, gt_iff_lt, ge_iff_le, Int.toNat_natCast, Nat.sub_zero, ite_self, spB_TT, Nat.zero_add, Nat.add_zero]
  repeat' (first | refine spB_i (fun _ => ?_) (fun _ => ?_) | refine andB_i ?_ ?_)
  all_goals (refine Ends.pureE rfl (congrArg _ ?_); rw [← hR]; clear hR; simp only [ratesS, sortedS, inI, Rt.good, isRate, List.all_cons, List.all_nil, Bool.and_true] at *; grind)
def rtV (l : List AV) : Option Rt := match l with
  | [.i .i64 a, .i .i64 b, .i .i64 c, .i .i64 d, .i .i64 e, .i .i64 f, .i .i64 g, .i .i64 h] => some ⟨a, b, c, d, e, f, g, h⟩
  | _ => none
theorem rtV_eq {l : List AV} {r : Rt} (h : rtV l = some r) : l = r.l := by
  unfold rtV at h
  split at h
  · cases h; rfl
  · cases h
def k11 : Ct
  | [.agg l], _, n => (rtV l).bind fun r => some (true, { v := .i .i64 (if r.good then 0 else 300), n })
  | _, _, _ => none
theorem s11 : SoundAt Tryd.prog 11 k11 := fun args h n c E hc ht => by
  unfold k11 at hc
  split at hc
  · simp only [Option.bind_eq_some_iff] at hc
    obtain ⟨r, hr, he⟩ := hc
    cases he
    rw [rtV_eq hr]
    exact CallOK.pure (by kernel_rfl) rfl rfl (w11 r) _ _
  · cases hc
theorem w32 (x : Int) : FTL Tryd.prog 32 [.i .i64 x] [] 0 (.b (isRate x)) [] 0 := by
  refine FTL.of_iw Sound.nil mo' Tryd.func32 i32_eq (by simp [i32]) (iw_of_jw ?_)
  dsimp only [i32]
  simp (config := { maxSteps := 400000 }) only [go_sem, ↓reduceIte, beq_self_eq_true, bne_self_eq_false, Int.reduceAdd, Int.reduceSub, Int.reduceMul, Int.reduceNeg, Int.reduceEq, Int.reduceNe, Int.cast_ofNat_Int, Int.lt_irrefl, Int.le_refl, Nat.reduceEqDiff, Nat.reduceLeDiff, Nat.reduceLT, Int.reducePow, IntKind.bits, Nat.reduceAdd, Nat.reduceMul, Nat.reduceSub, Int.reduceBNe, Int.reduceBEq, Int.reduceLE, Int.reduceLT, Int.reduceToNat, reduceCtorEq, Nat.zero_ne_one, Nat.one_ne_zero, and_self, and_true, true_and, Option.getD_some, Option.isSome_some, wrapL, gt_iff_lt, ge_iff_le, Int.toNat_natCast, Nat.sub_zero, ite_self, spB_TT, Nat.zero_add, Nat.add_zero]
  repeat' (first | refine spB_i (fun _ => ?_) (fun _ => ?_) | refine andB_i ?_ ?_)
  all_goals (refine Ends.pureE rfl (congrArg _ ?_); simp [isRate, *])
def k32 : Ct
  | [.i .i64 x], _, n => some (true, { v := .b (isRate x), n })
  | _, _, _ => none
theorem s32 : SoundAt Tryd.prog 32 k32 := fun args h n c E hc ht => by
  unfold k32 at hc
  split at hc
  · cases hc; exact CallOK.pure (by kernel_rfl) rfl rfl (w32 _) _ _
  · cases hc
def T5 : List (Nat × Ct) := [(32, k32)]
theorem hT5 : Sound Tryd.prog (cxT T5) := Sound.cons s32 Sound.nil
theorem w12 (r : Rt) : FTL Tryd.prog 12 [.agg r.l] [] 0 (.b r.good) [] 0 := by
  refine FTL.of_iw hT5 mo' Tryd.func12 i12_eq (by simp [i12]) (iw_of_jw ?_)
  dsimp only [i12, T5]
  generalize hR : r.good = R
  simp (config := { maxSteps := 400000 }) only [go_sem, Rt.l, k32, ↓reduceIte, beq_self_eq_true, bne_self_eq_false, Int.reduceAdd, Int.reduceSub, Int.reduceMul, Int.reduceNeg, Int.reduceEq, Int.reduceNe, Int.cast_ofNat_Int, Int.lt_irrefl, Int.le_refl, Nat.reduceEqDiff, Nat.reduceLeDiff, Nat.reduceLT, Int.reducePow, IntKind.bits, Nat.reduceAdd, Nat.reduceMul, Nat.reduceSub, Int.reduceBNe, Int.reduceBEq, Int.reduceLE, Int.reduceLT, Int.reduceToNat, reduceCtorEq, Nat.zero_ne_one, Nat.one_ne_zero, and_self, and_true, true_and, Option.getD_some, Option.isSome_some, wrapL, gt_iff_lt, ge_iff_le, Int.toNat_natCast, Nat.sub_zero, ite_self, spB_TT, Nat.zero_add, Nat.add_zero]
  repeat' (first | refine spB_i (fun _ => ?_) (fun _ => ?_) | refine andB_i ?_ ?_)
  all_goals (refine Ends.pureE rfl (congrArg _ ?_); rw [← hR]; clear hR; simp only [Rt.good] at *; grind)
def k12 : Ct
  | [.agg l], _, n => (rtV l).bind fun r => some (true, { v := .b r.good, n })
  | _, _, _ => none
theorem s12 : SoundAt Tryd.prog 12 k12 := fun args h n c E hc ht => by
  unfold k12 at hc
  split at hc
  · simp only [Option.bind_eq_some_iff] at hc
    obtain ⟨r, hr, he⟩ := hc
    cases he
    rw [rtV_eq hr]
    exact CallOK.pure (by kernel_rfl) rfl rfl (w12 r) _ _
  · cases hc
/-- New. -/
def newS (now least most : Int) : Rt × Int := if isRate least && isRate now && isRate most && decide (least ≤ now) && decide (now ≤ most) then (⟨now, least, most, 1, 0, 0, 0, 0⟩, 0) else (zRt, 2)
def T6 : List (Nat × Ct) := [(30, k30)]
theorem hT6 : Sound Tryd.prog (cxT T6) := Sound.cons s30 Sound.nil
theorem w16 (a b c : Int) : FTL Tryd.prog 16 [.i .i64 a, .i .i64 b, .i .i64 c] [] 0 (.tup [.agg (newS a b c).1.l, .i .i64 (newS a b c).2]) [] 0 := by
  refine FTL.of_iw hT6 mo' Tryd.func16 i16_eq (by simp [i16]) (iw_of_jw ?_)
  dsimp only [i16, T6]
  generalize hR : newS a b c = R
  simp (config := { maxSteps := 400000 }) only [go_sem, k30, intsB, unrows, intV, few, ↓reduceIte, beq_self_eq_true, bne_self_eq_false, Int.reduceAdd, Int.reduceSub, Int.reduceMul, Int.reduceNeg, Int.reduceEq, Int.reduceNe, Int.cast_ofNat_Int, Int.lt_irrefl, Int.le_refl, Nat.reduceEqDiff, Nat.reduceLeDiff, Nat.reduceLT, Int.reducePow, IntKind.bits, Nat.reduceAdd, Nat.reduceMul, Nat.reduceSub, Int.reduceBNe, Int.reduceBEq, Int.reduceLE, Int.reduceLT, Int.reduceToNat, reduceCtorEq, Nat.zero_ne_one, Nat.one_ne_zero, and_self, and_true, true_and, Option.getD_some, Option.isSome_some, wrapL, gt_iff_lt, ge_iff_le, Int.toNat_natCast, Nat.sub_zero, ite_self, spB_TT, Nat.zero_add, Nat.add_zero]
  repeat' (first | refine spB_i (fun _ => ?_) (fun _ => ?_) | refine andB_i ?_ ?_)
  all_goals (refine Ends.pureE rfl ?_; rw [← hR]; clear hR; simp only [ratesS, sortedS, inI, newS, isRate, zRt, Rt.l, List.all_cons, List.all_nil, Bool.and_true] at *; grind)
theorem w17 (a b c : Int) : FTL Tryd.prog 17 [.i .i64 a, .i .i64 b, .i .i64 c] [] 0 (.tup [.agg (newS a b c).1.l, .i .i64 (newS a b c).2]) [] 0 := by
  refine FTL.of_iw hT5 mo' Tryd.func17 i17_eq (by simp [i17]) (iw_of_jw ?_)
  dsimp only [i17, T5]
  generalize hR : newS a b c = R
  simp (config := { maxSteps := 400000 }) only [go_sem, k32, ↓reduceIte, beq_self_eq_true, bne_self_eq_false, Int.reduceAdd, Int.reduceSub, Int.reduceMul, Int.reduceNeg, Int.reduceEq, Int.reduceNe, Int.cast_ofNat_Int, Int.lt_irrefl, Int.le_refl, Nat.reduceEqDiff, Nat.reduceLeDiff, Nat.reduceLT, Int.reducePow, IntKind.bits, Nat.reduceAdd, Nat.reduceMul, Nat.reduceSub, Int.reduceBNe, Int.reduceBEq, Int.reduceLE, Int.reduceLT, Int.reduceToNat, reduceCtorEq, Nat.zero_ne_one, Nat.one_ne_zero, and_self, and_true, true_and, Option.getD_some, Option.isSome_some, wrapL, gt_iff_lt, ge_iff_le, Int.toNat_natCast, Nat.sub_zero, ite_self, spB_TT, Nat.zero_add, Nat.add_zero]
  repeat' (first | refine spB_i (fun _ => ?_) (fun _ => ?_) | refine andB_i ?_ ?_)
  all_goals (refine Ends.pureE rfl ?_; rw [← hR]; clear hR; simp only [newS, zRt, Rt.l] at *; grind)
def k16 : Ct
  | [.i .i64 a, .i .i64 b, .i .i64 c], _, n => some (true, { v := .tup [.agg (newS a b c).1.l, .i .i64 (newS a b c).2], n })
  | _, _, _ => none
theorem s16 : SoundAt Tryd.prog 16 k16 := fun args h n c E hc ht => by
  unfold k16 at hc
  split at hc
  · cases hc; exact CallOK.pure (by kernel_rfl) rfl rfl (w16 _ _ _) _ _
  · cases hc
theorem s17 : SoundAt Tryd.prog 17 k16 := fun args h n c E hc ht => by
  unfold k16 at hc
  split at hc
  · cases hc; exact CallOK.pure (by kernel_rfl) rfl rfl (w17 _ _ _) _ _
  · cases hc
end Go.Proofs.Rate
end
section
/- Contracts of chapter 30: changes. -/
namespace Go.Proofs.Rate
open Go.Ab
set_option maxRecDepth 100000
set_option maxHeartbeats 4000000
set_option linter.unusedSimpArgs false
set_option linter.unusedVariables false

structure Ch where
  r : Rt
  passed : Int
  arr : Int
def Ch.l (c : Ch) : List AV := [.i .i64 c.r.now, .i .i64 c.r.least, .i .i64 c.r.most, .i .i64 c.r.phase, .i .i64 c.r.mean, .i .i64 c.r.att, .i .i64 c.r.low, .i .i64 c.r.rai, .i .i64 c.passed, .i .i64 c.arr]
def chV (k : Blk) : Option Ch := match k with
  | ⟨[.i .i64 a, .i .i64 b, .i .i64 c, .i .i64 d, .i .i64 e, .i .i64 f, .i .i64 g, .i .i64 h, .i .i64 i, .i .i64 j], false, none, none⟩ => some ⟨⟨a, b, c, d, e, f, g, h⟩, i, j⟩
  | _ => none
theorem chV_eq {k : Blk} {c : Ch} (h : chV k = some c) : k = { cells := c.l } := by
  unfold chV at h
  split at h
  · cases h; rfl
  · cases h
theorem Ch.eta (c : Ch) : Ch.mk (Rt.mk c.r.now c.r.least c.r.most c.r.phase c.r.mean c.r.att c.r.low c.r.rai) c.passed c.arr = c := rfl
/-- The error of a state and a time. -/
def lateE (r : Rt) (now : Int) : Int := if !r.good then 300 else if decide (now < r.att) || decide (1099511627776 < now) then 2 else 0
def startC (r : Rt) (now : Int) : Ch := ⟨{ r with att := now }, now - r.att, 0⟩
def T7 : List (Nat × Ct) := [(11, k11)]
theorem hT7 : Sound Tryd.prog (cxT T7) := Sound.cons s11 Sound.nil
theorem late_ok {r : Rt} {now : Int} (h : lateE r now = 0) : r.good = true ∧ r.att ≤ now ∧ now ≤ 1099511627776 := by
  unfold lateE at h
  cases hg : r.good
  · simp [hg] at h
  · by_cases h1 : now < r.att
    · simp [hg, h1] at h
    · by_cases h2 : 1099511627776 < now
      · simp [hg, h1, h2] at h
      · exact ⟨rfl, by omega, by omega⟩
theorem good_iff {r : Rt} (h : r.good = true) : (1000 ≤ r.least ∧ r.least ≤ 100000000) ∧ (1000 ≤ r.now ∧ r.now ≤ 100000000) ∧ (1000 ≤ r.most ∧ r.most ≤ 100000000) ∧ r.least ≤ r.now ∧ r.now ≤ r.most ∧ (0 ≤ r.phase ∧ r.phase ≤ 1) ∧ (0 ≤ r.att ∧ r.att ≤ 1099511627776) ∧ (0 ≤ r.low ∧ r.low ≤ r.att) ∧ (0 ≤ r.rai ∧ r.rai ≤ r.att) ∧ (r.mean = 0 ∨ (1000 ≤ r.mean ∧ r.mean ≤ 100000000)) := by
  simp only [Rt.good, isRate, Bool.and_eq_true, Bool.or_eq_true, decide_eq_true_eq, beq_iff_eq] at h
  grind
theorem w33e (r : Rt) (now : Int) (h : lateE r now ≠ 0) : FTL Tryd.prog 33 [.agg r.l, .i .i64 now] [] 0 (.tup [.np, .i .i64 (lateE r now)]) [] 0 := by
  refine FTL.of_iw hT7 mo' Tryd.func33 i33_eq (by simp [i33]) (iw_of_jw ?_)
  dsimp only [i33, T7]
  generalize hR : lateE r now = R at h
  cases hg : r.good
  · simp (config := { maxSteps := 400000 }) only [go_sem, Rt.l, k11, rtV, Rt.eta, hg, Bool.false_eq_true, ↓reduceIte, beq_self_eq_true, bne_self_eq_false, Int.reduceAdd, Int.reduceSub, Int.reduceMul, Int.reduceNeg, Int.reduceEq, Int.reduceNe, Int.cast_ofNat_Int, Int.lt_irrefl, Int.le_refl, Nat.reduceEqDiff, Nat.reduceLeDiff, Nat.reduceLT, Int.reducePow, IntKind.bits, Nat.reduceAdd, Nat.reduceMul, Nat.reduceSub, Int.reduceBNe, Int.reduceBEq, Int.reduceLE, Int.reduceLT, Int.reduceToNat, reduceCtorEq, Nat.zero_ne_one, Nat.one_ne_zero, and_self, and_true, true_and, Option.getD_some, Option.isSome_some, wrapL, gt_iff_lt, ge_iff_le, Int.toNat_natCast, Nat.sub_zero, ite_self, spB_TT, Nat.zero_add, Nat.add_zero]
    exact Ends.pureE rfl (by rw [← hR]; simp [lateE, hg])
  · by_cases hb : (decide (now < r.att) || decide (1099511627776 < now)) = true
    · have hR2 : R = 2 := by rw [← hR]; simp [lateE, hg, hb]
      simp (config := { maxSteps := 400000 }) only [go_sem, Rt.l, k11, rtV, Rt.eta, hg, ↓reduceIte, beq_self_eq_true, bne_self_eq_false, Int.reduceAdd, Int.reduceSub, Int.reduceMul, Int.reduceNeg, Int.reduceEq, Int.reduceNe, Int.cast_ofNat_Int, Int.lt_irrefl, Int.le_refl, Nat.reduceEqDiff, Nat.reduceLeDiff, Nat.reduceLT, Int.reducePow, IntKind.bits, Nat.reduceAdd, Nat.reduceMul, Nat.reduceSub, Int.reduceBNe, Int.reduceBEq, Int.reduceLE, Int.reduceLT, Int.reduceToNat, reduceCtorEq, Nat.zero_ne_one, Nat.one_ne_zero, and_self, and_true, true_and, Option.getD_some, Option.isSome_some, wrapL, gt_iff_lt, ge_iff_le, Int.toNat_natCast, Nat.sub_zero, ite_self, spB_TT, Nat.zero_add, Nat.add_zero]
      repeat' (first | refine spB_i (fun _ => ?_) (fun _ => ?_) | refine andB_i ?_ ?_)
      all_goals first
        | (exact Ends.pureE rfl (by rw [hR2]))
        | (exfalso; simp at *; omega)
    · exfalso; rw [← hR] at h; simp [lateE, hg] at h; simp at hb; omega
theorem w33 (r : Rt) (now : Int) (h : lateE r now = 0) : FTL Tryd.prog 33 [.agg r.l, .i .i64 now] [] 0 (.tup [.p 0 0, .i .i64 0]) [(0, { cells := (startC r now).l })] 1 := by
  refine FTL.of_iw hT7 mo' Tryd.func33 i33_eq (by simp [i33]) (iw_of_jw ?_)
  dsimp only [i33, T7]
  obtain ⟨hg, h1, h2⟩ := late_ok h
  have hg' := good_iff hg
  have c1 : decide (now < r.att) = false := decide_eq_false (by omega)
  have c2 : decide (1099511627776 < now) = false := decide_eq_false (by omega)
  have hw : IntKind.i64.wrap (now - r.att) = now - r.att := wrapL (by omega) (by omega)
  simp (config := { maxSteps := 400000 }) only [go_sem, Rt.l, Ch.l, startC, k11, rtV, Rt.eta, hg, c1, c2, hw, ↓reduceIte, beq_self_eq_true, bne_self_eq_false, Int.reduceAdd, Int.reduceSub, Int.reduceMul, Int.reduceNeg, Int.reduceEq, Int.reduceNe, Int.cast_ofNat_Int, Int.lt_irrefl, Int.le_refl, Nat.reduceEqDiff, Nat.reduceLeDiff, Nat.reduceLT, Int.reducePow, IntKind.bits, Nat.reduceAdd, Nat.reduceMul, Nat.reduceSub, Int.reduceBNe, Int.reduceBEq, Int.reduceLE, Int.reduceLT, Int.reduceToNat, reduceCtorEq, Nat.zero_ne_one, Nat.one_ne_zero, and_self, and_true, true_and, Option.getD_some, Option.isSome_some, wrapL, gt_iff_lt, ge_iff_le, Int.toNat_natCast, Nat.sub_zero, ite_self, spB_TT, Nat.zero_add, Nat.add_zero]
  refine Ends.new1 (b := 1) (by decide) rfl rfl rfl rfl rfl
def k33 : Ct
  | [.agg l, .i .i64 now], _, n => (rtV l).bind fun r => iteD (decide (lateE r now = 0)) (some (true, { v := .tup [.p n 0, .i .i64 0], n := n + 1, nw := [(n, { cells := (startC r now).l })] })) (some (true, { v := .tup [.np, .i .i64 (lateE r now)], n }))
  | _, _, _ => none
theorem s33 : SoundAt Tryd.prog 33 k33 := fun args h n c E hc ht => by
  unfold k33 at hc
  split at hc
  · rename_i l now
    simp only [Option.bind_eq_some_iff] at hc
    obtain ⟨r, hr, he⟩ := hc
    rw [rtV_eq hr]
    by_cases h0 : lateE r now = 0
    · simp only [h0, decide_true, iteD_t] at he
      cases he
      exact CallOK.new1 (v := .tup [.p 0 0, .i .i64 0]) (k := { cells := (startC r now).l }) (by kernel_rfl) rfl rfl rfl (w33 r now h0)
    · simp only [h0, decide_false, iteD_f] at he
      cases he
      exact CallOK.pure (by kernel_rfl) rfl rfl (w33e r now h0) _ _
  · cases hc
def setR (r : Rt) (x : Int) : Rt := { r with now := max r.least (min x r.most) }
theorem w34 (c : Ch) (x : Int) : FTL Tryd.prog 34 [.p 0 0, .i .i64 x] [(0, { cells := c.l })] 1 (.tup []) [(0, { cells := ({ c with r := setR c.r x } : Ch).l })] 1 := by
  refine FTL.of_iw Sound.nil mo' Tryd.func34 i34_eq (by simp [i34]) (iw_of_jw ?_)
  dsimp only [i34]
  simp (config := { maxSteps := 400000 }) only [go_sem, Ch.l, setR, ↓reduceIte, beq_self_eq_true, bne_self_eq_false, Int.reduceAdd, Int.reduceSub, Int.reduceMul, Int.reduceNeg, Int.reduceEq, Int.reduceNe, Int.cast_ofNat_Int, Int.lt_irrefl, Int.le_refl, Nat.reduceEqDiff, Nat.reduceLeDiff, Nat.reduceLT, Int.reducePow, IntKind.bits, Nat.reduceAdd, Nat.reduceMul, Nat.reduceSub, Int.reduceBNe, Int.reduceBEq, Int.reduceLE, Int.reduceLT, Int.reduceToNat, reduceCtorEq, Nat.zero_ne_one, Nat.one_ne_zero, and_self, and_true, true_and, Option.getD_some, Option.isSome_some, wrapL, gt_iff_lt, ge_iff_le, Int.toNat_natCast, Nat.sub_zero, ite_self, spB_TT, Nat.zero_add, Nat.add_zero]
  refine Ends.keep1 rfl rfl rfl rfl rfl
def k34 : Ct
  | [.p b 0, .i .i64 x], h, n => (hget h b).bind fun k => (chV k).bind fun c => some (true, { v := .tup [], n, rd := [b], md := [(b, some { cells := ({ c with r := setR c.r x } : Ch).l })] })
  | _, _, _ => none
theorem s34 : SoundAt Tryd.prog 34 k34 := fun args h n c E hc ht => by
  unfold k34 at hc
  split at hc
  · rename_i b x
    simp only [Option.bind_eq_some_iff] at hc
    obtain ⟨k, hk, ch, hm, he⟩ := hc
    cases he
    rw [chV_eq hm] at hk
    exact CallOK.upd1 (argsL := [.p 0 0, .i .i64 x]) (by kernel_rfl) rfl rfl rfl rfl rfl hk (w34 ch x)
  · cases hc
/-- The reference's. -/
def T8 : List (Nat × Ct) := [(12, k12)]
theorem hT8 : Sound Tryd.prog (cxT T8) := Sound.cons s12 Sound.nil
theorem w35 (r : Rt) (now : Int) : FTL Tryd.prog 35 [.agg r.l, .i .i64 now] [] 0 (.i .i64 (lateE r now)) [] 0 := by
  refine FTL.of_iw hT8 mo' Tryd.func35 i35_eq (by simp [i35]) (iw_of_jw ?_)
  dsimp only [i35, T8]
  generalize hR : lateE r now = R
  cases hg : r.good
  · simp (config := { maxSteps := 400000 }) only [go_sem, Rt.l, k12, rtV, Rt.eta, hg, ↓reduceIte, beq_self_eq_true, bne_self_eq_false, Int.reduceAdd, Int.reduceSub, Int.reduceMul, Int.reduceNeg, Int.reduceEq, Int.reduceNe, Int.cast_ofNat_Int, Int.lt_irrefl, Int.le_refl, Nat.reduceEqDiff, Nat.reduceLeDiff, Nat.reduceLT, Int.reducePow, IntKind.bits, Nat.reduceAdd, Nat.reduceMul, Nat.reduceSub, Int.reduceBNe, Int.reduceBEq, Int.reduceLE, Int.reduceLT, Int.reduceToNat, reduceCtorEq, Nat.zero_ne_one, Nat.one_ne_zero, and_self, and_true, true_and, Option.getD_some, Option.isSome_some, wrapL, gt_iff_lt, ge_iff_le, Int.toNat_natCast, Nat.sub_zero, ite_self, spB_TT, Nat.zero_add, Nat.add_zero]
    exact Ends.pureE rfl (by rw [← hR]; simp [lateE, hg])
  · simp (config := { maxSteps := 400000 }) only [go_sem, Rt.l, k12, rtV, Rt.eta, hg, ↓reduceIte, beq_self_eq_true, bne_self_eq_false, Int.reduceAdd, Int.reduceSub, Int.reduceMul, Int.reduceNeg, Int.reduceEq, Int.reduceNe, Int.cast_ofNat_Int, Int.lt_irrefl, Int.le_refl, Nat.reduceEqDiff, Nat.reduceLeDiff, Nat.reduceLT, Int.reducePow, IntKind.bits, Nat.reduceAdd, Nat.reduceMul, Nat.reduceSub, Int.reduceBNe, Int.reduceBEq, Int.reduceLE, Int.reduceLT, Int.reduceToNat, reduceCtorEq, Nat.zero_ne_one, Nat.one_ne_zero, and_self, and_true, true_and, Option.getD_some, Option.isSome_some, wrapL, gt_iff_lt, ge_iff_le, Int.toNat_natCast, Nat.sub_zero, ite_self, spB_TT, Nat.zero_add, Nat.add_zero]
    repeat' (first | refine spB_i (fun _ => ?_) (fun _ => ?_) | refine andB_i ?_ ?_)
    all_goals (refine Ends.pureE rfl ?_; rw [← hR]; simp [lateE, hg, *])
def k35 : Ct
  | [.agg l, .i .i64 now], _, n => (rtV l).bind fun r => some (true, { v := .i .i64 (lateE r now), n })
  | _, _, _ => none
theorem s35 : SoundAt Tryd.prog 35 k35 := fun args h n c E hc ht => by
  unfold k35 at hc
  split at hc
  · simp only [Option.bind_eq_some_iff] at hc
    obtain ⟨r, hr, he⟩ := hc
    cases he
    rw [rtV_eq hr]
    exact CallOK.pure (by kernel_rfl) rfl rfl (w35 r _) _ _
  · cases hc
theorem w36 (r : Rt) (x : Int) : FTL Tryd.prog 36 [.agg r.l, .i .i64 x] [] 0 (.agg ({ r with now := min (max x r.least) r.most } : Rt).l) [] 0 := by
  refine FTL.of_iw Sound.nil mo' Tryd.func36 i36_eq (by simp [i36]) (iw_of_jw ?_)
  dsimp only [i36]
  simp (config := { maxSteps := 400000 }) only [go_sem, Rt.l, ↓reduceIte, beq_self_eq_true, bne_self_eq_false, Int.reduceAdd, Int.reduceSub, Int.reduceMul, Int.reduceNeg, Int.reduceEq, Int.reduceNe, Int.cast_ofNat_Int, Int.lt_irrefl, Int.le_refl, Nat.reduceEqDiff, Nat.reduceLeDiff, Nat.reduceLT, Int.reducePow, IntKind.bits, Nat.reduceAdd, Nat.reduceMul, Nat.reduceSub, Int.reduceBNe, Int.reduceBEq, Int.reduceLE, Int.reduceLT, Int.reduceToNat, reduceCtorEq, Nat.zero_ne_one, Nat.one_ne_zero, and_self, and_true, true_and, Option.getD_some, Option.isSome_some, wrapL, gt_iff_lt, ge_iff_le, Int.toNat_natCast, Nat.sub_zero, ite_self, spB_TT, Nat.zero_add, Nat.add_zero]
  exact Ends.pureE rfl rfl
def k36 : Ct
  | [.agg l, .i .i64 x], _, n => (rtV l).bind fun r => some (true, { v := .agg ({ r with now := min (max x r.least) r.most } : Rt).l, n })
  | _, _, _ => none
theorem s36 : SoundAt Tryd.prog 36 k36 := fun args h n c E hc ht => by
  unfold k36 at hc
  split at hc
  · simp only [Option.bind_eq_some_iff] at hc
    obtain ⟨r, hr, he⟩ := hc
    cases he
    rw [rtV_eq hr]
    exact CallOK.pure (by kernel_rfl) rfl rfl (w36 r _) _ _
  · cases hc
end Go.Proofs.Rate
end
section
/- Contracts of chapter 30: Bound, Lossy, Probe. -/
namespace Go.Proofs.Rate
open Go.Ab
set_option maxRecDepth 100000
set_option maxHeartbeats 4000000
set_option linter.unusedSimpArgs false
set_option linter.unusedVariables false

def rset (r : Rt) (x : Int) : Rt := { r with now := min (max x r.least) r.most }
theorem rset_eq {r : Rt} (h : r.least ≤ r.most) (x : Int) : rset r x = setR r x := by
  have : min (max x r.least) r.most = max r.least (min x r.most) := by omega
  simp only [rset, setR, this]
def boundS (r : Rt) (now least most : Int) : Rt × Int :=
  if lateE r now ≠ 0 then (zRt, lateE r now)
  else if isRate least && isRate most && decide (least ≤ most) then ({ setR { r with least := least, most := most } r.now with att := now }, 0)
  else (zRt, 2)
def T9 : List (Nat × Ct) := [(33, k33), (34, k34), (30, k30), (31, kWi)]
theorem hT9 : Sound Tryd.prog (cxT T9) := Sound.cons s33 <| Sound.cons s34 <| Sound.cons s30 <| Sound.cons sWi Sound.nil
def T10 : List (Nat × Ct) := [(35, k35), (36, k36), (32, k32)]
theorem hT10 : Sound Tryd.prog (cxT T10) := Sound.cons s35 <| Sound.cons s36 <| Sound.cons s32 Sound.nil
theorem w13 (r : Rt) (now a b : Int) : FTL Tryd.prog 13 [.agg r.l, .i .i64 now, .i .i64 a, .i .i64 b] [] 0 (.tup [.agg (boundS r now a b).1.l, .i .i64 (boundS r now a b).2]) [] 0 := by
  refine FTL.of_iw hT9 mo' Tryd.func13 i13_eq (by simp [i13]) (iw_of_jw ?_)
  dsimp only [i13, T9]
  by_cases h0 : lateE r now = 0
  · generalize hR : boundS r now a b = R
    have hd : decide (lateE r now = 0) = true := decide_eq_true h0
    simp (config := { maxSteps := 400000 }) only [go_sem, Rt.l, Ch.l, startC, k33, k34, k30, rtV, chV, Rt.eta, Ch.eta, hd, iteD_t, intsB, unrows, intV, few, ↓reduceIte, beq_self_eq_true, bne_self_eq_false, Int.reduceAdd, Int.reduceSub, Int.reduceMul, Int.reduceNeg, Int.reduceEq, Int.reduceNe, Int.cast_ofNat_Int, Int.lt_irrefl, Int.le_refl, Nat.reduceEqDiff, Nat.reduceLeDiff, Nat.reduceLT, Int.reducePow, IntKind.bits, Nat.reduceAdd, Nat.reduceMul, Nat.reduceSub, Int.reduceBNe, Int.reduceBEq, Int.reduceLE, Int.reduceLT, Int.reduceToNat, reduceCtorEq, Nat.zero_ne_one, Nat.one_ne_zero, and_self, and_true, true_and, Option.getD_some, Option.isSome_some, wrapL, gt_iff_lt, ge_iff_le, Int.toNat_natCast, Nat.sub_zero, ite_self, spB_TT, Nat.zero_add, Nat.add_zero]
    repeat' (first | refine spB_i (fun _ => ?_) (fun _ => ?_) | refine andB_i ?_ ?_)
    all_goals (refine Ends.pureE rfl ?_; rw [← hR]; clear hR; simp only [ratesS, sortedS, inI, boundS, isRate, zRt, Rt.l, setR, h0, List.all_cons, List.all_nil, Bool.and_true] at *; grind)
  · generalize hR : boundS r now a b = R
    have hd : decide (lateE r now = 0) = false := decide_eq_false h0
    have hR' : R = (zRt, lateE r now) := by rw [← hR]; simp [boundS, h0]
    simp (config := { maxSteps := 400000 }) only [go_sem, Rt.l, Ch.l, startC, k33, k34, k30, rtV, chV, Rt.eta, Ch.eta, hd, iteD_f, ↓reduceIte, beq_self_eq_true, bne_self_eq_false, Int.reduceAdd, Int.reduceSub, Int.reduceMul, Int.reduceNeg, Int.reduceEq, Int.reduceNe, Int.cast_ofNat_Int, Int.lt_irrefl, Int.le_refl, Nat.reduceEqDiff, Nat.reduceLeDiff, Nat.reduceLT, Int.reducePow, IntKind.bits, Nat.reduceAdd, Nat.reduceMul, Nat.reduceSub, Int.reduceBNe, Int.reduceBEq, Int.reduceLE, Int.reduceLT, Int.reduceToNat, reduceCtorEq, Nat.zero_ne_one, Nat.one_ne_zero, and_self, and_true, true_and, Option.getD_some, Option.isSome_some, wrapL, gt_iff_lt, ge_iff_le, Int.toNat_natCast, Nat.sub_zero, ite_self, spB_TT, Nat.zero_add, Nat.add_zero]
    repeat' (first | refine spB_i (fun _ => ?_) (fun _ => ?_) | refine andB_i ?_ ?_)
    all_goals (first | (refine Ends.pureE rfl ?_; rw [hR']; rfl) | (exfalso; omega) | grind)
theorem w14 (r : Rt) (now a b : Int) : FTL Tryd.prog 14 [.agg r.l, .i .i64 now, .i .i64 a, .i .i64 b] [] 0 (.tup [.agg (boundS r now a b).1.l, .i .i64 (boundS r now a b).2]) [] 0 := by
  refine FTL.of_iw hT10 mo' Tryd.func14 i14_eq (by simp [i14]) (iw_of_jw ?_)
  dsimp only [i14, T10]
  generalize hR : boundS r now a b = R
  simp (config := { maxSteps := 400000 }) only [go_sem, Rt.l, k35, k36, k32, rtV, Rt.eta, ↓reduceIte, beq_self_eq_true, bne_self_eq_false, Int.reduceAdd, Int.reduceSub, Int.reduceMul, Int.reduceNeg, Int.reduceEq, Int.reduceNe, Int.cast_ofNat_Int, Int.lt_irrefl, Int.le_refl, Nat.reduceEqDiff, Nat.reduceLeDiff, Nat.reduceLT, Int.reducePow, IntKind.bits, Nat.reduceAdd, Nat.reduceMul, Nat.reduceSub, Int.reduceBNe, Int.reduceBEq, Int.reduceLE, Int.reduceLT, Int.reduceToNat, reduceCtorEq, Nat.zero_ne_one, Nat.one_ne_zero, and_self, and_true, true_and, Option.getD_some, Option.isSome_some, wrapL, gt_iff_lt, ge_iff_le, Int.toNat_natCast, Nat.sub_zero, ite_self, spB_TT, Nat.zero_add, Nat.add_zero]
  repeat' (first | refine spB_i (fun _ => ?_) (fun _ => ?_) | refine andB_i ?_ ?_)
  all_goals (refine Ends.pureE rfl ?_; rw [← hR]; clear hR; simp only [boundS, isRate, zRt, Rt.l, setR] at *; grind)
end Go.Proofs.Rate
end
