/- Contracts of chapter 30: the state behind a draft's events. -/
import Derived.Test.YtbnmgcfipgfllaaDoorRatD1
namespace Go.Proofs.Rate
open Go.Ab
set_option maxRecDepth 100000
set_option maxHeartbeats 4000000
set_option linter.unusedSimpArgs false
set_option linter.unusedVariables false

def r0S (a b c : Int) : Rt := (newS (stN a) (stL a b) (stM a c)).1
def behind (a b c : Int) (l : List Ev) (k : Nat) : Rt := (l.take k).foldl stepS (r0S a b c)
def draftS (a b c : Int) (l : List Ev) : Rt := behind a b c l 40
theorem behind_zero (a b c : Int) (l : List Ev) : behind a b c l 0 = r0S a b c := by simp [behind]
theorem behind_succ {a b c : Int} {l : List Ev} {k : Nat} {x : Ev} (h : l[k]? = some x) : behind a b c l (k + 1) = stepS (behind a b c l k) x := by
  simp only [behind, List.take_add_one, h, Option.toList_some, List.foldl_append, List.foldl_cons, List.foldl_nil]
theorem behind_end {a b c : Int} {l : List Ev} {k : Nat} (h : l.length ≤ k) (hk : k ≤ 40) : behind a b c l k = draftS a b c l := by
  simp only [draftS, behind, List.take_of_length_le h, List.take_of_length_le (show l.length ≤ 40 by omega)]
def T15 : List (Nat × Ct) := [(15, k15), (17, k16), (38, k38)]
theorem hT15 : Sound Tryd.prog (cxT T15) := Sound.cons s15 <| Sound.cons s17 <| Sound.cons s38 Sound.nil
theorem w26n (a b c : Int) (ha : u32B a = true) (hb : u32B b = true) (hc : u32B c = true) : FTL Tryd.prog 26 [.agg [.i .u32 a, .i .u32 b, .i .u32 c, .ns]] [] 0 (.agg (draftS a b c []).l) [] 0 := by
  refine FTL.of_iw hT15 mo' Tryd.func26 i26_eq (by simp [i26]) (iw_of_jw ?_)
  dsimp only [i26, T15]
  have hR : draftS a b c [] = r0S a b c := rfl
  rw [hR]
  unfold r0S
  simp (config := { maxSteps := 400000 }) only [go_sem, Rt.l, k15, k16, ha, hb, hc, ↓reduceIte, beq_self_eq_true, bne_self_eq_false, Int.reduceAdd, Int.reduceSub, Int.reduceMul, Int.reduceNeg, Int.reduceEq, Int.reduceNe, Int.cast_ofNat_Int, Int.lt_irrefl, Int.le_refl, Nat.reduceEqDiff, Nat.reduceLeDiff, Nat.reduceLT, Int.reducePow, IntKind.bits, Nat.reduceAdd, Nat.reduceMul, Nat.reduceSub, Int.reduceBNe, Int.reduceBEq, Int.reduceLE, Int.reduceLT, Int.reduceToNat, reduceCtorEq, Nat.zero_ne_one, Nat.one_ne_zero, and_self, and_true, true_and, Option.getD_some, Option.isSome_some, wrapL, gt_iff_lt, ge_iff_le, Int.toNat_natCast, Nat.sub_zero, ite_self, spB_TT, Nat.zero_add, Nat.add_zero]
  refine Loop.rounds (F := ⟨Tryd.prog, cxT T15, [23], 34, 0⟩) 1 hT15 mo' ?_
  dsimp only [T15]
  simp (config := { maxSteps := 400000 }) only [go_sem, Rt.l, k15, k16, ha, hb, hc, ↓reduceIte, beq_self_eq_true, bne_self_eq_false, Int.reduceAdd, Int.reduceSub, Int.reduceMul, Int.reduceNeg, Int.reduceEq, Int.reduceNe, Int.cast_ofNat_Int, Int.lt_irrefl, Int.le_refl, Nat.reduceEqDiff, Nat.reduceLeDiff, Nat.reduceLT, Int.reducePow, IntKind.bits, Nat.reduceAdd, Nat.reduceMul, Nat.reduceSub, Int.reduceBNe, Int.reduceBEq, Int.reduceLE, Int.reduceLT, Int.reduceToNat, reduceCtorEq, Nat.zero_ne_one, Nat.one_ne_zero, and_self, and_true, true_and, Option.getD_some, Option.isSome_some, wrapL, gt_iff_lt, ge_iff_le, Int.toNat_natCast, Nat.sub_zero, ite_self, spB_TT, Nat.zero_add, Nat.add_zero]
  exact Ends.pureE rfl rfl
theorem w26 (a b c : Int) (l : List Ev) (cap : Nat) (ro : Bool) (ha : u32B a = true) (hb : u32B b = true) (hc : u32B c = true) (hl : l.all Ev.ok = true) : FTL Tryd.prog 26 [.agg [.i .u32 a, .i .u32 b, .i .u32 c, .sl 0 0 l.length cap]] [(0, { cells := rows Ev.l l, ro := ro })] 1 (.agg (draftS a b c l).l) [(0, { cells := rows Ev.l l, ro := ro })] 1 := by
  refine FTL.of_iw hT15 mo' Tryd.func26 i26_eq (by simp [i26]) (iw_of_jw ?_)
  dsimp only [i26, T15]
  have hu := evsB_rows l ro
  have hLb : belL 4 (rows Ev.l l) = true := belL_mono0 _ (rows_bel Ev.l_bel)
  have hLb1 : belL 1 (rows Ev.l l) = true := belL_mono0 _ (rows_bel Ev.l_bel)
  have hLl : (rows Ev.l l).length = l.length * 5 := rows_len Ev.l_len
  have hrow : ∀ k (h : k < l.length), List.take 5 (List.drop (k * 5) (rows Ev.l l)) = (l[k]).l := fun k h => rows_at Ev.l_len (List.getElem?_eq_getElem h)
  have hsuc : ∀ k (h : k < l.length), behind a b c l (k + 1) = stepS (behind a b c l k) l[k] := fun k h => behind_succ (List.getElem?_eq_getElem h)
  have hend := @behind_end a b c l
  have h0 : behind a b c l 0 = r0S a b c := behind_zero a b c l
  have hall : ∀ k (h : k < l.length), (l[k]).ok = true := fun k h => List.all_eq_true.1 hl _ (List.getElem_mem h)
  have hget : ∀ k (h : k < l.length), ∃ x, l[k] = x := fun k h => ⟨_, rfl⟩
  generalize rows Ev.l l = L at *
  simp (config := { maxSteps := 400000 }) only [go_sem, Rt.l, k15, k16, ha, hb, hc, hu, ↓reduceIte, beq_self_eq_true, bne_self_eq_false, Int.reduceAdd, Int.reduceSub, Int.reduceMul, Int.reduceNeg, Int.reduceEq, Int.reduceNe, Int.cast_ofNat_Int, Int.lt_irrefl, Int.le_refl, Nat.reduceEqDiff, Nat.reduceLeDiff, Nat.reduceLT, Int.reducePow, IntKind.bits, Nat.reduceAdd, Nat.reduceMul, Nat.reduceSub, Int.reduceBNe, Int.reduceBEq, Int.reduceLE, Int.reduceLT, Int.reduceToNat, reduceCtorEq, Nat.zero_ne_one, Nat.one_ne_zero, and_self, and_true, true_and, Option.getD_some, Option.isSome_some, wrapL, gt_iff_lt, ge_iff_le, Int.toNat_natCast, Nat.sub_zero, ite_self, spB_TT, Nat.zero_add, Nat.add_zero]
  refine Loop.count (F := ⟨Tryd.prog, cxT T15, [23], 34, 1⟩) hT15 mo' 40 (fun k => [(5, .i .i64 (k : Int)), (3, .p 3 0), (2, .p 2 0), (1, .p 1 0)]) (fun k => [(3, { cells := (behind a b c l k).l }), (2, { cells := zRt.l }), (1, { cells := [.i .u32 a, .i .u32 b, .i .u32 c, .sl 0 0 l.length cap] }), (0, { cells := L, ro := ro })]) 4 (by decide) ?_ ?_ (fun k hk => ?_)
  · simp (config := { maxSteps := 400000 }) only [go_sem, AV.bel, belL, nblt, ↓reduceIte, beq_self_eq_true, bne_self_eq_false, Int.reduceAdd, Int.reduceSub, Int.reduceMul, Int.reduceNeg, Int.reduceEq, Int.reduceNe, Int.cast_ofNat_Int, Int.lt_irrefl, Int.le_refl, Nat.reduceEqDiff, Nat.reduceLeDiff, Nat.reduceLT, Int.reducePow, IntKind.bits, Nat.reduceAdd, Nat.reduceMul, Nat.reduceSub, Int.reduceBNe, Int.reduceBEq, Int.reduceLE, Int.reduceLT, Int.reduceToNat, reduceCtorEq, Nat.zero_ne_one, Nat.one_ne_zero, and_self, and_true, true_and, Option.getD_some, Option.isSome_some, wrapL, gt_iff_lt, ge_iff_le, Int.toNat_natCast, Nat.sub_zero, ite_self, spB_TT, Nat.zero_add, Nat.add_zero]
  · rw [h0]
    unfold r0S
    simp (config := { maxSteps := 400000 }) only [go_sem, Rt.l, zRt, AV.bel, belL, nblt, hLb, ↓reduceIte, beq_self_eq_true, bne_self_eq_false, Int.reduceAdd, Int.reduceSub, Int.reduceMul, Int.reduceNeg, Int.reduceEq, Int.reduceNe, Int.cast_ofNat_Int, Int.lt_irrefl, Int.le_refl, Nat.reduceEqDiff, Nat.reduceLeDiff, Nat.reduceLT, Int.reducePow, IntKind.bits, Nat.reduceAdd, Nat.reduceMul, Nat.reduceSub, Int.reduceBNe, Int.reduceBEq, Int.reduceLE, Int.reduceLT, Int.reduceToNat, reduceCtorEq, Nat.zero_ne_one, Nat.one_ne_zero, and_self, and_true, true_and, Option.getD_some, Option.isSome_some, wrapL, gt_iff_lt, ge_iff_le, Int.toNat_natCast, Nat.sub_zero, ite_self, spB_TT, Nat.zero_add, Nat.add_zero]
  · dsimp only [T15]
    by_cases hlt : k < l.length
    · by_cases hk4 : k < 40
      · have d1 : decide ((k : Int) < (l.length : Int)) = true := decide_eq_true (by omega)
        have d2 : decide ((k : Int) < 40) = true := decide_eq_true (by omega)
        have d3 : decide (k < l.length) = true := decide_eq_true hlt
        have d4 : decide (k * 5 + 5 ≤ l.length * 5) = true := decide_eq_true (by omega)
        have hx := hrow k hlt
        have ho := hall k hlt
        have hs := hsuc k hlt
        generalize l[k] = x at hx ho hs
        have hq : IntKind.i64.wrap ((k : Int) + 1) = (k : Int) + 1 := wrapL (by omega) (by omega)
        rw [hs]
        generalize behind a b c l k = rk
        simp (config := { maxSteps := 400000 }) only [go_sem, Rt.l, Ev.l, k38, rtV, evV, Rt.eta, d1, d2, d3, d4, hx, ho, hLl, hq, zRt, AV.bel, belL, nblt, hLb, ↓reduceIte, beq_self_eq_true, bne_self_eq_false, Int.reduceAdd, Int.reduceSub, Int.reduceMul, Int.reduceNeg, Int.reduceEq, Int.reduceNe, Int.cast_ofNat_Int, Int.lt_irrefl, Int.le_refl, Nat.reduceEqDiff, Nat.reduceLeDiff, Nat.reduceLT, Int.reducePow, IntKind.bits, Nat.reduceAdd, Nat.reduceMul, Nat.reduceSub, Int.reduceBNe, Int.reduceBEq, Int.reduceLE, Int.reduceLT, Int.reduceToNat, reduceCtorEq, Nat.zero_ne_one, Nat.one_ne_zero, and_self, and_true, true_and, Option.getD_some, Option.isSome_some, wrapL, gt_iff_lt, ge_iff_le, Int.toNat_natCast, Nat.sub_zero, ite_self, spB_TT, Nat.zero_add, Nat.add_zero]
        refine ⟨decide_eq_true ⟨by omega, by omega⟩, hk4, ?_⟩
        rw [show ((k + 1 : Nat) : Int) = (k : Int) + 1 by omega]
      · have e40 : k = 40 := by omega
        subst e40
        have d1 : decide (((40 : Nat) : Int) < (l.length : Int)) = true := decide_eq_true (by omega)
        have d2 : decide (((40 : Nat) : Int) < 40) = false := by decide
        have hR : behind a b c l 40 = draftS a b c l := rfl
        rw [hR]
        generalize draftS a b c l = R
        simp (config := { maxSteps := 400000 }) only [go_sem, Rt.l, zRt, d1, d2, ↓reduceIte, beq_self_eq_true, bne_self_eq_false, Int.reduceAdd, Int.reduceSub, Int.reduceMul, Int.reduceNeg, Int.reduceEq, Int.reduceNe, Int.cast_ofNat_Int, Int.lt_irrefl, Int.le_refl, Nat.reduceEqDiff, Nat.reduceLeDiff, Nat.reduceLT, Int.reducePow, IntKind.bits, Nat.reduceAdd, Nat.reduceMul, Nat.reduceSub, Int.reduceBNe, Int.reduceBEq, Int.reduceLE, Int.reduceLT, Int.reduceToNat, reduceCtorEq, Nat.zero_ne_one, Nat.one_ne_zero, and_self, and_true, true_and, Option.getD_some, Option.isSome_some, wrapL, gt_iff_lt, ge_iff_le, Int.toNat_natCast, Nat.sub_zero, ite_self, spB_TT, Nat.zero_add, Nat.add_zero]
        repeat' (first | refine spB_i (fun _ => ?_) (fun _ => ?_) | refine andB_i ?_ ?_)
        all_goals refine Ends.keep1 rfl rfl hLb1 rfl rfl
    · have d1 : decide ((k : Int) < (l.length : Int)) = false := decide_eq_false (by omega)
      rw [hend (by omega) hk]
      generalize draftS a b c l = R
      simp (config := { maxSteps := 400000 }) only [go_sem, Rt.l, zRt, d1, ↓reduceIte, beq_self_eq_true, bne_self_eq_false, Int.reduceAdd, Int.reduceSub, Int.reduceMul, Int.reduceNeg, Int.reduceEq, Int.reduceNe, Int.cast_ofNat_Int, Int.lt_irrefl, Int.le_refl, Nat.reduceEqDiff, Nat.reduceLeDiff, Nat.reduceLT, Int.reducePow, IntKind.bits, Nat.reduceAdd, Nat.reduceMul, Nat.reduceSub, Int.reduceBNe, Int.reduceBEq, Int.reduceLE, Int.reduceLT, Int.reduceToNat, reduceCtorEq, Nat.zero_ne_one, Nat.one_ne_zero, and_self, and_true, true_and, Option.getD_some, Option.isSome_some, wrapL, gt_iff_lt, ge_iff_le, Int.toNat_natCast, Nat.sub_zero, ite_self, spB_TT, Nat.zero_add, Nat.add_zero]
      refine Ends.keep1 rfl rfl hLb1 rfl rfl
def k26 : Ct
  | [.agg [.i .u32 a, .i .u32 b, .i .u32 c, .ns]], _, n => some (u32B a && u32B b && u32B c, { v := .agg (draftS a b c []).l, n })
  | [.agg [.i .u32 a, .i .u32 b, .i .u32 c, .sl d 0 len cap]], h, n => (hget h d).bind fun k => (evsB len k).bind fun l => some (u32B a && u32B b && u32B c && l.all Ev.ok, { v := .agg (draftS a b c l).l, n, rd := [d] })
  | _, _, _ => none
theorem s26 : SoundAt Tryd.prog 26 k26 := fun args h n c E hc ht => by
  unfold k26 at hc
  split at hc
  · cases hc
    simp only [Bool.and_eq_true] at ht
    exact CallOK.pure (by kernel_rfl) rfl rfl (w26n _ _ _ ht.1.1 ht.1.2 ht.2) _ _
  · rename_i a b c' d len cap
    simp only [Option.bind_eq_some_iff] at hc
    obtain ⟨k, hk, l, hl, he⟩ := hc
    cases he
    simp only [Bool.and_eq_true] at ht
    obtain ⟨e1, rfl⟩ := evsB_eq hl
    rw [e1] at hk
    exact CallOK.read1 (argsL := [.agg [.i .u32 a, .i .u32 b, .i .u32 c', .sl 0 0 l.length cap]]) (by kernel_rfl) rfl (rows_bel Ev.l_bel) rfl hk (w26 _ _ _ _ _ _ ht.1.1.1 ht.1.1.2 ht.1.2 ht.2)
  · cases hc
end Go.Proofs.Rate
