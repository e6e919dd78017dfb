/- Contracts of chapter 30: the four states. -/
import Derived.Test.YtbnmgcfipgfllaaDoorRatD2
namespace Go.Proofs.Rate
open Go.Ab
set_option maxRecDepth 100000
set_option maxHeartbeats 4000000
set_option linter.unusedSimpArgs false
set_option linter.unusedVariables false

def statesL (r : Rt) (x y : Bd) (w : Rt) : List AV := r.l ++ (bendS x r).l ++ (bendS y (bendS x r)).l ++ w.l
def T16 : List (Nat × Ct) := [(26, k26), (29, k29)]
theorem hT16 : Sound Tryd.prog (cxT T16) := Sound.cons s26 <| Sound.cons s29 Sound.nil
theorem w10n (a b c : Int) (x y : Bd) (w : Rt) (ha : u32B a = true) (hb : u32B b = true) (hc : u32B c = true) (hx : x.ok = true) (hy : y.ok = true) : FTL Tryd.prog 10 [.agg [.i .u32 a, .i .u32 b, .i .u32 c, .ns], .agg (x.l ++ y.l), .agg w.l] [] 0 (.agg (statesL (draftS a b c []) x y w)) [] 0 := by
  refine FTL.of_iw hT16 mo' Tryd.func10 i10_eq (by simp [i10]) (iw_of_jw ?_)
  dsimp only [i10, T16]
  unfold statesL
  simp (config := { maxSteps := 400000 }) only [go_sem, Rt.l, Bd.l, k26, k29, ha, hb, hc, hx, hy, bdV, rtV, Rt.eta, ↓reduceIte, beq_self_eq_true, bne_self_eq_false, Int.reduceAdd, Int.reduceSub, Int.reduceMul, Int.reduceNeg, Int.reduceEq, Int.reduceNe, Int.cast_ofNat_Int, Int.lt_irrefl, Int.le_refl, Nat.reduceEqDiff, Nat.reduceLeDiff, Nat.reduceLT, Int.reducePow, IntKind.bits, Nat.reduceAdd, Nat.reduceMul, Nat.reduceSub, Int.reduceBNe, Int.reduceBEq, Int.reduceLE, Int.reduceLT, Int.reduceToNat, reduceCtorEq, Nat.zero_ne_one, Nat.one_ne_zero, and_self, and_true, true_and, Option.getD_some, Option.isSome_some, wrapL, gt_iff_lt, ge_iff_le, Int.toNat_natCast, Nat.sub_zero, ite_self, spB_TT, Nat.zero_add, Nat.add_zero]
  exact Ends.pureE rfl rfl
theorem w10 (a b c : Int) (l : List Ev) (cap : Nat) (ro : Bool) (x y : Bd) (w : Rt) (ha : u32B a = true) (hb : u32B b = true) (hc : u32B c = true) (hl : l.all Ev.ok = true) (hx : x.ok = true) (hy : y.ok = true) : FTL Tryd.prog 10 [.agg [.i .u32 a, .i .u32 b, .i .u32 c, .sl 0 0 l.length cap], .agg (x.l ++ y.l), .agg w.l] [(0, { cells := rows Ev.l l, ro := ro })] 1 (.agg (statesL (draftS a b c l) x y w)) [(0, { cells := rows Ev.l l, ro := ro })] 1 := by
  refine FTL.of_iw hT16 mo' Tryd.func10 i10_eq (by simp [i10]) (iw_of_jw ?_)
  dsimp only [i10, T16]
  unfold statesL
  have hu := evsB_rows l ro
  have hLb1 : belL 1 (rows Ev.l l) = true := belL_mono0 _ (rows_bel Ev.l_bel)
  generalize rows Ev.l l = L at *
  simp (config := { maxSteps := 400000 }) only [go_sem, Rt.l, Bd.l, k26, k29, ha, hb, hc, hx, hy, hl, bdV, rtV, hu, Rt.eta, ↓reduceIte, beq_self_eq_true, bne_self_eq_false, Int.reduceAdd, Int.reduceSub, Int.reduceMul, Int.reduceNeg, Int.reduceEq, Int.reduceNe, Int.cast_ofNat_Int, Int.lt_irrefl, Int.le_refl, Nat.reduceEqDiff, Nat.reduceLeDiff, Nat.reduceLT, Int.reducePow, IntKind.bits, Nat.reduceAdd, Nat.reduceMul, Nat.reduceSub, Int.reduceBNe, Int.reduceBEq, Int.reduceLE, Int.reduceLT, Int.reduceToNat, reduceCtorEq, Nat.zero_ne_one, Nat.one_ne_zero, and_self, and_true, true_and, Option.getD_some, Option.isSome_some, wrapL, gt_iff_lt, ge_iff_le, Int.toNat_natCast, Nat.sub_zero, ite_self, spB_TT, Nat.zero_add, Nat.add_zero]
  exact Ends.keep1 rfl rfl hLb1 rfl rfl
def bdsV (l : List AV) : Option (Bd × Bd) := match l with
  | [.i .u8 a, .i .i64 b, .i .u8 c, .i .i64 d] => some (⟨a, b⟩, ⟨c, d⟩)
  | _ => none
theorem bdsV_eq {l : List AV} {x : Bd × Bd} (h : bdsV l = some x) : l = x.1.l ++ x.2.l := by
  unfold bdsV at h
  split at h
  · cases h; rfl
  · cases h
def k10 : Ct
  | [.agg [.i .u32 a, .i .u32 b, .i .u32 c, .ns], .agg m, .agg w], _, n => (bdsV m).bind fun x => (rtV w).bind fun w => some (u32B a && u32B b && u32B c && (x.1.ok && x.2.ok), { v := .agg (statesL (draftS a b c []) x.1 x.2 w), n })
  | [.agg [.i .u32 a, .i .u32 b, .i .u32 c, .sl d 0 len cap], .agg m, .agg w], h, n => (hget h d).bind fun k => (evsB len k).bind fun l => (bdsV m).bind fun x => (rtV w).bind fun w => some (u32B a && u32B b && u32B c && l.all Ev.ok && (x.1.ok && x.2.ok), { v := .agg (statesL (draftS a b c l) x.1 x.2 w), n, rd := [d] })
  | _, _, _ => none
theorem s10 : SoundAt Tryd.prog 10 k10 := fun args h n c E hc ht => by
  unfold k10 at hc
  split at hc
  · simp only [Option.bind_eq_some_iff] at hc
    obtain ⟨x, hx, w, hw, he⟩ := hc
    cases he
    simp only [Bool.and_eq_true] at ht
    rw [bdsV_eq hx, rtV_eq hw]
    exact CallOK.pure (by kernel_rfl) rfl rfl (w10n _ _ _ _ _ _ ht.1.1.1 ht.1.1.2 ht.1.2 ht.2.1 ht.2.2) _ _
  · rename_i a b c' d len cap m w
    simp only [Option.bind_eq_some_iff] at hc
    obtain ⟨k, hk, l, hl, x, hx, w, hw, he⟩ := hc
    cases he
    simp only [Bool.and_eq_true] at ht
    obtain ⟨e1, rfl⟩ := evsB_eq hl
    rw [e1] at hk
    rw [bdsV_eq hx, rtV_eq hw]
    exact CallOK.read1 (argsL := [.agg [.i .u32 a, .i .u32 b, .i .u32 c', .sl 0 0 l.length cap], .agg (x.1.l ++ x.2.l), .agg w.l]) (by kernel_rfl) rfl (rows_bel Ev.l_bel) rfl hk (w10 _ _ _ _ _ _ _ _ _ ht.1.1.1.1 ht.1.1.1.2 ht.1.1.2 ht.1.2 ht.2.1 ht.2.2)
  · cases hc
theorem statesL_at (r : Rt) (x y : Bd) (w : Rt) : ∀ k < 4, ∃ z : Rt, List.take 8 (List.drop (k * 8) (statesL r x y w)) = z.l := by
  intro k hk
  match k, hk with
  | 0, _ => exact ⟨r, rfl⟩
  | 1, _ => exact ⟨bendS x r, rfl⟩
  | 2, _ => exact ⟨bendS y (bendS x r), rfl⟩
  | 3, _ => exact ⟨w, rfl⟩
theorem statesL_len (r : Rt) (x y : Bd) (w : Rt) : (statesL r x y w).length = 32 := rfl
end Go.Proofs.Rate
