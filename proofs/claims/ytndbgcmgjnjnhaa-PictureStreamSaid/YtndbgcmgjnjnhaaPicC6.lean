/- Contracts of chapter 40: the viewer. -/
import Derived.Test.YtndbgcmgjnjnhaaPicC5
import Derived.Test.YtndbgcmgjnjnhaaAbLoops
namespace Go.Proofs.Pic
open Go.Ab
set_option maxRecDepth 100000
set_option maxHeartbeats 4000000
set_option linter.unusedSimpArgs false
set_option linter.unusedVariables false

def vw (d : Dc) (s : Sh) : List AV := [.b d.x.lv, .i .i64 d.x.id, .i .i64 d.x.ba, .i .i64 d.x.op, .b d.y.lv, .i .i64 d.y.id, .i .i64 d.y.ba, .i .i64 d.y.op, .b d.z.lv, .i .i64 d.z.id, .i .i64 d.z.ba, .i .i64 d.z.op, .b s.st, .b s.ky, .b s.sy, .b s.la, .i .i64 s.id, .i .i64 s.ba, .i .i64 s.te, .i .i64 s.sp]
def vwB : Blk → Option (Dc × Sh)
  | ⟨[.b a0, .i .i64 a1, .i .i64 a2, .i .i64 a3, .b b0, .i .i64 b1, .i .i64 b2, .i .i64 b3, .b c0, .i .i64 c1, .i .i64 c2, .i .i64 c3, .b st, .b ky, .b sy, .b la, .i .i64 id, .i .i64 ba, .i .i64 te, .i .i64 sp], false, none, none⟩ => some (⟨⟨a0, a1, a2, a3⟩, ⟨b0, b1, b2, b3⟩, ⟨c0, c1, c2, c3⟩⟩, ⟨st, ky, sy, la, id, ba, te, sp⟩)
  | _ => none
theorem vwB_eq {k : Blk} {d : Dc} {s : Sh} (h : vwB k = some (d, s)) : k = { cells := vw d s } := by
  unfold vwB at h
  split at h
  · cases h; rfl
  · cases h
def spOK (s : Sh) : Bool := decide (0 ≤ s.sp ∧ s.sp ≤ 2)
theorem sp3 {s : Sh} (h : spOK s = true) : s.sp = 0 ∨ s.sp = 1 ∨ s.sp = 2 := by
  simp only [spOK, decide_eq_true_eq] at h; omega
theorem w70 (d : Dc) (s : Sh) (h : spOK s = true) : FTL Try.prog 70 [.p 0 0] [(0, { cells := vw d s })] 1 (.b (fitsS d s)) [(0, { cells := vw d s })] 1 := by
  refine FTL.of_iw Sound.nil mo Try.func70 i70_eq (by simp [i70]) (iw_of_jw ?_)
  dsimp only [i70]
  rcases sp3 h with h | h | h
  · simp only [go_sem, vw, h, ↓reduceIte, beq_self_eq_true, bne_self_eq_false, Int.reduceAdd, Int.reduceSub, Int.reduceMul, Int.reduceNeg, Int.reduceEq, Int.reduceNe, Int.cast_ofNat_Int, Int.lt_irrefl, Int.le_refl, Nat.reduceEqDiff, Nat.reduceLeDiff, Nat.reduceLT, Int.reducePow, IntKind.bits, Nat.reduceAdd, Nat.reduceMul, Nat.reduceSub, Int.reduceBNe, Int.reduceBEq, Int.reduceLE, Int.reduceLT, Int.reduceToNat, reduceCtorEq, Nat.zero_ne_one, Nat.one_ne_zero, and_self, and_true, true_and, Option.getD_some, Option.isSome_some, wrapL, gt_iff_lt, ge_iff_le]
    exact Ends.keep1 rfl rfl rfl (by simp [fitsS, h]) rfl
  · simp only [go_sem, vw, h, ↓reduceIte, beq_self_eq_true, bne_self_eq_false, Int.reduceAdd, Int.reduceSub, Int.reduceMul, Int.reduceNeg, Int.reduceEq, Int.reduceNe, Int.cast_ofNat_Int, Int.lt_irrefl, Int.le_refl, Nat.reduceEqDiff, Nat.reduceLeDiff, Nat.reduceLT, Int.reducePow, IntKind.bits, Nat.reduceAdd, Nat.reduceMul, Nat.reduceSub, Int.reduceBNe, Int.reduceBEq, Int.reduceLE, Int.reduceLT, Int.reduceToNat, reduceCtorEq, Nat.zero_ne_one, Nat.one_ne_zero, and_self, and_true, true_and, Option.getD_some, Option.isSome_some, wrapL, gt_iff_lt, ge_iff_le]
    repeat' (first | refine spB_i (fun _ => ?_) (fun _ => ?_) | refine andB_i ?_ ?_)
    all_goals exact Ends.keep1 rfl rfl rfl (by simp [fitsS, h, Dc.get, *]) rfl
  · simp only [go_sem, vw, h, ↓reduceIte, beq_self_eq_true, bne_self_eq_false, Int.reduceAdd, Int.reduceSub, Int.reduceMul, Int.reduceNeg, Int.reduceEq, Int.reduceNe, Int.cast_ofNat_Int, Int.lt_irrefl, Int.le_refl, Nat.reduceEqDiff, Nat.reduceLeDiff, Nat.reduceLT, Int.reducePow, IntKind.bits, Nat.reduceAdd, Nat.reduceMul, Nat.reduceSub, Int.reduceBNe, Int.reduceBEq, Int.reduceLE, Int.reduceLT, Int.reduceToNat, reduceCtorEq, Nat.zero_ne_one, Nat.one_ne_zero, and_self, and_true, true_and, Option.getD_some, Option.isSome_some, wrapL, gt_iff_lt, ge_iff_le]
    repeat' (first | refine spB_i (fun _ => ?_) (fun _ => ?_) | refine andB_i ?_ ?_)
    all_goals exact Ends.keep1 rfl rfl rfl (by simp [fitsS, h, Dc.get, *]) rfl
def k70 : Ct
  | [.p b 0], h, n => (hget h b).bind fun k => (vwB k).bind fun x => some (spOK x.2, { v := .b (fitsS x.1 x.2), n, rd := [b] })
  | _, _, _ => none
theorem s70 : SoundAt Try.prog 70 k70 := fun args h n c E hc ht => by
  unfold k70 at hc
  split at hc
  · rename_i b
    simp only [Option.bind_eq_some_iff] at hc
    obtain ⟨k, hk, ⟨d, s⟩, hm, he⟩ := hc
    cases he
    rw [vwB_eq hm] at hk
    exact CallOK.read1 (argsL := [.p 0 0]) (by kernel_rfl) rfl rfl rfl hk (w70 _ _ ht)
  · cases hc
theorem w71 (d : Dc) (s : Sh) (h : spOK s = true) : FTL Try.prog 71 [.p 0 0] [(0, { cells := vw d s })] 1 (.tup []) [(0, { cells := vw (d.cut s.sp) s })] 1 := by
  refine FTL.of_iw Sound.nil mo Try.func71 i71_eq (by simp [i71]) (iw_of_jw ?_)
  dsimp only [i71]
  rcases sp3 h with h | h | h
  · simp only [go_sem, vw, h, ↓reduceIte, beq_self_eq_true, bne_self_eq_false, Int.reduceAdd, Int.reduceSub, Int.reduceMul, Int.reduceNeg, Int.reduceEq, Int.reduceNe, Int.cast_ofNat_Int, Int.lt_irrefl, Int.le_refl, Nat.reduceEqDiff, Nat.reduceLeDiff, Nat.reduceLT, Int.reducePow, IntKind.bits, Nat.reduceAdd, Nat.reduceMul, Nat.reduceSub, Int.reduceBNe, Int.reduceBEq, Int.reduceLE, Int.reduceLT, Int.reduceToNat, reduceCtorEq, Nat.zero_ne_one, Nat.one_ne_zero, and_self, and_true, true_and, Option.getD_some, Option.isSome_some, wrapL, gt_iff_lt, ge_iff_le]
    exact Ends.keep1 rfl rfl rfl rfl rfl
  · simp only [go_sem, vw, h, ↓reduceIte, beq_self_eq_true, bne_self_eq_false, Int.reduceAdd, Int.reduceSub, Int.reduceMul, Int.reduceNeg, Int.reduceEq, Int.reduceNe, Int.cast_ofNat_Int, Int.lt_irrefl, Int.le_refl, Nat.reduceEqDiff, Nat.reduceLeDiff, Nat.reduceLT, Int.reducePow, IntKind.bits, Nat.reduceAdd, Nat.reduceMul, Nat.reduceSub, Int.reduceBNe, Int.reduceBEq, Int.reduceLE, Int.reduceLT, Int.reduceToNat, reduceCtorEq, Nat.zero_ne_one, Nat.one_ne_zero, and_self, and_true, true_and, Option.getD_some, Option.isSome_some, wrapL, gt_iff_lt, ge_iff_le]
    exact Ends.keep1 rfl rfl rfl rfl rfl
  · simp only [go_sem, vw, h, ↓reduceIte, beq_self_eq_true, bne_self_eq_false, Int.reduceAdd, Int.reduceSub, Int.reduceMul, Int.reduceNeg, Int.reduceEq, Int.reduceNe, Int.cast_ofNat_Int, Int.lt_irrefl, Int.le_refl, Nat.reduceEqDiff, Nat.reduceLeDiff, Nat.reduceLT, Int.reducePow, IntKind.bits, Nat.reduceAdd, Nat.reduceMul, Nat.reduceSub, Int.reduceBNe, Int.reduceBEq, Int.reduceLE, Int.reduceLT, Int.reduceToNat, reduceCtorEq, Nat.zero_ne_one, Nat.one_ne_zero, and_self, and_true, true_and, Option.getD_some, Option.isSome_some, wrapL, gt_iff_lt, ge_iff_le]
    exact Ends.keep1 rfl rfl rfl rfl rfl
def k71 : Ct
  | [.p b 0], h, n => (hget h b).bind fun k => (vwB k).bind fun x => some (spOK x.2, { v := .tup [], n, rd := [b], md := [(b, some { cells := vw (x.1.cut x.2.sp) x.2 })] })
  | _, _, _ => none
theorem s71 : SoundAt Try.prog 71 k71 := fun args h n c E hc ht => by
  unfold k71 at hc
  split at hc
  · rename_i b
    simp only [Option.bind_eq_some_iff] at hc
    obtain ⟨k, hk, ⟨d, s⟩, hm, he⟩ := hc
    cases he
    rw [vwB_eq hm] at hk
    exact CallOK.upd1 (argsL := [.p 0 0]) (by kernel_rfl) rfl rfl rfl rfl rfl hk (w71 _ _ ht)
  · cases hc
def T9 : List (Nat × Ct) := [(69, k69), (70, k70), (71, k71)]
theorem hT9 : Sound Try.prog (cxT T9) := Sound.cons s69 <| Sound.cons s70 <| Sound.cons s71 Sound.nil
theorem get_good {d : Dc} (h : d.good = true) (i : Int) : (d.get i).fit = true := by
  simp only [Dc.good, Bool.and_eq_true] at h
  unfold Dc.get
  split
  · exact h.1.1.1.1
  · split
    · exact h.1.1.1.2
    · exact h.1.1.2
theorem fit_id {q : Ly} (h : q.fit = true) : (0 ≤ q.id ∧ q.id ≤ 32767) ∧ (0 ≤ q.ba ∧ q.ba ≤ 255) ∧ (0 ≤ q.op ∧ q.op ≤ 3) := by
  simp only [Ly.fit, Bool.and_eq_true, decide_eq_true_eq] at h
  exact ⟨h.1.1.1, h.1.1.2, h.1.2⟩
theorem w52 (d : Dc) (s : Sh) (hd : d.good = true) (hs : s.good = true) : FTL Try.prog 52 [.p 0 0] [(0, { cells := vw d s })] 1 (.b (showS d s).2) [(0, { cells := vw (showS d s).1 s })] 1 := by
  refine FTL.of_iw hT9 mo Try.func52 i52_eq (by simp [i52]) (iw_of_jw ?_)
  dsimp only [i52, T9]
  have hs' := (Sh.good_iff s).1 hs
  have hsp : spOK s = true := decide_eq_true ⟨hs'.2.2.2.2.2.2.1, hs'.2.2.2.2.2.2.2.1⟩
  have hx := fit_id (get_good hd s.sp)
  have hc : decide ((0 ≤ s.id ∧ s.id ≤ 32767) ∧ 0 ≤ (d.get s.sp).id ∧ (d.get s.sp).id ≤ 32767) = true := decide_eq_true ⟨⟨hs'.1, hs'.2.1⟩, hx.1⟩
  have e1 : ∀ q : Ly, Ly.mk q.lv q.id q.ba q.op = q := fun _ => rfl
  have e2 : ∀ q : Dc, Dc.mk q.x q.y q.z = q := fun _ => rfl
  have hw1 : IntKind.i64.wrap ((d.get s.sp).ba + 1) = (d.get s.sp).ba + 1 := wrapL (by omega) (by omega)
  have hw2 : IntKind.i64.wrap ((d.get s.sp).op + 1) = (d.get s.sp).op + 1 := wrapL (by omega) (by omega)
  have h00 : s.sp = 0 → Sh.mk s.st s.ky s.sy s.la s.id s.ba s.te 0 = s := fun h => by rw [← h]
  have h01 : s.sp = 1 → Sh.mk s.st s.ky s.sy s.la s.id s.ba s.te 1 = s := fun h => by rw [← h]
  have h02 : s.sp = 2 → Sh.mk s.st s.ky s.sy s.la s.id s.ba s.te 2 = s := fun h => by rw [← h]
  generalize hR : showS d s = R
  rcases sp3 hsp with h | h | h
  · have h0 := h00 h
    have hg : d.get s.sp = d.x := by rw [h]; rfl
    rw [hg] at hc hx hw1 hw2
    simp only [go_sem, vw, h, k69, k70, k71, vwB, e1, e2, h0, hc, hsp, hw1, hw2, and8, ↓reduceIte, beq_self_eq_true, bne_self_eq_false, Int.reduceAdd, Int.reduceSub, Int.reduceMul, Int.reduceNeg, Int.reduceEq, Int.reduceNe, Int.cast_ofNat_Int, Int.lt_irrefl, Int.le_refl, Nat.reduceEqDiff, Nat.reduceLeDiff, Nat.reduceLT, Int.reducePow, IntKind.bits, Nat.reduceAdd, Nat.reduceMul, Nat.reduceSub, Int.reduceBNe, Int.reduceBEq, Int.reduceLE, Int.reduceLT, Int.reduceToNat, reduceCtorEq, Nat.zero_ne_one, Nat.one_ne_zero, and_self, and_true, true_and, Option.getD_some, Option.isSome_some, wrapL, gt_iff_lt, ge_iff_le]
    repeat' (first | refine spB_i (fun _ => ?_) (fun _ => ?_) | refine andB_i ?_ ?_)
    all_goals (refine Ends.keep1 rfl rfl rfl ?_ ?_ <;> (rw [← hR]; clear hR hs' hs hd e1 e2 h00 h01 h02 h0 hw1 hw2 hc hsp; simp only [showS, hg, Dc.set, Dc.cut, h]; grind [zLy, zDc]))
  · have h0 := h01 h
    have hg : d.get s.sp = d.y := by rw [h]; rfl
    rw [hg] at hc hx hw1 hw2
    simp only [go_sem, vw, h, k69, k70, k71, vwB, e1, e2, h0, hc, hsp, hw1, hw2, and8, ↓reduceIte, beq_self_eq_true, bne_self_eq_false, Int.reduceAdd, Int.reduceSub, Int.reduceMul, Int.reduceNeg, Int.reduceEq, Int.reduceNe, Int.cast_ofNat_Int, Int.lt_irrefl, Int.le_refl, Nat.reduceEqDiff, Nat.reduceLeDiff, Nat.reduceLT, Int.reducePow, IntKind.bits, Nat.reduceAdd, Nat.reduceMul, Nat.reduceSub, Int.reduceBNe, Int.reduceBEq, Int.reduceLE, Int.reduceLT, Int.reduceToNat, reduceCtorEq, Nat.zero_ne_one, Nat.one_ne_zero, and_self, and_true, true_and, Option.getD_some, Option.isSome_some, wrapL, gt_iff_lt, ge_iff_le]
    repeat' (first | refine spB_i (fun _ => ?_) (fun _ => ?_) | refine andB_i ?_ ?_)
    all_goals (refine Ends.keep1 rfl rfl rfl ?_ ?_ <;> (rw [← hR]; clear hR hs' hs hd e1 e2 h00 h01 h02 h0 hw1 hw2 hc hsp; simp only [showS, hg, Dc.set, Dc.cut, h]; grind [zLy, zDc]))
  · have h0 := h02 h
    have hg : d.get s.sp = d.z := by rw [h]; rfl
    rw [hg] at hc hx hw1 hw2
    simp only [go_sem, vw, h, k69, k70, k71, vwB, e1, e2, h0, hc, hsp, hw1, hw2, and8, ↓reduceIte, beq_self_eq_true, bne_self_eq_false, Int.reduceAdd, Int.reduceSub, Int.reduceMul, Int.reduceNeg, Int.reduceEq, Int.reduceNe, Int.cast_ofNat_Int, Int.lt_irrefl, Int.le_refl, Nat.reduceEqDiff, Nat.reduceLeDiff, Nat.reduceLT, Int.reducePow, IntKind.bits, Nat.reduceAdd, Nat.reduceMul, Nat.reduceSub, Int.reduceBNe, Int.reduceBEq, Int.reduceLE, Int.reduceLT, Int.reduceToNat, reduceCtorEq, Nat.zero_ne_one, Nat.one_ne_zero, and_self, and_true, true_and, Option.getD_some, Option.isSome_some, wrapL, gt_iff_lt, ge_iff_le]
    repeat' (first | refine spB_i (fun _ => ?_) (fun _ => ?_) | refine andB_i ?_ ?_)
    all_goals (refine Ends.keep1 rfl rfl rfl ?_ ?_ <;> (rw [← hR]; clear hR hs' hs hd e1 e2 h00 h01 h02 h0 hw1 hw2 hc hsp; simp only [showS, hg, Dc.set, Dc.cut, h]; grind [zLy, zDc]))
end Go.Proofs.Pic
