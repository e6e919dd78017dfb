/- ArrivalLines: the walk. -/
import Derived.Test.YtiacdfhaopnekaaArrC14
import Derived.Test.YtiacdfhaopnekaaArrP12
import Derived.Test.YtiacdfhaopnekaaAbShs
import Derived.Test.YtiacdfhaopnekaaArrI5
namespace Go.Proofs.Arr
open Go.Ab
set_option maxRecDepth 100000
set_option maxHeartbeats 16000000
set_option linter.unusedSimpArgs false
set_option linter.unusedVariables false
def T5 : List (Nat × Ct) := [(20, k20), (22, k22), (23, k22)]
theorem hT5 : Sound Try.prog (cxT T5) := Sound.cons s20 <| Sound.cons s22 <| Sound.cons s23 Sound.nil
/-- A step. -/
def s2l (p : Pt) : List AV := [.i .i16 p.x, .i .i16 p.y]
/-- The points that follow each other by steps. -/
def oP (p0 : Pt) (ss : List Pt) : Nat → Pt
  | 0 => p0
  | k + 1 => ⟨IntKind.i64.wrap ((oP p0 ss k).x + max 0 (IntKind.i64.wrap (ss.getD k default).x)), IntKind.i64.wrap ((oP p0 ss k).y + IntKind.i64.wrap (1000 * IntKind.i64.wrap (ss.getD k default).y))⟩
def oL (p0 : Pt) (ss : List Pt) (k : Nat) : List Pt := (List.range (k + 1)).map (oP p0 ss)
theorem oL_len (p0 : Pt) (ss : List Pt) (k : Nat) : (oL p0 ss k).length = k + 1 := by simp [oL]
theorem oL_succ (p0 : Pt) (ss : List Pt) (k : Nat) : oL p0 ss (k + 1) = oL p0 ss k ++ [oP p0 ss (k + 1)] := by simp [oL, List.range_succ]
/-- The slice of them. -/
def oQ (p0 : Pt) (ss : List Pt) (k : Nat) : Sh := if k = 0 then .sl { cells := p0.l } 0 1 1 else gQ Pt.l 2 (oL p0 ss k)
theorem oQ_pts (p0 : Pt) (ss : List Pt) (k : Nat) : Sh.pts (oQ p0 ss k) (oL p0 ss k) := by
  unfold oQ
  split
  · rename_i h; subst h; exact ⟨rfl, rfl, rfl⟩
  · exact gQ_is Pt.bel0 Pt.len _
theorem oQ_sane (p0 : Pt) (ss : List Pt) (k : Nat) : (oQ p0 ss k).sane 2 = true := by
  unfold oQ
  split
  · rfl
  · exact gQ_sane _
theorem prow5 (l : List Pt) : (rows Pt.l l).length = l.length * 2 := rows_len Pt.len
theorem w5 (raw sp : Sh) (rl ss : List Pt) (fx fy : Int) (hr : Sh.pts raw rl) (hrs : raw.sane 2 = true) (hs : sp.is s2l 2 ss) (hss : sp.sane 2 = true) : FTL Try.prog 5 [raw.v 0, .agg [.i .i64 fx, .i .i64 fy], sp.v 1] (raw.h 0 ++ sp.h 1) 2 (.b true) [] 2 := by
  refine FTL.of_iw hT5 mo Try.func5 i5_eq (by simp [i5]) (iw_of_jw ?_)
  dsimp only [i5, T5]
  have pr := hr.pl
  have ps := hs.pl
  have lr : raw.len = rl.length := hr.ln
  have ls : sp.len = ss.length := hs.ln
  obtain ⟨m, hm⟩ : ∃ m, min ss.length 21 = m := ⟨_, rfl⟩
  have hm21 : m ≤ 21 := by omega
  have hml : m ≤ ss.length := by omega
  have hmi : min (ss.length : Int) 21 = (m : Int) := by omega
  have hcd : decide (0 ≤ (m : Int) ∧ (m : Int) ≤ (ss.length : Int)) = true := decide_eq_true (by omega)
  have hcl : (sp.cut m).len = m := cut_len (by omega)
  simp (config := { maxSteps := 400000 }) only [go_sem, hmi, ls, hss, hcd, hcl, ↓reduceIte, beq_self_eq_true, bne_self_eq_false, Int.reduceAdd, Int.reduceSub, Int.reduceMul, Int.reduceNeg, Int.reduceEq, Int.reduceNe, Int.cast_ofNat_Int, Int.lt_irrefl, Int.le_refl, Nat.reduceEqDiff, Nat.reduceLeDiff, Nat.reduceLT, Int.reducePow, IntKind.bits, Nat.reduceAdd, Nat.reduceMul, Nat.reduceSub, Int.reduceBNe, Int.reduceBEq, Int.reduceLE, Int.reduceLT, Int.reduceToNat, reduceCtorEq, Nat.zero_ne_one, Nat.one_ne_zero, and_self, and_true, true_and, Option.getD_some, Option.isSome_some, wrapL, gt_iff_lt, ge_iff_le, Int.toNat_natCast, Nat.sub_zero, ite_self, spB_TT, Nat.zero_add, Nat.add_zero]
  obtain ⟨p0, hp0⟩ : ∃ p0 : Pt, p0 = ⟨andI .i64 fx 1099511627775, fy.fdiv 1073741824⟩ := ⟨_, rfl⟩
  have px0 : andI .i64 fx 1099511627775 = p0.x := by rw [hp0]
  have py0 : fy.fdiv 1073741824 = p0.y := by rw [hp0]
  simp only [px0, py0]
  clear hp0 px0 py0
  refine Loop.stepR (F := ⟨Try.prog, cxT T5, [35, 72, 98], 101, 2⟩) hT5 mo (X := Nat) (fun k => k ≤ m) (fun k => m - k)
    (fun k => [(0, raw.v 0), (7, .p 3 0), (8, (oQ p0 ss k).v 4), (32, (sp.cut m).v 1), (33, .i .i64 (m : Int)), (34, .i .i64 (k : Int))])
    (fun k => (3, { cells := [.i .i64 (oP p0 ss k).x, .i .i64 (oP p0 ss k).y] }) :: ((oQ p0 ss k).h 4 ++ (raw.h 0 ++ sp.h 1))) 5 0 (fun k => k + 1) [] (fun _ => [(4, 7)]) (by decide) (by decide) (fun _ => by decide) (Nat.zero_le _) ?_ ?_ (fun k hk => ?_)
  · have h1 : oQ p0 ss 0 = .sl { cells := [.i .i64 p0.x, .i .i64 p0.y] } 0 1 1 := rfl
    simp (config := { maxSteps := 400000 }) only [go_sem, h1, shv_sl, AV.ren, renL, AV.bel, belL, nblt, ↓reduceIte, beq_self_eq_true, bne_self_eq_false, Int.reduceAdd, Int.reduceSub, Int.reduceMul, Int.reduceNeg, Int.reduceEq, Int.reduceNe, Int.cast_ofNat_Int, Int.lt_irrefl, Int.le_refl, Nat.reduceEqDiff, Nat.reduceLeDiff, Nat.reduceLT, Int.reducePow, IntKind.bits, Nat.reduceAdd, Nat.reduceMul, Nat.reduceSub, Int.reduceBNe, Int.reduceBEq, Int.reduceLE, Int.reduceLT, Int.reduceToNat, reduceCtorEq, Nat.zero_ne_one, Nat.one_ne_zero, and_self, and_true, true_and, Option.getD_some, Option.isSome_some, wrapL, gt_iff_lt, ge_iff_le, Int.toNat_natCast, Nat.sub_zero, ite_self, spB_TT, Nat.zero_add, Nat.add_zero]
  · have h1 : oQ p0 ss 0 = .sl { cells := [.i .i64 p0.x, .i .i64 p0.y] } 0 1 1 := rfl
    have h2 : oP p0 ss 0 = p0 := rfl
    simp (config := { maxSteps := 400000 }) only [go_sem, h1, h2, shh_sl, AV.bel, belL, nblt, Blk.ren, renL, AV.ren, pr, ps, ↓reduceIte, beq_self_eq_true, bne_self_eq_false, Int.reduceAdd, Int.reduceSub, Int.reduceMul, Int.reduceNeg, Int.reduceEq, Int.reduceNe, Int.cast_ofNat_Int, Int.lt_irrefl, Int.le_refl, Nat.reduceEqDiff, Nat.reduceLeDiff, Nat.reduceLT, Int.reducePow, IntKind.bits, Nat.reduceAdd, Nat.reduceMul, Nat.reduceSub, Int.reduceBNe, Int.reduceBEq, Int.reduceLE, Int.reduceLT, Int.reduceToNat, reduceCtorEq, Nat.zero_ne_one, Nat.one_ne_zero, and_self, and_true, true_and, Option.getD_some, Option.isSome_some, wrapL, gt_iff_lt, ge_iff_le, Int.toNat_natCast, Nat.sub_zero, ite_self, spB_TT, Nat.zero_add, Nat.add_zero]
  · dsimp only [T5]
    by_cases hlt : k < m
    · have nx : sp ≠ .nil := hs.ne (by rintro rfl; simp at hml; omega)
      have sx : slParts ((sp.cut m).v 1) = some (1, sp.o, m) := cut_slParts nx
      have gx : hget (sp.h 1) 1 = some sp.blk := hget_at0 nx
      have rx := row_at (f := s2l) (z := 2) (fun _ => rfl) (hs.cells nx).1 (show ss[k]? = some (ss.getD k default) by rw [List.getD_eq_getElem?_getD, List.getElem?_eq_getElem (by omega)]; rfl)
      change List.take 2 (List.drop (sp.o + k * 2) sp.blk.cells) = _ at rx
      have e1 : oP p0 ss (k + 1) = ⟨IntKind.i64.wrap ((oP p0 ss k).x + max 0 (IntKind.i64.wrap (ss.getD k default).x)), IntKind.i64.wrap ((oP p0 ss k).y + IntKind.i64.wrap (1000 * IntKind.i64.wrap (ss.getD k default).y))⟩ := rfl
      have c1 : decide ((k : Int) < (m : Int)) = true := decide_eq_true (by omega)
      have c2 : decide (0 ≤ (k : Int) ∧ (k : Int) < (m : Int)) = true := decide_eq_true (by omega)
      have hw : IntKind.i64.wrap ((k : Int) + 1) = ((k + 1 : Nat) : Int) := by rw [wrapL (by omega) (by omega)]; omega
      have hsk : m - (k + 1) < m - k := by omega
      have pO' := (oQ_pts p0 ss (k + 1)).pl
      have gm : decide (16 * (k + 1 + 1) ≤ growMax) = true := decide_eq_true (by simp only [growMax]; omega)
      by_cases hk0 : k = 0
      · subst hk0
        have h1 : oQ p0 ss 0 = .sl { cells := [.i .i64 p0.x, .i .i64 p0.y] } 0 1 1 := rfl
        have h2 : oP p0 ss 0 = p0 := rfl
        have h3 : oQ p0 ss (0 + 1) = .sg { cells := [.i .i64 p0.x, .i .i64 p0.y, .i .i64 (oP p0 ss 1).x, .i .i64 (oP p0 ss 1).y], gr := some 2 } 0 2 := rfl
        have c1 : decide ((0 : Int) < (m : Int)) = true := decide_eq_true (by omega)
        rw [Nat.zero_mul, Nat.add_zero] at rx
        have gm1 : decide (16 * 2 ≤ growMax) = true := by decide
        have gm2 : decide (32 ≤ growMax) = true := by decide
        rw [h3, h1]
        rw [h2] at e1
        rw [h2]
        rw [show (0 + 1 : Nat) = 1 from rfl] at e1 hw hsk ⊢
        rw [e1]
        generalize ss.getD 0 default = st at *
        simp (config := { maxSteps := 400000 }) only [go_sem, c1, c2, sx, gx, rx, hw, s2l, gm1, gm2, hlt, hsk, shv_sl, shh_sl, shv_sg, shh_sg, pr, ps, AV.bel, belL, nblt, Blk.ren, renL, AV.ren, ↓reduceIte, beq_self_eq_true, bne_self_eq_false, Int.reduceAdd, Int.reduceSub, Int.reduceMul, Int.reduceNeg, Int.reduceEq, Int.reduceNe, Int.cast_ofNat_Int, Int.lt_irrefl, Int.le_refl, Nat.reduceEqDiff, Nat.reduceLeDiff, Nat.reduceLT, Int.reducePow, IntKind.bits, Nat.reduceAdd, Nat.reduceMul, Nat.reduceSub, Int.reduceBNe, Int.reduceBEq, Int.reduceLE, Int.reduceLT, Int.reduceToNat, reduceCtorEq, Nat.zero_ne_one, Nat.one_ne_zero, and_self, and_true, true_and, Option.getD_some, Option.isSome_some, wrapL, gt_iff_lt, ge_iff_le, Int.toNat_natCast, Nat.sub_zero, ite_self, spB_TT, Nat.zero_add, Nat.add_zero]
        omega
      · have h1 : oQ p0 ss k = gQ Pt.l 2 (oL p0 ss k) := by unfold oQ; rw [if_neg hk0]
        have h3 : oQ p0 ss (k + 1) = gS Pt.l 2 (oL p0 ss k) (oP p0 ss (k + 1)).l := by unfold oQ; rw [if_neg (by omega), oL_succ, gQ_snoc]
        have zO := oL_len p0 ss k
        rw [h3] at pO' ⊢
        rw [h1]
        rw [e1] at pO' ⊢
        simp only [Pt.l] at pO'
        generalize oL p0 ss k = O at *
        generalize ss.getD k default = st at *
        generalize oP p0 ss k = q at *
        simp (config := { maxSteps := 400000 }) only [go_sem, c1, c2, sx, gx, rx, hw, s2l, gm, zO, prow5, Pt.l, hlt, hsk, pO', pr, ps, AV.bel, belL, nblt, Blk.ren, renL, AV.ren, ↓reduceIte, beq_self_eq_true, bne_self_eq_false, Int.reduceAdd, Int.reduceSub, Int.reduceMul, Int.reduceNeg, Int.reduceEq, Int.reduceNe, Int.cast_ofNat_Int, Int.lt_irrefl, Int.le_refl, Nat.reduceEqDiff, Nat.reduceLeDiff, Nat.reduceLT, Int.reducePow, IntKind.bits, Nat.reduceAdd, Nat.reduceMul, Nat.reduceSub, Int.reduceBNe, Int.reduceBEq, Int.reduceLE, Int.reduceLT, Int.reduceToNat, reduceCtorEq, Nat.zero_ne_one, Nat.one_ne_zero, and_self, and_true, true_and, Option.getD_some, Option.isSome_some, wrapL, gt_iff_lt, ge_iff_le, Int.toNat_natCast, Nat.sub_zero, ite_self, spB_TT, Nat.zero_add, Nat.add_zero]
        omega
    · have c1 : decide ((k : Int) < (m : Int)) = false := decide_eq_false (by omega)
      have hkm : k = m := by omega
      subst hkm
      have qO := oQ_pts p0 ss k
      have sO := oQ_sane p0 ss k
      have zO := oL_len p0 ss k
      generalize oQ p0 ss k = O at *
      generalize oL p0 ss k = ol at *
      have lO : O.len = k + 1 := by rw [qO.ln, zO]
      obtain ⟨m1, hm1⟩ : ∃ m1, min (k + 1) 20 = m1 := ⟨_, rfl⟩
      obtain ⟨m2, hm2⟩ : ∃ m2, min rl.length 22 = m2 := ⟨_, rfl⟩
      have i1 : min ((k + 1 : Nat) : Int) 20 = (m1 : Int) := by omega
      have i2 : min (rl.length : Int) 22 = (m2 : Int) := by omega
      have d1 : decide (0 ≤ (m1 : Int) ∧ (m1 : Int) ≤ ((k + 1 : Nat) : Int)) = true := decide_eq_true (by omega)
      have d2 : decide (0 ≤ (m2 : Int) ∧ (m2 : Int) ≤ (rl.length : Int)) = true := decide_eq_true (by omega)
      have q1 := qO.cut Pt.len (show m1 ≤ ol.length by omega)
      have q2 := hr.cut Pt.len (show m2 ≤ rl.length by omega)
      have r0 := rd_pts qO
      have r1 := rd_pts q1
      have r2 := rd_pts q2
      have b0 : decide (ol.length ≤ 1000000) = true := decide_eq_true (by omega)
      have b1 : decide ((ol.take m1).length ≤ 1000000) = true := decide_eq_true (by rw [List.length_take]; omega)
      have b2 : decide ((rl.take m2).length ≤ 1000000) = true := decide_eq_true (by rw [List.length_take]; omega)
      have lv : ∀ l : List Pt, ∃ a b e, lineV l = .tup [.i .i64 a, .i .i64 b, .i .i64 e] := fun l => by unfold lineV; split <;> exact ⟨_, _, _, rfl⟩
      obtain ⟨x0, y0, z0, v0⟩ := lv ol
      obtain ⟨x1, y1, z1, v1⟩ := lv (ol.take m1)
      obtain ⟨x2, y2, z2, v2⟩ := lv (rl.take m2)
      generalize ol.take m1 = ol1 at *
      generalize rl.take m2 = rl2 at *
      clear hm1 hm2 hmi
      simp (config := { maxSteps := 400000 }) only [go_sem, c1, lO, lr, i1, i2, d1, d2, sO, hrs, okAll_push, ↓reduceIte, beq_self_eq_true, bne_self_eq_false, Int.reduceAdd, Int.reduceSub, Int.reduceMul, Int.reduceNeg, Int.reduceEq, Int.reduceNe, Int.cast_ofNat_Int, Int.lt_irrefl, Int.le_refl, Nat.reduceEqDiff, Nat.reduceLeDiff, Nat.reduceLT, Int.reducePow, IntKind.bits, Nat.reduceAdd, Nat.reduceMul, Nat.reduceSub, Int.reduceBNe, Int.reduceBEq, Int.reduceLE, Int.reduceLT, Int.reduceToNat, reduceCtorEq, Nat.zero_ne_one, Nat.one_ne_zero, and_self, and_true, true_and, Option.getD_some, Option.isSome_some, wrapL, gt_iff_lt, ge_iff_le, Int.toNat_natCast, Nat.sub_zero, ite_self, spB_TT, Nat.zero_add, Nat.add_zero]
      refine Loop.rounds (F := ⟨Try.prog, cxT T5, [35, 72, 98], 101, 2⟩) 4 hT5 mo ?_
      dsimp only [T5]
      simp (config := { maxSteps := 400000 }) only [go_sem, lp_succ, k22, k20, shAt_cut, r0, r1, r2, b0, b1, b2, v0, v1, v2, ↓reduceIte, beq_self_eq_true, bne_self_eq_false, Int.reduceAdd, Int.reduceSub, Int.reduceMul, Int.reduceNeg, Int.reduceEq, Int.reduceNe, Int.cast_ofNat_Int, Int.lt_irrefl, Int.le_refl, Nat.reduceEqDiff, Nat.reduceLeDiff, Nat.reduceLT, Int.reducePow, IntKind.bits, Nat.reduceAdd, Nat.reduceMul, Nat.reduceSub, Int.reduceBNe, Int.reduceBEq, Int.reduceLE, Int.reduceLT, Int.reduceToNat, reduceCtorEq, Nat.zero_ne_one, Nat.one_ne_zero, and_self, and_true, true_and, Option.getD_some, Option.isSome_some, wrapL, gt_iff_lt, ge_iff_le, Int.toNat_natCast, Nat.sub_zero, ite_self, spB_TT, Nat.zero_add, Nat.add_zero]
      exact Ends.pure rfl
end Go.Proofs.Arr
