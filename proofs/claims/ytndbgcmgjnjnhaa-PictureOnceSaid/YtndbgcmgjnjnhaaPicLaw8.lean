/- PictureOnce: the law function. -/
import Derived.Test.YtndbgcmgjnjnhaaPicC9
import Derived.Test.YtndbgcmgjnjnhaaPicIRL
namespace Go.Proofs.Pic
open Go.Ab
set_option maxRecDepth 100000
set_option maxHeartbeats 8000000
set_option linter.unusedSimpArgs false
set_option linter.unusedVariables false
theorem lead_self (a : Int) : lead a a = 0 := by simp [lead]
theorem sh1 {d : Dc} {s : Sh} (hk : s.ky = true) (h0 : s.sp = 0) : (showS d s).2 = true := by
  simp [showS, hk, fitsS, h0]
theorem sh2 {d : Dc} {s : Sh} (hd : d.good = true) (hs : s.good = true) (h : (showS d s).2 = true) :
    ((showS d s).1.get s.sp).lv = true ∧ ((showS d s).1.get s.sp).id = s.id ∧ ((showS d s).1.get s.sp).ba = s.ba ∧ s.te ≤ ((showS d s).1.get s.sp).op ∧ (showS (showS d s).1 s).2 = s.ky := by
  rw [Sh.good_iff] at hs
  obtain ⟨h1, h2, h3, h4, h5, h6, h7, h8, h9, -⟩ := hs
  have hop := (fit_id (get_good hd s.sp)).2.2.1
  rcases (show s.sp = 0 ∨ s.sp = 1 ∨ s.sp = 2 by omega) with h' | h' | h' <;>
  · simp only [showS, h', Dc.set, Dc.cut, fitsS, Dc.get] at *
    grind [zLy, zDc, lead_self]
theorem sh3 {d : Dc} {s : Sh} (hs : s.good = true) (h : (showS d s).2 = false) :
    ((showS d s).1.x = d.x ∨ (showS d s).1.x = zLy) ∧ ((showS d s).1.y = d.y ∨ (showS d s).1.y = zLy) ∧ ((showS d s).1.z = d.z ∨ (showS d s).1.z = zLy) := by
  rw [Sh.good_iff] at hs
  obtain ⟨h1, h2, h3, h4, h5, h6, h7, h8, h9, -⟩ := hs
  rcases (show s.sp = 0 ∨ s.sp = 1 ∨ s.sp = 2 by omega) with h' | h' | h' <;>
  · simp only [showS, h', Dc.set, Dc.cut, fitsS, Dc.get] at *
    grind [zLy, zDc]
theorem sh4 {d : Dc} {s : Sh} (hs : s.good = true) (h : (showS d s).2 = true) :
    (s.sp = 1 → (showS d s).1.x = d.x) ∧ (s.sp = 2 → (showS d s).1.x = d.x ∧ (showS d s).1.y = d.y) := by
  rw [Sh.good_iff] at hs
  obtain ⟨h1, h2, h3, h4, h5, h6, h7, h8, h9, -⟩ := hs
  rcases (show s.sp = 0 ∨ s.sp = 1 ∨ s.sp = 2 by omega) with h' | h' | h' <;>
  · simp only [showS, h', Dc.set, Dc.cut, fitsS, Dc.get] at *
    grind [zLy, zDc]
def T16 : List (Nat × Ct) := [(12, k12), (18, k18), (26, k26), (28, k28)]
theorem hT16 : Sound Try.prog (cxT T16) := Sound.cons s12 <| Sound.cons s18 <| Sound.cons s26 <| Sound.cons s28 Sound.nil
theorem inner8 {K : Kont} {e : Env} {h : Hp} {n : Nat} (L : List AV) (x y z : Ly) (d : Dc) (s : Sh) (is : Bool) (k m cap : Nat) (hs0 : 0 ≤ s.sp) (hLb : belL 5 L = true)
    (hx : (is = false → x = d.x ∨ x = zLy) ∧ (is = true → 0 < s.sp → x = d.x)) (hy : (is = false → y = d.y ∨ y = zLy) ∧ (is = true → 1 < s.sp → y = d.y)) (hz : (is = false → z = d.z ∨ z = zLy) ∧ (is = true → 2 < s.sp → z = d.z))
    (he : EnvIn 5 e [(106, .i .i64 0), (105, .agg (Dc.mk x y z).l), (3, .p 1 0), (6, .p 3 0), (7, .p 4 0), (8, .b is), (22, .sl 0 0 m cap), (23, .i .i64 (m : Int)), (24, .i .i64 (k : Int))])
    (hh : HpIn 5 h [(4, { cells := (Dc.mk x y z).l }), (3, { cells := s.l }), (1, { cells := d.l }), (0, { cells := L, ro := true })])
    (hK : ∀ e' h' n', eget e' 3 = some (.p 1 0) → eget e' 7 = some (.p 4 0) → eget e' 22 = some (.sl 0 0 m cap) → eget e' 23 = some (.i .i64 (m : Int)) → eget e' 24 = some (.i .i64 (k : Int)) →
      hget h' 4 = some { cells := (Dc.mk x y z).l } → hget h' 1 = some { cells := d.l } → hget h' 0 = some { cells := L, ro := true } → K (.exit 2) e' h' n') :
    Ab.Loop Try.prog [17, 25, 56, 57, 103, 107, 141] 145 1 i8l22 K e h n := by
  refine Loop.count (F := ⟨Try.prog, cxT T16, [17, 25, 56, 57, 103, 107, 141], 145, 1⟩) hT16 mo 3
    (fun j => [(106, .i .i64 (j : Int)), (105, .agg (Dc.mk x y z).l), (3, .p 1 0), (6, .p 3 0), (7, .p 4 0), (8, .b is), (22, .sl 0 0 m cap), (23, .i .i64 (m : Int)), (24, .i .i64 (k : Int))])
    (fun j => [(4, { cells := (Dc.mk x y z).l }), (3, { cells := s.l }), (1, { cells := d.l }), (0, { cells := L, ro := true })]) 5 (by decide) he hh (fun j hj => ?_)
  dsimp only [T16]
  match j, hj with
  | 0, _ =>
    cases is
    · rcases hx.1 rfl with rfl | rfl
      · simp (config := { maxSteps := 400000 }) only [go_sem, Dc.l, Sh.l, AV.bel, belL, nblt, hLb, Int.cast_ofNat_Int, Int.natCast_zero, Int.natCast_one, ↓reduceIte, beq_self_eq_true, bne_self_eq_false, Int.reduceAdd, Int.reduceSub, Int.reduceMul, Int.reduceNeg, Int.reduceEq, Int.reduceNe, Int.cast_ofNat_Int, Int.lt_irrefl, Int.le_refl, Nat.reduceEqDiff, Nat.reduceLeDiff, Nat.reduceLT, Int.reducePow, IntKind.bits, Nat.reduceAdd, Nat.reduceMul, Nat.reduceSub, Int.reduceBNe, Int.reduceBEq, Int.reduceLE, Int.reduceLT, Int.reduceToNat, reduceCtorEq, Nat.zero_ne_one, Nat.one_ne_zero, and_self, and_true, true_and, Option.getD_some, Option.isSome_some, wrapL, gt_iff_lt, ge_iff_le, Int.toNat_natCast, Nat.sub_zero, ite_self, spB_TT, Nat.zero_add, Nat.add_zero]
      · simp (config := { maxSteps := 400000 }) only [go_sem, Dc.l, Sh.l, zLy, AV.bel, belL, nblt, hLb, Int.cast_ofNat_Int, Int.natCast_zero, Int.natCast_one, ↓reduceIte, beq_self_eq_true, bne_self_eq_false, Int.reduceAdd, Int.reduceSub, Int.reduceMul, Int.reduceNeg, Int.reduceEq, Int.reduceNe, Int.cast_ofNat_Int, Int.lt_irrefl, Int.le_refl, Nat.reduceEqDiff, Nat.reduceLeDiff, Nat.reduceLT, Int.reducePow, IntKind.bits, Nat.reduceAdd, Nat.reduceMul, Nat.reduceSub, Int.reduceBNe, Int.reduceBEq, Int.reduceLE, Int.reduceLT, Int.reduceToNat, reduceCtorEq, Nat.zero_ne_one, Nat.one_ne_zero, and_self, and_true, true_and, Option.getD_some, Option.isSome_some, wrapL, gt_iff_lt, ge_iff_le, Int.toNat_natCast, Nat.sub_zero, ite_self, spB_TT, Nat.zero_add, Nat.add_zero]
    · by_cases hlt : (0 : Int) < s.sp
      · have hd : decide ((0 : Int) < s.sp) = true := decide_eq_true hlt
        obtain rfl := hx.2 rfl hlt
        simp (config := { maxSteps := 400000 }) only [go_sem, Dc.l, Sh.l, hd, AV.bel, belL, nblt, hLb, Int.cast_ofNat_Int, Int.natCast_zero, Int.natCast_one, ↓reduceIte, beq_self_eq_true, bne_self_eq_false, Int.reduceAdd, Int.reduceSub, Int.reduceMul, Int.reduceNeg, Int.reduceEq, Int.reduceNe, Int.cast_ofNat_Int, Int.lt_irrefl, Int.le_refl, Nat.reduceEqDiff, Nat.reduceLeDiff, Nat.reduceLT, Int.reducePow, IntKind.bits, Nat.reduceAdd, Nat.reduceMul, Nat.reduceSub, Int.reduceBNe, Int.reduceBEq, Int.reduceLE, Int.reduceLT, Int.reduceToNat, reduceCtorEq, Nat.zero_ne_one, Nat.one_ne_zero, and_self, and_true, true_and, Option.getD_some, Option.isSome_some, wrapL, gt_iff_lt, ge_iff_le, Int.toNat_natCast, Nat.sub_zero, ite_self, spB_TT, Nat.zero_add, Nat.add_zero]
      · have hd : decide ((0 : Int) < s.sp) = false := decide_eq_false hlt
        simp (config := { maxSteps := 400000 }) only [go_sem, Dc.l, Sh.l, hd, AV.bel, belL, nblt, hLb, Int.cast_ofNat_Int, Int.natCast_zero, Int.natCast_one, ↓reduceIte, beq_self_eq_true, bne_self_eq_false, Int.reduceAdd, Int.reduceSub, Int.reduceMul, Int.reduceNeg, Int.reduceEq, Int.reduceNe, Int.cast_ofNat_Int, Int.lt_irrefl, Int.le_refl, Nat.reduceEqDiff, Nat.reduceLeDiff, Nat.reduceLT, Int.reducePow, IntKind.bits, Nat.reduceAdd, Nat.reduceMul, Nat.reduceSub, Int.reduceBNe, Int.reduceBEq, Int.reduceLE, Int.reduceLT, Int.reduceToNat, reduceCtorEq, Nat.zero_ne_one, Nat.one_ne_zero, and_self, and_true, true_and, Option.getD_some, Option.isSome_some, wrapL, gt_iff_lt, ge_iff_le, Int.toNat_natCast, Nat.sub_zero, ite_self, spB_TT, Nat.zero_add, Nat.add_zero]
  | 1, _ =>
    cases is
    · rcases hy.1 rfl with rfl | rfl
      · simp (config := { maxSteps := 400000 }) only [go_sem, Dc.l, Sh.l, AV.bel, belL, nblt, hLb, Int.cast_ofNat_Int, Int.natCast_zero, Int.natCast_one, ↓reduceIte, beq_self_eq_true, bne_self_eq_false, Int.reduceAdd, Int.reduceSub, Int.reduceMul, Int.reduceNeg, Int.reduceEq, Int.reduceNe, Int.cast_ofNat_Int, Int.lt_irrefl, Int.le_refl, Nat.reduceEqDiff, Nat.reduceLeDiff, Nat.reduceLT, Int.reducePow, IntKind.bits, Nat.reduceAdd, Nat.reduceMul, Nat.reduceSub, Int.reduceBNe, Int.reduceBEq, Int.reduceLE, Int.reduceLT, Int.reduceToNat, reduceCtorEq, Nat.zero_ne_one, Nat.one_ne_zero, and_self, and_true, true_and, Option.getD_some, Option.isSome_some, wrapL, gt_iff_lt, ge_iff_le, Int.toNat_natCast, Nat.sub_zero, ite_self, spB_TT, Nat.zero_add, Nat.add_zero]
      · simp (config := { maxSteps := 400000 }) only [go_sem, Dc.l, Sh.l, zLy, AV.bel, belL, nblt, hLb, Int.cast_ofNat_Int, Int.natCast_zero, Int.natCast_one, ↓reduceIte, beq_self_eq_true, bne_self_eq_false, Int.reduceAdd, Int.reduceSub, Int.reduceMul, Int.reduceNeg, Int.reduceEq, Int.reduceNe, Int.cast_ofNat_Int, Int.lt_irrefl, Int.le_refl, Nat.reduceEqDiff, Nat.reduceLeDiff, Nat.reduceLT, Int.reducePow, IntKind.bits, Nat.reduceAdd, Nat.reduceMul, Nat.reduceSub, Int.reduceBNe, Int.reduceBEq, Int.reduceLE, Int.reduceLT, Int.reduceToNat, reduceCtorEq, Nat.zero_ne_one, Nat.one_ne_zero, and_self, and_true, true_and, Option.getD_some, Option.isSome_some, wrapL, gt_iff_lt, ge_iff_le, Int.toNat_natCast, Nat.sub_zero, ite_self, spB_TT, Nat.zero_add, Nat.add_zero]
    · by_cases hlt : (1 : Int) < s.sp
      · have hd : decide ((1 : Int) < s.sp) = true := decide_eq_true hlt
        obtain rfl := hy.2 rfl hlt
        simp (config := { maxSteps := 400000 }) only [go_sem, Dc.l, Sh.l, hd, AV.bel, belL, nblt, hLb, Int.cast_ofNat_Int, Int.natCast_zero, Int.natCast_one, ↓reduceIte, beq_self_eq_true, bne_self_eq_false, Int.reduceAdd, Int.reduceSub, Int.reduceMul, Int.reduceNeg, Int.reduceEq, Int.reduceNe, Int.cast_ofNat_Int, Int.lt_irrefl, Int.le_refl, Nat.reduceEqDiff, Nat.reduceLeDiff, Nat.reduceLT, Int.reducePow, IntKind.bits, Nat.reduceAdd, Nat.reduceMul, Nat.reduceSub, Int.reduceBNe, Int.reduceBEq, Int.reduceLE, Int.reduceLT, Int.reduceToNat, reduceCtorEq, Nat.zero_ne_one, Nat.one_ne_zero, and_self, and_true, true_and, Option.getD_some, Option.isSome_some, wrapL, gt_iff_lt, ge_iff_le, Int.toNat_natCast, Nat.sub_zero, ite_self, spB_TT, Nat.zero_add, Nat.add_zero]
      · have hd : decide ((1 : Int) < s.sp) = false := decide_eq_false hlt
        simp (config := { maxSteps := 400000 }) only [go_sem, Dc.l, Sh.l, hd, AV.bel, belL, nblt, hLb, Int.cast_ofNat_Int, Int.natCast_zero, Int.natCast_one, ↓reduceIte, beq_self_eq_true, bne_self_eq_false, Int.reduceAdd, Int.reduceSub, Int.reduceMul, Int.reduceNeg, Int.reduceEq, Int.reduceNe, Int.cast_ofNat_Int, Int.lt_irrefl, Int.le_refl, Nat.reduceEqDiff, Nat.reduceLeDiff, Nat.reduceLT, Int.reducePow, IntKind.bits, Nat.reduceAdd, Nat.reduceMul, Nat.reduceSub, Int.reduceBNe, Int.reduceBEq, Int.reduceLE, Int.reduceLT, Int.reduceToNat, reduceCtorEq, Nat.zero_ne_one, Nat.one_ne_zero, and_self, and_true, true_and, Option.getD_some, Option.isSome_some, wrapL, gt_iff_lt, ge_iff_le, Int.toNat_natCast, Nat.sub_zero, ite_self, spB_TT, Nat.zero_add, Nat.add_zero]
  | 2, _ =>
    cases is
    · rcases hz.1 rfl with rfl | rfl
      · simp (config := { maxSteps := 400000 }) only [go_sem, Dc.l, Sh.l, AV.bel, belL, nblt, hLb, Int.cast_ofNat_Int, Int.natCast_zero, Int.natCast_one, ↓reduceIte, beq_self_eq_true, bne_self_eq_false, Int.reduceAdd, Int.reduceSub, Int.reduceMul, Int.reduceNeg, Int.reduceEq, Int.reduceNe, Int.cast_ofNat_Int, Int.lt_irrefl, Int.le_refl, Nat.reduceEqDiff, Nat.reduceLeDiff, Nat.reduceLT, Int.reducePow, IntKind.bits, Nat.reduceAdd, Nat.reduceMul, Nat.reduceSub, Int.reduceBNe, Int.reduceBEq, Int.reduceLE, Int.reduceLT, Int.reduceToNat, reduceCtorEq, Nat.zero_ne_one, Nat.one_ne_zero, and_self, and_true, true_and, Option.getD_some, Option.isSome_some, wrapL, gt_iff_lt, ge_iff_le, Int.toNat_natCast, Nat.sub_zero, ite_self, spB_TT, Nat.zero_add, Nat.add_zero]
      · simp (config := { maxSteps := 400000 }) only [go_sem, Dc.l, Sh.l, zLy, AV.bel, belL, nblt, hLb, Int.cast_ofNat_Int, Int.natCast_zero, Int.natCast_one, ↓reduceIte, beq_self_eq_true, bne_self_eq_false, Int.reduceAdd, Int.reduceSub, Int.reduceMul, Int.reduceNeg, Int.reduceEq, Int.reduceNe, Int.cast_ofNat_Int, Int.lt_irrefl, Int.le_refl, Nat.reduceEqDiff, Nat.reduceLeDiff, Nat.reduceLT, Int.reducePow, IntKind.bits, Nat.reduceAdd, Nat.reduceMul, Nat.reduceSub, Int.reduceBNe, Int.reduceBEq, Int.reduceLE, Int.reduceLT, Int.reduceToNat, reduceCtorEq, Nat.zero_ne_one, Nat.one_ne_zero, and_self, and_true, true_and, Option.getD_some, Option.isSome_some, wrapL, gt_iff_lt, ge_iff_le, Int.toNat_natCast, Nat.sub_zero, ite_self, spB_TT, Nat.zero_add, Nat.add_zero]
    · by_cases hlt : (2 : Int) < s.sp
      · have hd : decide ((2 : Int) < s.sp) = true := decide_eq_true hlt
        obtain rfl := hz.2 rfl hlt
        simp (config := { maxSteps := 400000 }) only [go_sem, Dc.l, Sh.l, hd, AV.bel, belL, nblt, hLb, Int.cast_ofNat_Int, Int.natCast_zero, Int.natCast_one, ↓reduceIte, beq_self_eq_true, bne_self_eq_false, Int.reduceAdd, Int.reduceSub, Int.reduceMul, Int.reduceNeg, Int.reduceEq, Int.reduceNe, Int.cast_ofNat_Int, Int.lt_irrefl, Int.le_refl, Nat.reduceEqDiff, Nat.reduceLeDiff, Nat.reduceLT, Int.reducePow, IntKind.bits, Nat.reduceAdd, Nat.reduceMul, Nat.reduceSub, Int.reduceBNe, Int.reduceBEq, Int.reduceLE, Int.reduceLT, Int.reduceToNat, reduceCtorEq, Nat.zero_ne_one, Nat.one_ne_zero, and_self, and_true, true_and, Option.getD_some, Option.isSome_some, wrapL, gt_iff_lt, ge_iff_le, Int.toNat_natCast, Nat.sub_zero, ite_self, spB_TT, Nat.zero_add, Nat.add_zero]
      · have hd : decide ((2 : Int) < s.sp) = false := decide_eq_false hlt
        simp (config := { maxSteps := 400000 }) only [go_sem, Dc.l, Sh.l, hd, AV.bel, belL, nblt, hLb, Int.cast_ofNat_Int, Int.natCast_zero, Int.natCast_one, ↓reduceIte, beq_self_eq_true, bne_self_eq_false, Int.reduceAdd, Int.reduceSub, Int.reduceMul, Int.reduceNeg, Int.reduceEq, Int.reduceNe, Int.cast_ofNat_Int, Int.lt_irrefl, Int.le_refl, Nat.reduceEqDiff, Nat.reduceLeDiff, Nat.reduceLT, Int.reducePow, IntKind.bits, Nat.reduceAdd, Nat.reduceMul, Nat.reduceSub, Int.reduceBNe, Int.reduceBEq, Int.reduceLE, Int.reduceLT, Int.reduceToNat, reduceCtorEq, Nat.zero_ne_one, Nat.one_ne_zero, and_self, and_true, true_and, Option.getD_some, Option.isSome_some, wrapL, gt_iff_lt, ge_iff_le, Int.toNat_natCast, Nat.sub_zero, ite_self, spB_TT, Nat.zero_add, Nat.add_zero]
  | 3, _ =>
    simp (config := { maxSteps := 400000 }) only [go_sem, Int.cast_ofNat_Int, ↓reduceIte, beq_self_eq_true, bne_self_eq_false, Int.reduceAdd, Int.reduceSub, Int.reduceMul, Int.reduceNeg, Int.reduceEq, Int.reduceNe, Int.cast_ofNat_Int, Int.lt_irrefl, Int.le_refl, Nat.reduceEqDiff, Nat.reduceLeDiff, Nat.reduceLT, Int.reducePow, IntKind.bits, Nat.reduceAdd, Nat.reduceMul, Nat.reduceSub, Int.reduceBNe, Int.reduceBEq, Int.reduceLE, Int.reduceLT, Int.reduceToNat, reduceCtorEq, Nat.zero_ne_one, Nat.one_ne_zero, and_self, and_true, true_and, Option.getD_some, Option.isSome_some, wrapL, gt_iff_lt, ge_iff_le, Int.toNat_natCast, Nat.sub_zero, ite_self, spB_TT, Nat.zero_add, Nat.add_zero]
    refine hK _ _ _ ?_ ?_ ?_ ?_ ?_ ?_ ?_ ?_ <;> rfl
theorem body8 (ls : List Dr) (cap : Nat) (h : ls.all Dr.ok = true) (hcap : ls.length ≤ cap) : FTL Try.prog 8 [.sl 0 0 ls.length cap] [(0, { cells := rows Dr.l ls, ro := true })] 1 (.b true) [] 1 := by
  refine FTL.of_iw hT16 mo Try.func8 i8_eq (by simp [i8]) (iw_of_jw ?_)
  dsimp only [i8, T16]
  have hLb : belL 0 (rows Dr.l ls) = true := rows_bel Dr.bel
  have hL : ∀ k x, ls[k]? = some x → List.take 5 (List.drop (k * 5) (rows Dr.l ls)) = x.l := fun k x hk => rows_at Dr.len hk
  generalize rows Dr.l ls = L at hL hLb ⊢
  have hLb2 := belL_mono0 (m := 2) _ hLb
  obtain ⟨m, hm⟩ : ∃ m, m = min ls.length 40 := ⟨_, rfl⟩
  have hm1 : min (ls.length : Int) 40 = (m : Int) := by omega
  have c0 : decide (0 ≤ (m : Int) ∧ 0 ≤ (m : Int) ∧ (m : Int) ≤ (cap : Int) ∧ 0 ≤ (cap : Int)) = true := decide_eq_true (by omega)
  simp (config := { maxSteps := 400000 }) only [go_sem, k18, c0, hm1, ↓reduceIte, beq_self_eq_true, bne_self_eq_false, Int.reduceAdd, Int.reduceSub, Int.reduceMul, Int.reduceNeg, Int.reduceEq, Int.reduceNe, Int.cast_ofNat_Int, Int.lt_irrefl, Int.le_refl, Nat.reduceEqDiff, Nat.reduceLeDiff, Nat.reduceLT, Int.reducePow, IntKind.bits, Nat.reduceAdd, Nat.reduceMul, Nat.reduceSub, Int.reduceBNe, Int.reduceBEq, Int.reduceLE, Int.reduceLT, Int.reduceToNat, reduceCtorEq, Nat.zero_ne_one, Nat.one_ne_zero, and_self, and_true, true_and, Option.getD_some, Option.isSome_some, wrapL, gt_iff_lt, ge_iff_le, Int.toNat_natCast, Nat.sub_zero, ite_self, spB_TT, Nat.zero_add, Nat.add_zero]
  refine Loop.countI (F := ⟨Try.prog, cxT T16, [17, 25, 56, 57, 103, 107, 141], 145, 1⟩) hT16 mo m (fun _ => True)
    (fun k => [(24, .i .i64 (k : Int)), (23, .i .i64 (m : Int)), (22, .sl 0 0 m cap), (3, .p 1 0)])
    (fun k => [(0, { cells := L, ro := true }), (1, { cells := ((ls.take k).foldl shStep zDc).l })]) 2 (by decide) trivial ?_ ?_ (fun k hk _ => ?_)
  · simp (config := { maxSteps := 400000 }) only [go_sem, AV.bel, belL, nblt, ↓reduceIte, beq_self_eq_true, bne_self_eq_false, Int.reduceAdd, Int.reduceSub, Int.reduceMul, Int.reduceNeg, Int.reduceEq, Int.reduceNe, Int.cast_ofNat_Int, Int.lt_irrefl, Int.le_refl, Nat.reduceEqDiff, Nat.reduceLeDiff, Nat.reduceLT, Int.reducePow, IntKind.bits, Nat.reduceAdd, Nat.reduceMul, Nat.reduceSub, Int.reduceBNe, Int.reduceBEq, Int.reduceLE, Int.reduceLT, Int.reduceToNat, reduceCtorEq, Nat.zero_ne_one, Nat.one_ne_zero, and_self, and_true, true_and, Option.getD_some, Option.isSome_some, wrapL, gt_iff_lt, ge_iff_le, Int.toNat_natCast, Nat.sub_zero, ite_self, spB_TT, Nat.zero_add, Nat.add_zero]
  · simp (config := { maxSteps := 400000 }) only [go_sem, AV.bel, belL, nblt, hLb2, Dc.l, zDc, zLy, List.take_zero, List.foldl_nil, ↓reduceIte, beq_self_eq_true, bne_self_eq_false, Int.reduceAdd, Int.reduceSub, Int.reduceMul, Int.reduceNeg, Int.reduceEq, Int.reduceNe, Int.cast_ofNat_Int, Int.lt_irrefl, Int.le_refl, Nat.reduceEqDiff, Nat.reduceLeDiff, Nat.reduceLT, Int.reducePow, IntKind.bits, Nat.reduceAdd, Nat.reduceMul, Nat.reduceSub, Int.reduceBNe, Int.reduceBEq, Int.reduceLE, Int.reduceLT, Int.reduceToNat, reduceCtorEq, Nat.zero_ne_one, Nat.one_ne_zero, and_self, and_true, true_and, Option.getD_some, Option.isSome_some, wrapL, gt_iff_lt, ge_iff_le, Int.toNat_natCast, Nat.sub_zero, ite_self, spB_TT, Nat.zero_add, Nat.add_zero]
  · dsimp only [T16]
    have hgd := fold_good (all_take k h) (d := zDc) rfl
    by_cases hlt : k < m
    · have c1 : decide ((k : Int) < (m : Int)) = true := decide_eq_true (by omega)
      have c3 : decide (0 ≤ (k : Int) ∧ (k : Int) < (m : Int)) = true := decide_eq_true (by omega)
      have hk' : k < ls.length := by omega
      have hx := hL k ls[k] (List.getElem?_eq_getElem hk')
      have hgs : ls[k].sh.good = true := Dr.good (List.all_eq_true.1 h _ (List.getElem_mem hk'))
      have hsd : draftS ls[k].f ls[k].i ls[k].b ls[k].t ls[k].s = ls[k].sh := rfl
      have hfs := fold_succ hk' (d := zDc)
      have hw : IntKind.i64.wrap ((k : Int) + 1) = ((k + 1 : Nat) : Int) := by rw [wrapL (by omega) (by omega)]; omega
      generalize hdk : (ls.take k).foldl shStep zDc = dk at hgd hfs
      have e3 : shStep ((ls.take k).foldl shStep zDc) ls[k] = (showS ((ls.take k).foldl shStep zDc) ls[k].sh).1 := rfl
      rw [hdk] at e3
      rw [e3] at hfs
      generalize ls[k].sh = s0 at hgs hsd hfs
      have ht1 : toldS dk s0 = ((showS dk s0).1, (showS dk s0).2, 0) := by simp [toldS, hgd, hgs]
      have hgn := show_good hgd hgs
      have ht2 : toldS (showS dk s0).1 s0 = ((showS (showS dk s0).1 s0).1, (showS (showS dk s0).1 s0).2, 0) := by simp [toldS, hgn, hgs]
      have q1 := @sh1 dk s0
      have q2 := sh2 hgd hgs
      have q3 := @sh3 dk s0 hgs
      have q4 := @sh4 dk s0 hgs
      obtain ⟨hb0, hb1, hb2, hb3, hb4, hb5, hb6, hb7, -⟩ := (Sh.good_iff s0).1 hgs
      generalize hR : showS dk s0 = R at *
      have hLb5 := belL_mono0 (m := 5) _ hLb
      obtain ⟨⟨x, y, z⟩, is⟩ := R
      obtain ⟨st, ky, sy, la, id, ba, te, sp⟩ := s0
      simp only at hfs ht1 hgn ht2 q1 q2 q3 q4 hb0 hb1 hb2 hb3 hb4 hb5 hb6 hb7
      cases is
      · obtain ⟨hx', hy', hz'⟩ := q3 rfl
        cases ky
        · simp (config := { maxSteps := 400000 }) only [go_sem, k12, k18, k26, k28, c1, c3, hdk, hx, hsd, hw, hlt, Dc.l, Dr.l, Sh.l, dcV, shV, Dc.eta, ht1, ht2, hgn, ↓reduceIte, beq_self_eq_true, bne_self_eq_false, Int.reduceAdd, Int.reduceSub, Int.reduceMul, Int.reduceNeg, Int.reduceEq, Int.reduceNe, Int.cast_ofNat_Int, Int.lt_irrefl, Int.le_refl, Nat.reduceEqDiff, Nat.reduceLeDiff, Nat.reduceLT, Int.reducePow, IntKind.bits, Nat.reduceAdd, Nat.reduceMul, Nat.reduceSub, Int.reduceBNe, Int.reduceBEq, Int.reduceLE, Int.reduceLT, Int.reduceToNat, reduceCtorEq, Nat.zero_ne_one, Nat.one_ne_zero, and_self, and_true, true_and, Option.getD_some, Option.isSome_some, wrapL, gt_iff_lt, ge_iff_le, Int.toNat_natCast, Nat.sub_zero, ite_self, spB_TT, Nat.zero_add, Nat.add_zero]
          apply inner8 (L := L) (x := x) (y := y) (z := z) (d := dk) (s := ⟨st, false, sy, la, id, ba, te, sp⟩) (is := false) (k := k) (m := m) (cap := cap)
          case he => exact ⟨rfl, rfl, rfl, rfl, rfl, rfl, rfl, rfl, rfl, rfl, rfl, rfl, rfl, rfl, rfl, rfl, rfl, rfl, trivial⟩
          case hh => exact ⟨rfl, rfl, by decide, rfl, rfl, by decide, rfl, rfl, by decide, rfl, hLb5, by decide, trivial⟩
          case hs0 => exact hb6
          case hLb => exact hLb5
          case hx => exact ⟨fun _ => hx', fun h => by cases h⟩
          case hy => exact ⟨fun _ => hy', fun h => by cases h⟩
          case hz => exact ⟨fun _ => hz', fun h => by cases h⟩
          case hK =>
            intro e' h' n' q1 q2 q3 q4 q5 q6 q7 q8
            simp (config := { maxSteps := 400000 }) only [go_sem, q1, q2, q3, q4, q5, q6, q7, q8, hget_hs, Dc.l, hw, hlt, hfs, AV.bel, belL, nblt, hLb2, ↓reduceIte, beq_self_eq_true, bne_self_eq_false, Int.reduceAdd, Int.reduceSub, Int.reduceMul, Int.reduceNeg, Int.reduceEq, Int.reduceNe, Int.cast_ofNat_Int, Int.lt_irrefl, Int.le_refl, Nat.reduceEqDiff, Nat.reduceLeDiff, Nat.reduceLT, Int.reducePow, IntKind.bits, Nat.reduceAdd, Nat.reduceMul, Nat.reduceSub, Int.reduceBNe, Int.reduceBEq, Int.reduceLE, Int.reduceLT, Int.reduceToNat, reduceCtorEq, Nat.zero_ne_one, Nat.one_ne_zero, and_self, and_true, true_and, Option.getD_some, Option.isSome_some, wrapL, gt_iff_lt, ge_iff_le, Int.toNat_natCast, Nat.sub_zero, ite_self, spB_TT, Nat.zero_add, Nat.add_zero]
        · have hsp0 : (sp == 0) = false := by
            by_cases h0 : sp = 0
            · exact absurd (q1 rfl h0) (by simp)
            · simpa using h0
          simp (config := { maxSteps := 400000 }) only [go_sem, k12, k18, k26, k28, c1, c3, hdk, hx, hsd, hw, hlt, Dc.l, Dr.l, Sh.l, dcV, shV, Dc.eta, ht1, ht2, hgn, hsp0, ↓reduceIte, beq_self_eq_true, bne_self_eq_false, Int.reduceAdd, Int.reduceSub, Int.reduceMul, Int.reduceNeg, Int.reduceEq, Int.reduceNe, Int.cast_ofNat_Int, Int.lt_irrefl, Int.le_refl, Nat.reduceEqDiff, Nat.reduceLeDiff, Nat.reduceLT, Int.reducePow, IntKind.bits, Nat.reduceAdd, Nat.reduceMul, Nat.reduceSub, Int.reduceBNe, Int.reduceBEq, Int.reduceLE, Int.reduceLT, Int.reduceToNat, reduceCtorEq, Nat.zero_ne_one, Nat.one_ne_zero, and_self, and_true, true_and, Option.getD_some, Option.isSome_some, wrapL, gt_iff_lt, ge_iff_le, Int.toNat_natCast, Nat.sub_zero, ite_self, spB_TT, Nat.zero_add, Nat.add_zero]
          apply inner8 (L := L) (x := x) (y := y) (z := z) (d := dk) (s := ⟨st, true, sy, la, id, ba, te, sp⟩) (is := false) (k := k) (m := m) (cap := cap)
          case he => exact ⟨rfl, rfl, rfl, rfl, rfl, rfl, rfl, rfl, rfl, rfl, rfl, rfl, rfl, rfl, rfl, rfl, rfl, rfl, trivial⟩
          case hh => exact ⟨rfl, rfl, by decide, rfl, rfl, by decide, rfl, rfl, by decide, rfl, hLb5, by decide, trivial⟩
          case hs0 => exact hb6
          case hLb => exact hLb5
          case hx => exact ⟨fun _ => hx', fun h => by cases h⟩
          case hy => exact ⟨fun _ => hy', fun h => by cases h⟩
          case hz => exact ⟨fun _ => hz', fun h => by cases h⟩
          case hK =>
            intro e' h' n' q1 q2 q3 q4 q5 q6 q7 q8
            simp (config := { maxSteps := 400000 }) only [go_sem, q1, q2, q3, q4, q5, q6, q7, q8, hget_hs, Dc.l, hw, hlt, hfs, AV.bel, belL, nblt, hLb2, ↓reduceIte, beq_self_eq_true, bne_self_eq_false, Int.reduceAdd, Int.reduceSub, Int.reduceMul, Int.reduceNeg, Int.reduceEq, Int.reduceNe, Int.cast_ofNat_Int, Int.lt_irrefl, Int.le_refl, Nat.reduceEqDiff, Nat.reduceLeDiff, Nat.reduceLT, Int.reducePow, IntKind.bits, Nat.reduceAdd, Nat.reduceMul, Nat.reduceSub, Int.reduceBNe, Int.reduceBEq, Int.reduceLE, Int.reduceLT, Int.reduceToNat, reduceCtorEq, Nat.zero_ne_one, Nat.one_ne_zero, and_self, and_true, true_and, Option.getD_some, Option.isSome_some, wrapL, gt_iff_lt, ge_iff_le, Int.toNat_natCast, Nat.sub_zero, ite_self, spB_TT, Nat.zero_add, Nat.add_zero]
      · obtain ⟨p1, p2, p3, p4, p5⟩ := q2 rfl
        obtain ⟨p6, p7⟩ := q4 rfl
        rcases (show sp = 0 ∨ sp = 1 ∨ sp = 2 by omega) with rfl | rfl | rfl
        · have g : (Dc.mk x y z).get 0 = x := rfl
          rw [g] at p1 p2 p3 p4
          obtain ⟨vl, vi, vb, vo⟩ := x
          simp only at p1 p2 p3 p4
          subst p1 p2 p3
          have p8 : decide (vo < te) = false := decide_eq_false (by omega)
          cases ky
          · simp (config := { maxSteps := 400000 }) only [go_sem, k12, k18, k26, k28, c1, c3, hdk, hx, hsd, hw, hlt, Dc.l, Dr.l, Sh.l, dcV, shV, Dc.eta, ht1, ht2, hgn, p5, p8, ↓reduceIte, beq_self_eq_true, bne_self_eq_false, Int.reduceAdd, Int.reduceSub, Int.reduceMul, Int.reduceNeg, Int.reduceEq, Int.reduceNe, Int.cast_ofNat_Int, Int.lt_irrefl, Int.le_refl, Nat.reduceEqDiff, Nat.reduceLeDiff, Nat.reduceLT, Int.reducePow, IntKind.bits, Nat.reduceAdd, Nat.reduceMul, Nat.reduceSub, Int.reduceBNe, Int.reduceBEq, Int.reduceLE, Int.reduceLT, Int.reduceToNat, reduceCtorEq, Nat.zero_ne_one, Nat.one_ne_zero, and_self, and_true, true_and, Option.getD_some, Option.isSome_some, wrapL, gt_iff_lt, ge_iff_le, Int.toNat_natCast, Nat.sub_zero, ite_self, spB_TT, Nat.zero_add, Nat.add_zero]
            apply inner8 (L := L) (x := ⟨true, vi, vb, vo⟩) (y := y) (z := z) (d := dk) (s := ⟨st, false, sy, la, vi, vb, te, 0⟩) (is := true) (k := k) (m := m) (cap := cap)
            case he => exact ⟨rfl, rfl, rfl, rfl, rfl, rfl, rfl, rfl, rfl, rfl, rfl, rfl, rfl, rfl, rfl, rfl, rfl, rfl, trivial⟩
            case hh => exact ⟨rfl, rfl, by decide, rfl, rfl, by decide, rfl, rfl, by decide, rfl, hLb5, by decide, trivial⟩
            case hs0 => exact hb6
            case hLb => exact hLb5
            case hx => exact ⟨fun h => (by cases h), fun _ h => by simp only at h; omega⟩
            case hy => exact ⟨fun h => (by cases h), fun _ h => by simp only at h; omega⟩
            case hz => exact ⟨fun h => (by cases h), fun _ h => by simp only at h; omega⟩
            case hK =>
              intro e' h' n' q1 q2 q3 q4 q5 q6 q7 q8
              simp (config := { maxSteps := 400000 }) only [go_sem, q1, q2, q3, q4, q5, q6, q7, q8, hget_hs, Dc.l, hw, hlt, hfs, AV.bel, belL, nblt, hLb2, ↓reduceIte, beq_self_eq_true, bne_self_eq_false, Int.reduceAdd, Int.reduceSub, Int.reduceMul, Int.reduceNeg, Int.reduceEq, Int.reduceNe, Int.cast_ofNat_Int, Int.lt_irrefl, Int.le_refl, Nat.reduceEqDiff, Nat.reduceLeDiff, Nat.reduceLT, Int.reducePow, IntKind.bits, Nat.reduceAdd, Nat.reduceMul, Nat.reduceSub, Int.reduceBNe, Int.reduceBEq, Int.reduceLE, Int.reduceLT, Int.reduceToNat, reduceCtorEq, Nat.zero_ne_one, Nat.one_ne_zero, and_self, and_true, true_and, Option.getD_some, Option.isSome_some, wrapL, gt_iff_lt, ge_iff_le, Int.toNat_natCast, Nat.sub_zero, ite_self, spB_TT, Nat.zero_add, Nat.add_zero]
          · simp (config := { maxSteps := 400000 }) only [go_sem, k12, k18, k26, k28, c1, c3, hdk, hx, hsd, hw, hlt, Dc.l, Dr.l, Sh.l, dcV, shV, Dc.eta, ht1, ht2, hgn, p5, p8, ↓reduceIte, beq_self_eq_true, bne_self_eq_false, Int.reduceAdd, Int.reduceSub, Int.reduceMul, Int.reduceNeg, Int.reduceEq, Int.reduceNe, Int.cast_ofNat_Int, Int.lt_irrefl, Int.le_refl, Nat.reduceEqDiff, Nat.reduceLeDiff, Nat.reduceLT, Int.reducePow, IntKind.bits, Nat.reduceAdd, Nat.reduceMul, Nat.reduceSub, Int.reduceBNe, Int.reduceBEq, Int.reduceLE, Int.reduceLT, Int.reduceToNat, reduceCtorEq, Nat.zero_ne_one, Nat.one_ne_zero, and_self, and_true, true_and, Option.getD_some, Option.isSome_some, wrapL, gt_iff_lt, ge_iff_le, Int.toNat_natCast, Nat.sub_zero, ite_self, spB_TT, Nat.zero_add, Nat.add_zero]
            apply inner8 (L := L) (x := ⟨true, vi, vb, vo⟩) (y := y) (z := z) (d := dk) (s := ⟨st, true, sy, la, vi, vb, te, 0⟩) (is := true) (k := k) (m := m) (cap := cap)
            case he => exact ⟨rfl, rfl, rfl, rfl, rfl, rfl, rfl, rfl, rfl, rfl, rfl, rfl, rfl, rfl, rfl, rfl, rfl, rfl, trivial⟩
            case hh => exact ⟨rfl, rfl, by decide, rfl, rfl, by decide, rfl, rfl, by decide, rfl, hLb5, by decide, trivial⟩
            case hs0 => exact hb6
            case hLb => exact hLb5
            case hx => exact ⟨fun h => (by cases h), fun _ h => by simp only at h; omega⟩
            case hy => exact ⟨fun h => (by cases h), fun _ h => by simp only at h; omega⟩
            case hz => exact ⟨fun h => (by cases h), fun _ h => by simp only at h; omega⟩
            case hK =>
              intro e' h' n' q1 q2 q3 q4 q5 q6 q7 q8
              simp (config := { maxSteps := 400000 }) only [go_sem, q1, q2, q3, q4, q5, q6, q7, q8, hget_hs, Dc.l, hw, hlt, hfs, AV.bel, belL, nblt, hLb2, ↓reduceIte, beq_self_eq_true, bne_self_eq_false, Int.reduceAdd, Int.reduceSub, Int.reduceMul, Int.reduceNeg, Int.reduceEq, Int.reduceNe, Int.cast_ofNat_Int, Int.lt_irrefl, Int.le_refl, Nat.reduceEqDiff, Nat.reduceLeDiff, Nat.reduceLT, Int.reducePow, IntKind.bits, Nat.reduceAdd, Nat.reduceMul, Nat.reduceSub, Int.reduceBNe, Int.reduceBEq, Int.reduceLE, Int.reduceLT, Int.reduceToNat, reduceCtorEq, Nat.zero_ne_one, Nat.one_ne_zero, and_self, and_true, true_and, Option.getD_some, Option.isSome_some, wrapL, gt_iff_lt, ge_iff_le, Int.toNat_natCast, Nat.sub_zero, ite_self, spB_TT, Nat.zero_add, Nat.add_zero]
        · have g : (Dc.mk x y z).get 1 = y := rfl
          rw [g] at p1 p2 p3 p4
          obtain ⟨vl, vi, vb, vo⟩ := y
          simp only at p1 p2 p3 p4
          subst p1 p2 p3
          have p8 : decide (vo < te) = false := decide_eq_false (by omega)
          cases ky
          · simp (config := { maxSteps := 400000 }) only [go_sem, k12, k18, k26, k28, c1, c3, hdk, hx, hsd, hw, hlt, Dc.l, Dr.l, Sh.l, dcV, shV, Dc.eta, ht1, ht2, hgn, p5, p8, ↓reduceIte, beq_self_eq_true, bne_self_eq_false, Int.reduceAdd, Int.reduceSub, Int.reduceMul, Int.reduceNeg, Int.reduceEq, Int.reduceNe, Int.cast_ofNat_Int, Int.lt_irrefl, Int.le_refl, Nat.reduceEqDiff, Nat.reduceLeDiff, Nat.reduceLT, Int.reducePow, IntKind.bits, Nat.reduceAdd, Nat.reduceMul, Nat.reduceSub, Int.reduceBNe, Int.reduceBEq, Int.reduceLE, Int.reduceLT, Int.reduceToNat, reduceCtorEq, Nat.zero_ne_one, Nat.one_ne_zero, and_self, and_true, true_and, Option.getD_some, Option.isSome_some, wrapL, gt_iff_lt, ge_iff_le, Int.toNat_natCast, Nat.sub_zero, ite_self, spB_TT, Nat.zero_add, Nat.add_zero]
            apply inner8 (L := L) (x := x) (y := ⟨true, vi, vb, vo⟩) (z := z) (d := dk) (s := ⟨st, false, sy, la, vi, vb, te, 1⟩) (is := true) (k := k) (m := m) (cap := cap)
            case he => exact ⟨rfl, rfl, rfl, rfl, rfl, rfl, rfl, rfl, rfl, rfl, rfl, rfl, rfl, rfl, rfl, rfl, rfl, rfl, trivial⟩
            case hh => exact ⟨rfl, rfl, by decide, rfl, rfl, by decide, rfl, rfl, by decide, rfl, hLb5, by decide, trivial⟩
            case hs0 => exact hb6
            case hLb => exact hLb5
            case hx => exact ⟨fun h => (by cases h), fun _ _ => p6 rfl⟩
            case hy => exact ⟨fun h => (by cases h), fun _ h => by simp only at h; omega⟩
            case hz => exact ⟨fun h => (by cases h), fun _ h => by simp only at h; omega⟩
            case hK =>
              intro e' h' n' q1 q2 q3 q4 q5 q6 q7 q8
              simp (config := { maxSteps := 400000 }) only [go_sem, q1, q2, q3, q4, q5, q6, q7, q8, hget_hs, Dc.l, hw, hlt, hfs, AV.bel, belL, nblt, hLb2, ↓reduceIte, beq_self_eq_true, bne_self_eq_false, Int.reduceAdd, Int.reduceSub, Int.reduceMul, Int.reduceNeg, Int.reduceEq, Int.reduceNe, Int.cast_ofNat_Int, Int.lt_irrefl, Int.le_refl, Nat.reduceEqDiff, Nat.reduceLeDiff, Nat.reduceLT, Int.reducePow, IntKind.bits, Nat.reduceAdd, Nat.reduceMul, Nat.reduceSub, Int.reduceBNe, Int.reduceBEq, Int.reduceLE, Int.reduceLT, Int.reduceToNat, reduceCtorEq, Nat.zero_ne_one, Nat.one_ne_zero, and_self, and_true, true_and, Option.getD_some, Option.isSome_some, wrapL, gt_iff_lt, ge_iff_le, Int.toNat_natCast, Nat.sub_zero, ite_self, spB_TT, Nat.zero_add, Nat.add_zero]
          · simp (config := { maxSteps := 400000 }) only [go_sem, k12, k18, k26, k28, c1, c3, hdk, hx, hsd, hw, hlt, Dc.l, Dr.l, Sh.l, dcV, shV, Dc.eta, ht1, ht2, hgn, p5, p8, ↓reduceIte, beq_self_eq_true, bne_self_eq_false, Int.reduceAdd, Int.reduceSub, Int.reduceMul, Int.reduceNeg, Int.reduceEq, Int.reduceNe, Int.cast_ofNat_Int, Int.lt_irrefl, Int.le_refl, Nat.reduceEqDiff, Nat.reduceLeDiff, Nat.reduceLT, Int.reducePow, IntKind.bits, Nat.reduceAdd, Nat.reduceMul, Nat.reduceSub, Int.reduceBNe, Int.reduceBEq, Int.reduceLE, Int.reduceLT, Int.reduceToNat, reduceCtorEq, Nat.zero_ne_one, Nat.one_ne_zero, and_self, and_true, true_and, Option.getD_some, Option.isSome_some, wrapL, gt_iff_lt, ge_iff_le, Int.toNat_natCast, Nat.sub_zero, ite_self, spB_TT, Nat.zero_add, Nat.add_zero]
            apply inner8 (L := L) (x := x) (y := ⟨true, vi, vb, vo⟩) (z := z) (d := dk) (s := ⟨st, true, sy, la, vi, vb, te, 1⟩) (is := true) (k := k) (m := m) (cap := cap)
            case he => exact ⟨rfl, rfl, rfl, rfl, rfl, rfl, rfl, rfl, rfl, rfl, rfl, rfl, rfl, rfl, rfl, rfl, rfl, rfl, trivial⟩
            case hh => exact ⟨rfl, rfl, by decide, rfl, rfl, by decide, rfl, rfl, by decide, rfl, hLb5, by decide, trivial⟩
            case hs0 => exact hb6
            case hLb => exact hLb5
            case hx => exact ⟨fun h => (by cases h), fun _ _ => p6 rfl⟩
            case hy => exact ⟨fun h => (by cases h), fun _ h => by simp only at h; omega⟩
            case hz => exact ⟨fun h => (by cases h), fun _ h => by simp only at h; omega⟩
            case hK =>
              intro e' h' n' q1 q2 q3 q4 q5 q6 q7 q8
              simp (config := { maxSteps := 400000 }) only [go_sem, q1, q2, q3, q4, q5, q6, q7, q8, hget_hs, Dc.l, hw, hlt, hfs, AV.bel, belL, nblt, hLb2, ↓reduceIte, beq_self_eq_true, bne_self_eq_false, Int.reduceAdd, Int.reduceSub, Int.reduceMul, Int.reduceNeg, Int.reduceEq, Int.reduceNe, Int.cast_ofNat_Int, Int.lt_irrefl, Int.le_refl, Nat.reduceEqDiff, Nat.reduceLeDiff, Nat.reduceLT, Int.reducePow, IntKind.bits, Nat.reduceAdd, Nat.reduceMul, Nat.reduceSub, Int.reduceBNe, Int.reduceBEq, Int.reduceLE, Int.reduceLT, Int.reduceToNat, reduceCtorEq, Nat.zero_ne_one, Nat.one_ne_zero, and_self, and_true, true_and, Option.getD_some, Option.isSome_some, wrapL, gt_iff_lt, ge_iff_le, Int.toNat_natCast, Nat.sub_zero, ite_self, spB_TT, Nat.zero_add, Nat.add_zero]
        · have g : (Dc.mk x y z).get 2 = z := rfl
          rw [g] at p1 p2 p3 p4
          obtain ⟨vl, vi, vb, vo⟩ := z
          simp only at p1 p2 p3 p4
          subst p1 p2 p3
          have p8 : decide (vo < te) = false := decide_eq_false (by omega)
          cases ky
          · simp (config := { maxSteps := 400000 }) only [go_sem, k12, k18, k26, k28, c1, c3, hdk, hx, hsd, hw, hlt, Dc.l, Dr.l, Sh.l, dcV, shV, Dc.eta, ht1, ht2, hgn, p5, p8, ↓reduceIte, beq_self_eq_true, bne_self_eq_false, Int.reduceAdd, Int.reduceSub, Int.reduceMul, Int.reduceNeg, Int.reduceEq, Int.reduceNe, Int.cast_ofNat_Int, Int.lt_irrefl, Int.le_refl, Nat.reduceEqDiff, Nat.reduceLeDiff, Nat.reduceLT, Int.reducePow, IntKind.bits, Nat.reduceAdd, Nat.reduceMul, Nat.reduceSub, Int.reduceBNe, Int.reduceBEq, Int.reduceLE, Int.reduceLT, Int.reduceToNat, reduceCtorEq, Nat.zero_ne_one, Nat.one_ne_zero, and_self, and_true, true_and, Option.getD_some, Option.isSome_some, wrapL, gt_iff_lt, ge_iff_le, Int.toNat_natCast, Nat.sub_zero, ite_self, spB_TT, Nat.zero_add, Nat.add_zero]
            apply inner8 (L := L) (x := x) (y := y) (z := ⟨true, vi, vb, vo⟩) (d := dk) (s := ⟨st, false, sy, la, vi, vb, te, 2⟩) (is := true) (k := k) (m := m) (cap := cap)
            case he => exact ⟨rfl, rfl, rfl, rfl, rfl, rfl, rfl, rfl, rfl, rfl, rfl, rfl, rfl, rfl, rfl, rfl, rfl, rfl, trivial⟩
            case hh => exact ⟨rfl, rfl, by decide, rfl, rfl, by decide, rfl, rfl, by decide, rfl, hLb5, by decide, trivial⟩
            case hs0 => exact hb6
            case hLb => exact hLb5
            case hx => exact ⟨fun h => (by cases h), fun _ _ => (p7 rfl).1⟩
            case hy => exact ⟨fun h => (by cases h), fun _ _ => (p7 rfl).2⟩
            case hz => exact ⟨fun h => (by cases h), fun _ h => by simp only at h; omega⟩
            case hK =>
              intro e' h' n' q1 q2 q3 q4 q5 q6 q7 q8
              simp (config := { maxSteps := 400000 }) only [go_sem, q1, q2, q3, q4, q5, q6, q7, q8, hget_hs, Dc.l, hw, hlt, hfs, AV.bel, belL, nblt, hLb2, ↓reduceIte, beq_self_eq_true, bne_self_eq_false, Int.reduceAdd, Int.reduceSub, Int.reduceMul, Int.reduceNeg, Int.reduceEq, Int.reduceNe, Int.cast_ofNat_Int, Int.lt_irrefl, Int.le_refl, Nat.reduceEqDiff, Nat.reduceLeDiff, Nat.reduceLT, Int.reducePow, IntKind.bits, Nat.reduceAdd, Nat.reduceMul, Nat.reduceSub, Int.reduceBNe, Int.reduceBEq, Int.reduceLE, Int.reduceLT, Int.reduceToNat, reduceCtorEq, Nat.zero_ne_one, Nat.one_ne_zero, and_self, and_true, true_and, Option.getD_some, Option.isSome_some, wrapL, gt_iff_lt, ge_iff_le, Int.toNat_natCast, Nat.sub_zero, ite_self, spB_TT, Nat.zero_add, Nat.add_zero]
          · simp (config := { maxSteps := 400000 }) only [go_sem, k12, k18, k26, k28, c1, c3, hdk, hx, hsd, hw, hlt, Dc.l, Dr.l, Sh.l, dcV, shV, Dc.eta, ht1, ht2, hgn, p5, p8, ↓reduceIte, beq_self_eq_true, bne_self_eq_false, Int.reduceAdd, Int.reduceSub, Int.reduceMul, Int.reduceNeg, Int.reduceEq, Int.reduceNe, Int.cast_ofNat_Int, Int.lt_irrefl, Int.le_refl, Nat.reduceEqDiff, Nat.reduceLeDiff, Nat.reduceLT, Int.reducePow, IntKind.bits, Nat.reduceAdd, Nat.reduceMul, Nat.reduceSub, Int.reduceBNe, Int.reduceBEq, Int.reduceLE, Int.reduceLT, Int.reduceToNat, reduceCtorEq, Nat.zero_ne_one, Nat.one_ne_zero, and_self, and_true, true_and, Option.getD_some, Option.isSome_some, wrapL, gt_iff_lt, ge_iff_le, Int.toNat_natCast, Nat.sub_zero, ite_self, spB_TT, Nat.zero_add, Nat.add_zero]
            apply inner8 (L := L) (x := x) (y := y) (z := ⟨true, vi, vb, vo⟩) (d := dk) (s := ⟨st, true, sy, la, vi, vb, te, 2⟩) (is := true) (k := k) (m := m) (cap := cap)
            case he => exact ⟨rfl, rfl, rfl, rfl, rfl, rfl, rfl, rfl, rfl, rfl, rfl, rfl, rfl, rfl, rfl, rfl, rfl, rfl, trivial⟩
            case hh => exact ⟨rfl, rfl, by decide, rfl, rfl, by decide, rfl, rfl, by decide, rfl, hLb5, by decide, trivial⟩
            case hs0 => exact hb6
            case hLb => exact hLb5
            case hx => exact ⟨fun h => (by cases h), fun _ _ => (p7 rfl).1⟩
            case hy => exact ⟨fun h => (by cases h), fun _ _ => (p7 rfl).2⟩
            case hz => exact ⟨fun h => (by cases h), fun _ h => by simp only at h; omega⟩
            case hK =>
              intro e' h' n' q1 q2 q3 q4 q5 q6 q7 q8
              simp (config := { maxSteps := 400000 }) only [go_sem, q1, q2, q3, q4, q5, q6, q7, q8, hget_hs, Dc.l, hw, hlt, hfs, AV.bel, belL, nblt, hLb2, ↓reduceIte, beq_self_eq_true, bne_self_eq_false, Int.reduceAdd, Int.reduceSub, Int.reduceMul, Int.reduceNeg, Int.reduceEq, Int.reduceNe, Int.cast_ofNat_Int, Int.lt_irrefl, Int.le_refl, Nat.reduceEqDiff, Nat.reduceLeDiff, Nat.reduceLT, Int.reducePow, IntKind.bits, Nat.reduceAdd, Nat.reduceMul, Nat.reduceSub, Int.reduceBNe, Int.reduceBEq, Int.reduceLE, Int.reduceLT, Int.reduceToNat, reduceCtorEq, Nat.zero_ne_one, Nat.one_ne_zero, and_self, and_true, true_and, Option.getD_some, Option.isSome_some, wrapL, gt_iff_lt, ge_iff_le, Int.toNat_natCast, Nat.sub_zero, ite_self, spB_TT, Nat.zero_add, Nat.add_zero]
    · have c1 : decide ((k : Int) < (m : Int)) = false := decide_eq_false (by omega)
      simp (config := { maxSteps := 400000 }) only [go_sem, c1, ↓reduceIte, beq_self_eq_true, bne_self_eq_false, Int.reduceAdd, Int.reduceSub, Int.reduceMul, Int.reduceNeg, Int.reduceEq, Int.reduceNe, Int.cast_ofNat_Int, Int.lt_irrefl, Int.le_refl, Nat.reduceEqDiff, Nat.reduceLeDiff, Nat.reduceLT, Int.reducePow, IntKind.bits, Nat.reduceAdd, Nat.reduceMul, Nat.reduceSub, Int.reduceBNe, Int.reduceBEq, Int.reduceLE, Int.reduceLT, Int.reduceToNat, reduceCtorEq, Nat.zero_ne_one, Nat.one_ne_zero, and_self, and_true, true_and, Option.getD_some, Option.isSome_some, wrapL, gt_iff_lt, ge_iff_le, Int.toNat_natCast, Nat.sub_zero, ite_self, spB_TT, Nat.zero_add, Nat.add_zero]
      exact Ends.pure rfl
end Go.Proofs.Pic
