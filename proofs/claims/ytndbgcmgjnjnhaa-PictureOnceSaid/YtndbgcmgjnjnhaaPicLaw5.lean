/- PictureShows: the law function. -/
import Derived.Test.YtndbgcmgjnjnhaaPicC9
import Derived.Test.YtndbgcmgjnjnhaaPicIRL
namespace Go.Proofs.Pic
open Go.Ab
set_option maxRecDepth 100000
set_option maxHeartbeats 8000000
set_option linter.unusedSimpArgs false
set_option linter.unusedVariables false
def T15 : List (Nat × Ct) := [(12, k12), (13, k13), (18, k18), (24, k24), (25, k25), (26, k26), (27, k27), (28, k28), (29, k28)]
theorem hT15 : Sound Try.prog (cxT T15) := Sound.cons s12 <| Sound.cons s13 <| Sound.cons s18 <| Sound.cons s24 <| Sound.cons s25 <| Sound.cons s26 <| Sound.cons s27 <| Sound.cons s28 <| Sound.cons s29 Sound.nil
theorem inner5 {K : Kont} {e : Env} {h : Hp} {n : Nat} (M L : List AV) (d : Dc) (k : Nat) (f i b t s wc ac mc : Int) (hM : ∀ j : Nat, j < 4 → ∃ x : Sh, shV ((M.drop (j * 8)).take 8) = some x) (hMl : M.length = 32) (hMb : belL 8 M = true) (hLb : belL 8 L = true)
    (he : EnvIn 8 e [(100, .i .i64 0), (99, .agg M), (12, .p 7 0), (8, .b false), (39, .i .i64 (k : Int)), (38, .agg L), (5, .p 4 0), (7, .p 6 0)])
    (hh : HpIn 8 h [(7, { cells := d.l }), (6, { cells := [AV.i IntKind.u8 wc, AV.i IntKind.u8 ac, AV.i IntKind.i64 mc] }), (4, { cells := [AV.i IntKind.u8 f, AV.i IntKind.u16 i, AV.i IntKind.u8 b, AV.i IntKind.u8 t, AV.i IntKind.u8 s] })])
    (hK : ∀ e' h' n', eget e' 8 = some (.b false) → eget e' 39 = some (.i .i64 (k : Int)) → eget e' 38 = some (.agg L) → eget e' 5 = some (.p 4 0) → eget e' 7 = some (.p 6 0) →
      hget h' 6 = some { cells := [AV.i IntKind.u8 wc, AV.i IntKind.u8 ac, AV.i IntKind.i64 mc] } → hget h' 4 = some { cells := [AV.i IntKind.u8 f, AV.i IntKind.u16 i, AV.i IntKind.u8 b, AV.i IntKind.u8 t, AV.i IntKind.u8 s] } → K (.exit 2) e' h' n') :
    Ab.Loop Try.prog [40, 56, 76, 84, 101, 129] 133 4 i5l25 K e h n := by
  refine Loop.count (F := ⟨Try.prog, cxT T15, [40, 56, 76, 84, 101, 129], 133, 4⟩) hT15 mo 4
    (fun j => [(100, .i .i64 (j : Int)), (99, .agg M), (12, .p 7 0), (8, .b false), (39, .i .i64 (k : Int)), (38, .agg L), (5, .p 4 0), (7, .p 6 0)])
    (fun j => [(7, { cells := d.l }), (6, { cells := [AV.i IntKind.u8 wc, AV.i IntKind.u8 ac, AV.i IntKind.i64 mc] }), (4, { cells := [AV.i IntKind.u8 f, AV.i IntKind.u16 i, AV.i IntKind.u8 b, AV.i IntKind.u8 t, AV.i IntKind.u8 s] })]) 8 (by decide) he hh (fun j hj => ?_)
  dsimp only [T15]
  by_cases hlt : j < 4
  · obtain ⟨x, hx⟩ := hM j hlt
    replace hx := shV_eq hx
    have c1 : decide ((j : Int) < 4) = true := decide_eq_true (by omega)
    have c2 : decide (0 ≤ (j : Int) ∧ (j : Int) < 4) = true := decide_eq_true (by omega)
    have c3 : decide (j * 8 ≤ 24) = true := decide_eq_true (by omega)
    have hw : IntKind.i64.wrap ((j : Int) + 1) = ((j + 1 : Nat) : Int) := by rw [wrapL (by omega) (by omega)]; omega
    simp only [go_sem, c1, c2, c3, hx, hMl, k28, Dc.l, Sh.l, dcV, shV, Dc.eta, Sh.eta, Int.toNat_natCast, hw, hlt, hMb, hLb, AV.bel, belL, nblt, ↓reduceIte, beq_self_eq_true, bne_self_eq_false, Int.reduceAdd, Int.reduceSub, Int.reduceMul, Int.reduceNeg, Int.reduceEq, Int.reduceNe, Int.cast_ofNat_Int, Int.lt_irrefl, Int.le_refl, Nat.reduceEqDiff, Nat.reduceLeDiff, Nat.reduceLT, Int.reducePow, IntKind.bits, Nat.reduceAdd, Nat.reduceMul, Nat.reduceSub, Int.reduceBNe, Int.reduceBEq, Int.reduceLE, Int.reduceLT, Int.reduceToNat, reduceCtorEq, Nat.zero_ne_one, Nat.one_ne_zero, and_self, and_true, true_and, Option.getD_some, Option.isSome_some, wrapL, gt_iff_lt, ge_iff_le]
  · have c1 : decide ((j : Int) < 4) = false := decide_eq_false (by omega)
    have hK2 := fun e' h' n' => hK e' h' n'
    simp only [go_sem, c1, ↓reduceIte, beq_self_eq_true, bne_self_eq_false, Int.reduceAdd, Int.reduceSub, Int.reduceMul, Int.reduceNeg, Int.reduceEq, Int.reduceNe, Int.cast_ofNat_Int, Int.lt_irrefl, Int.le_refl, Nat.reduceEqDiff, Nat.reduceLeDiff, Nat.reduceLT, Int.reducePow, IntKind.bits, Nat.reduceAdd, Nat.reduceMul, Nat.reduceSub, Int.reduceBNe, Int.reduceBEq, Int.reduceLE, Int.reduceLT, Int.reduceToNat, reduceCtorEq, Nat.zero_ne_one, Nat.one_ne_zero, and_self, and_true, true_and, Option.getD_some, Option.isSome_some, wrapL, gt_iff_lt, ge_iff_le]
    refine hK _ _ _ ?_ ?_ ?_ ?_ ?_ ?_ ?_ <;> rfl
theorem body5 (f i b t s w0 a0 m0 w1 a1 m1 wc ac mc : Int) (av : AV) (hp : Hp) (D : Dc)
    (hi : 0 ≤ i ∧ i ≤ 65535) (hb : 0 ≤ b ∧ b ≤ 255) (ht : 0 ≤ t ∧ t ≤ 255) (hs : 0 ≤ s ∧ s ≤ 255) (ha0 : 0 ≤ a0 ∧ a0 ≤ 255) (ha1 : 0 ≤ a1 ∧ a1 ≤ 255)
    (R : List Nat) (hcall : ∀ h n, hget h 0 = hget hp 0 → k24 [av] h n = some (true, { v := .agg D.l, n, rd := R })) :
    FTL Try.prog 5 [av, .agg [.i .u8 f, .i .u16 i, .i .u8 b, .i .u8 t, .i .u8 s], .agg [.i .u8 w0, .i .u8 a0, .i .i64 m0, .i .u8 w1, .i .u8 a1, .i .i64 m1], .agg [.i .u8 wc, .i .u8 ac, .i .i64 mc]] hp 4
    (.b true) [] 4 := by
  refine FTL.of_iw hT15 mo Try.func5 i5_eq (by simp [i5]) (iw_of_jw ?_)
  dsimp only [i5, T15]
  have hg := draft_good (f := f) hi hb ht hs
  generalize hs0 : draftS f i b t s = s0 at hg
  have hc := hcall ((6, { cells := [AV.i IntKind.u8 wc, AV.i IntKind.u8 ac, AV.i IntKind.i64 mc] }) ::
            (5, { cells := [AV.i IntKind.u8 w0, AV.i IntKind.u8 a0, AV.i IntKind.i64 m0, AV.i IntKind.u8 w1, AV.i IntKind.u8 a1, AV.i IntKind.i64 m1] }) ::
              (4, { cells := [AV.i IntKind.u8 f, AV.i IntKind.u16 i, AV.i IntKind.u8 b, AV.i IntKind.u8 t, AV.i IntKind.u8 s] }) :: hp) 7 rfl
  have hd0 : decide (0 ≤ a0 ∧ a0 ≤ 255) = true := decide_eq_true ha0
  have hd1 : decide (0 ≤ a1 ∧ a1 ≤ 255) = true := decide_eq_true ha1
  generalize hx : bendD w0 a0 m0 D = X
  generalize hy : bendD w1 a1 m1 X = Y
  simp only [go_sem, hc, Dc.l, k25, dcV, Dc.eta, hd0, hd1, hx, hy, ↓reduceIte, beq_self_eq_true, bne_self_eq_false, Int.reduceAdd, Int.reduceSub, Int.reduceMul, Int.reduceNeg, Int.reduceEq, Int.reduceNe, Int.cast_ofNat_Int, Int.lt_irrefl, Int.le_refl, Nat.reduceEqDiff, Nat.reduceLeDiff, Nat.reduceLT, Int.reducePow, IntKind.bits, Nat.reduceAdd, Nat.reduceMul, Nat.reduceSub, Int.reduceBNe, Int.reduceBEq, Int.reduceLE, Int.reduceLT, Int.reduceToNat, reduceCtorEq, Nat.zero_ne_one, Nat.one_ne_zero, and_self, and_true, true_and, Option.getD_some, Option.isSome_some, wrapL, gt_iff_lt, ge_iff_le]
  have hL : ∀ k : Nat, k < 3 → ∃ d : Dc, cellsAt (D.l ++ X.l ++ Y.l) (k * 12) 12 = d.l := fun k hk => by
    match k, hk with
    | 0, _ => exact ⟨D, rfl⟩
    | 1, _ => exact ⟨X, rfl⟩
    | 2, _ => exact ⟨Y, rfl⟩
  have hLb : belL 7 (D.l ++ X.l ++ Y.l) = true := rfl
  have hLb8 : belL 8 (D.l ++ X.l ++ Y.l) = true := rfl
  have hLl : (D.l ++ X.l ++ Y.l).length = 36 := rfl
  simp only [Dc.l, List.cons_append, List.nil_append, cellsAt] at hL hLb hLb8 hLl
  generalize [AV.b D.x.lv, AV.i IntKind.i64 D.x.id, AV.i IntKind.i64 D.x.ba, AV.i IntKind.i64 D.x.op, AV.b D.y.lv, AV.i IntKind.i64 D.y.id, AV.i IntKind.i64 D.y.ba, AV.i IntKind.i64 D.y.op, AV.b D.z.lv, AV.i IntKind.i64 D.z.id, AV.i IntKind.i64 D.z.ba, AV.i IntKind.i64 D.z.op, AV.b X.x.lv, AV.i IntKind.i64 X.x.id, AV.i IntKind.i64 X.x.ba, AV.i IntKind.i64 X.x.op, AV.b X.y.lv, AV.i IntKind.i64 X.y.id, AV.i IntKind.i64 X.y.ba, AV.i IntKind.i64 X.y.op, AV.b X.z.lv, AV.i IntKind.i64 X.z.id, AV.i IntKind.i64 X.z.ba, AV.i IntKind.i64 X.z.op, AV.b Y.x.lv, AV.i IntKind.i64 Y.x.id, AV.i IntKind.i64 Y.x.ba, AV.i IntKind.i64 Y.x.op, AV.b Y.y.lv, AV.i IntKind.i64 Y.y.id, AV.i IntKind.i64 Y.y.ba, AV.i IntKind.i64 Y.y.op, AV.b Y.z.lv, AV.i IntKind.i64 Y.z.id, AV.i IntKind.i64 Y.z.ba, AV.i IntKind.i64 Y.z.op] = L at hL hLb hLb8 hLl ⊢
  refine Loop.count (F := ⟨Try.prog, cxT T15, [40, 56, 76, 84, 101, 129], 133, 4⟩) hT15 mo 3
    (fun k => [(8, .b false), (39, .i .i64 (k : Int)), (38, .agg L), (5, .p 4 0), (7, .p 6 0)])
    (fun k => [(6, { cells := [AV.i IntKind.u8 wc, AV.i IntKind.u8 ac, AV.i IntKind.i64 mc] }), (4, { cells := [AV.i IntKind.u8 f, AV.i IntKind.u16 i, AV.i IntKind.u8 b, AV.i IntKind.u8 t, AV.i IntKind.u8 s] })]) 7 (by decide) ?_ ?_ (fun k hk => ?_)
  · simp only [go_sem, AV.bel, belL, hLb, nblt, ↓reduceIte, beq_self_eq_true, bne_self_eq_false, Int.reduceAdd, Int.reduceSub, Int.reduceMul, Int.reduceNeg, Int.reduceEq, Int.reduceNe, Int.cast_ofNat_Int, Int.lt_irrefl, Int.le_refl, Nat.reduceEqDiff, Nat.reduceLeDiff, Nat.reduceLT, Int.reducePow, IntKind.bits, Nat.reduceAdd, Nat.reduceMul, Nat.reduceSub, Int.reduceBNe, Int.reduceBEq, Int.reduceLE, Int.reduceLT, Int.reduceToNat, reduceCtorEq, Nat.zero_ne_one, Nat.one_ne_zero, and_self, and_true, true_and, Option.getD_some, Option.isSome_some, wrapL, gt_iff_lt, ge_iff_le]
  · simp only [go_sem, AV.bel, belL, nblt, ↓reduceIte, beq_self_eq_true, bne_self_eq_false, Int.reduceAdd, Int.reduceSub, Int.reduceMul, Int.reduceNeg, Int.reduceEq, Int.reduceNe, Int.cast_ofNat_Int, Int.lt_irrefl, Int.le_refl, Nat.reduceEqDiff, Nat.reduceLeDiff, Nat.reduceLT, Int.reducePow, IntKind.bits, Nat.reduceAdd, Nat.reduceMul, Nat.reduceSub, Int.reduceBNe, Int.reduceBEq, Int.reduceLE, Int.reduceLT, Int.reduceToNat, reduceCtorEq, Nat.zero_ne_one, Nat.one_ne_zero, and_self, and_true, true_and, Option.getD_some, Option.isSome_some, wrapL, gt_iff_lt, ge_iff_le]
  · dsimp only [T15]
    by_cases hlt : k < 3
    · obtain ⟨d, hd⟩ := hL k hlt
      have c1 : decide ((k : Int) < 3) = true := decide_eq_true (by omega)
      have c2 : decide (0 ≤ (k : Int) ∧ (k : Int) < 3) = true := decide_eq_true (by omega)
      have c3 : decide (k * 12 ≤ 24) = true := decide_eq_true (by omega)
      have hw : IntKind.i64.wrap ((k : Int) + 1) = ((k + 1 : Nat) : Int) := by rw [wrapL (by omega) (by omega)]; omega
      have hg' := (Sh.good_iff s0).1 hg
      have hsp : s0.sp = 0 ∨ s0.sp = 1 ∨ s0.sp = 2 := by omega
      have hK : ∀ (x : Bool), (x == true) = x := fun x => by cases x <;> rfl
      have h402 : ((402 : Int) == 0) = false := rfl
      rcases hsp with h | h | h
      · by_cases hte : s0.te = 0
        · cases hgd : d.good
          · simp only [go_sem, c1, c2, c3, hd, hLl, Int.toNat_natCast, k12, k13, k26, k27, hs0, dcV, Sh.l, Dc.eta, Sh.eta, h, hte, hgd, h402, Bool.false_eq_true, ↓reduceIte, beq_self_eq_true, bne_self_eq_false, Int.reduceAdd, Int.reduceSub, Int.reduceMul, Int.reduceNeg, Int.reduceEq, Int.reduceNe, Int.cast_ofNat_Int, Int.lt_irrefl, Int.le_refl, Nat.reduceEqDiff, Nat.reduceLeDiff, Nat.reduceLT, Int.reducePow, IntKind.bits, Nat.reduceAdd, Nat.reduceMul, Nat.reduceSub, Int.reduceBNe, Int.reduceBEq, Int.reduceLE, Int.reduceLT, Int.reduceToNat, reduceCtorEq, Nat.zero_ne_one, Nat.one_ne_zero, and_self, and_true, true_and, Option.getD_some, Option.isSome_some, wrapL, gt_iff_lt, ge_iff_le]
            apply inner5 (L := L) (d := d) (k := k) (f := f) (i := i) (b := b) (t := t) (s := s) (wc := wc) (ac := ac) (mc := mc)
            case he => exact ⟨rfl, rfl, rfl, rfl, rfl, rfl, rfl, rfl, rfl, rfl, rfl, hLb8, rfl, rfl, rfl, rfl, trivial⟩
            case hh => exact ⟨rfl, rfl, by decide, rfl, rfl, by decide, rfl, rfl, by decide, trivial⟩
            case hMl => rfl
            case hMb => rfl
            case hLb => exact hLb8
            case hM =>
              intro j hj
              match j, hj with
              | 0, _ => exact ⟨_, rfl⟩
              | 1, _ => exact ⟨_, rfl⟩
              | 2, _ => exact ⟨_, rfl⟩
              | 3, _ => exact ⟨_, rfl⟩
            case hK =>
              intro e' h' n' q1 q2 q3 q4 q5 q6 q7
              simp only [go_sem, q1, q2, q3, q4, q5, q6, q7, hw, hlt, AV.bel, belL, nblt, hLb, ↓reduceIte, beq_self_eq_true, bne_self_eq_false, Int.reduceAdd, Int.reduceSub, Int.reduceMul, Int.reduceNeg, Int.reduceEq, Int.reduceNe, Int.cast_ofNat_Int, Int.lt_irrefl, Int.le_refl, Nat.reduceEqDiff, Nat.reduceLeDiff, Nat.reduceLT, Int.reducePow, IntKind.bits, Nat.reduceAdd, Nat.reduceMul, Nat.reduceSub, Int.reduceBNe, Int.reduceBEq, Int.reduceLE, Int.reduceLT, Int.reduceToNat, reduceCtorEq, Nat.zero_ne_one, Nat.one_ne_zero, and_self, and_true, true_and, Option.getD_some, Option.isSome_some, wrapL, gt_iff_lt, ge_iff_le]
          · simp only [go_sem, c1, c2, c3, hd, hLl, Int.toNat_natCast, k12, k13, k26, k27, hs0, dcV, Sh.l, Dc.eta, Sh.eta, h, hte, hgd, h402, Bool.false_eq_true, ↓reduceIte, beq_self_eq_true, bne_self_eq_false, Int.reduceAdd, Int.reduceSub, Int.reduceMul, Int.reduceNeg, Int.reduceEq, Int.reduceNe, Int.cast_ofNat_Int, Int.lt_irrefl, Int.le_refl, Nat.reduceEqDiff, Nat.reduceLeDiff, Nat.reduceLT, Int.reducePow, IntKind.bits, Nat.reduceAdd, Nat.reduceMul, Nat.reduceSub, Int.reduceBNe, Int.reduceBEq, Int.reduceLE, Int.reduceLT, Int.reduceToNat, reduceCtorEq, Nat.zero_ne_one, Nat.one_ne_zero, and_self, and_true, true_and, Option.getD_some, Option.isSome_some, wrapL, gt_iff_lt, ge_iff_le]
            apply inner5 (L := L) (d := d) (k := k) (f := f) (i := i) (b := b) (t := t) (s := s) (wc := wc) (ac := ac) (mc := mc)
            case he => exact ⟨rfl, rfl, rfl, rfl, rfl, rfl, rfl, rfl, rfl, rfl, rfl, hLb8, rfl, rfl, rfl, rfl, trivial⟩
            case hh => exact ⟨rfl, rfl, by decide, rfl, rfl, by decide, rfl, rfl, by decide, trivial⟩
            case hMl => rfl
            case hMb => rfl
            case hLb => exact hLb8
            case hM =>
              intro j hj
              match j, hj with
              | 0, _ => exact ⟨_, rfl⟩
              | 1, _ => exact ⟨_, rfl⟩
              | 2, _ => exact ⟨_, rfl⟩
              | 3, _ => exact ⟨_, rfl⟩
            case hK =>
              intro e' h' n' q1 q2 q3 q4 q5 q6 q7
              simp only [go_sem, q1, q2, q3, q4, q5, q6, q7, hw, hlt, AV.bel, belL, nblt, hLb, ↓reduceIte, beq_self_eq_true, bne_self_eq_false, Int.reduceAdd, Int.reduceSub, Int.reduceMul, Int.reduceNeg, Int.reduceEq, Int.reduceNe, Int.cast_ofNat_Int, Int.lt_irrefl, Int.le_refl, Nat.reduceEqDiff, Nat.reduceLeDiff, Nat.reduceLT, Int.reducePow, IntKind.bits, Nat.reduceAdd, Nat.reduceMul, Nat.reduceSub, Int.reduceBNe, Int.reduceBEq, Int.reduceLE, Int.reduceLT, Int.reduceToNat, reduceCtorEq, Nat.zero_ne_one, Nat.one_ne_zero, and_self, and_true, true_and, Option.getD_some, Option.isSome_some, wrapL, gt_iff_lt, ge_iff_le]
        · have hte' : (s0.te == 0) = false := by simpa using hte
          cases hgd : d.good
          · simp only [go_sem, c1, c2, c3, hd, hLl, Int.toNat_natCast, k12, k13, k26, k27, hs0, dcV, Sh.l, Dc.eta, Sh.eta, h, hte', hgd, h402, Bool.false_eq_true, ↓reduceIte, beq_self_eq_true, bne_self_eq_false, Int.reduceAdd, Int.reduceSub, Int.reduceMul, Int.reduceNeg, Int.reduceEq, Int.reduceNe, Int.cast_ofNat_Int, Int.lt_irrefl, Int.le_refl, Nat.reduceEqDiff, Nat.reduceLeDiff, Nat.reduceLT, Int.reducePow, IntKind.bits, Nat.reduceAdd, Nat.reduceMul, Nat.reduceSub, Int.reduceBNe, Int.reduceBEq, Int.reduceLE, Int.reduceLT, Int.reduceToNat, reduceCtorEq, Nat.zero_ne_one, Nat.one_ne_zero, and_self, and_true, true_and, Option.getD_some, Option.isSome_some, wrapL, gt_iff_lt, ge_iff_le]
            apply inner5 (L := L) (d := d) (k := k) (f := f) (i := i) (b := b) (t := t) (s := s) (wc := wc) (ac := ac) (mc := mc)
            case he => exact ⟨rfl, rfl, rfl, rfl, rfl, rfl, rfl, rfl, rfl, rfl, rfl, hLb8, rfl, rfl, rfl, rfl, trivial⟩
            case hh => exact ⟨rfl, rfl, by decide, rfl, rfl, by decide, rfl, rfl, by decide, trivial⟩
            case hMl => rfl
            case hMb => rfl
            case hLb => exact hLb8
            case hM =>
              intro j hj
              match j, hj with
              | 0, _ => exact ⟨_, rfl⟩
              | 1, _ => exact ⟨_, rfl⟩
              | 2, _ => exact ⟨_, rfl⟩
              | 3, _ => exact ⟨_, rfl⟩
            case hK =>
              intro e' h' n' q1 q2 q3 q4 q5 q6 q7
              simp only [go_sem, q1, q2, q3, q4, q5, q6, q7, hw, hlt, AV.bel, belL, nblt, hLb, ↓reduceIte, beq_self_eq_true, bne_self_eq_false, Int.reduceAdd, Int.reduceSub, Int.reduceMul, Int.reduceNeg, Int.reduceEq, Int.reduceNe, Int.cast_ofNat_Int, Int.lt_irrefl, Int.le_refl, Nat.reduceEqDiff, Nat.reduceLeDiff, Nat.reduceLT, Int.reducePow, IntKind.bits, Nat.reduceAdd, Nat.reduceMul, Nat.reduceSub, Int.reduceBNe, Int.reduceBEq, Int.reduceLE, Int.reduceLT, Int.reduceToNat, reduceCtorEq, Nat.zero_ne_one, Nat.one_ne_zero, and_self, and_true, true_and, Option.getD_some, Option.isSome_some, wrapL, gt_iff_lt, ge_iff_le]
          · simp only [go_sem, c1, c2, c3, hd, hLl, Int.toNat_natCast, k12, k13, k26, k27, hs0, dcV, Sh.l, Dc.eta, Sh.eta, h, hte', hgd, h402, Bool.false_eq_true, ↓reduceIte, beq_self_eq_true, bne_self_eq_false, Int.reduceAdd, Int.reduceSub, Int.reduceMul, Int.reduceNeg, Int.reduceEq, Int.reduceNe, Int.cast_ofNat_Int, Int.lt_irrefl, Int.le_refl, Nat.reduceEqDiff, Nat.reduceLeDiff, Nat.reduceLT, Int.reducePow, IntKind.bits, Nat.reduceAdd, Nat.reduceMul, Nat.reduceSub, Int.reduceBNe, Int.reduceBEq, Int.reduceLE, Int.reduceLT, Int.reduceToNat, reduceCtorEq, Nat.zero_ne_one, Nat.one_ne_zero, and_self, and_true, true_and, Option.getD_some, Option.isSome_some, wrapL, gt_iff_lt, ge_iff_le]
            apply inner5 (L := L) (d := d) (k := k) (f := f) (i := i) (b := b) (t := t) (s := s) (wc := wc) (ac := ac) (mc := mc)
            case he => exact ⟨rfl, rfl, rfl, rfl, rfl, rfl, rfl, rfl, rfl, rfl, rfl, hLb8, rfl, rfl, rfl, rfl, trivial⟩
            case hh => exact ⟨rfl, rfl, by decide, rfl, rfl, by decide, rfl, rfl, by decide, trivial⟩
            case hMl => rfl
            case hMb => rfl
            case hLb => exact hLb8
            case hM =>
              intro j hj
              match j, hj with
              | 0, _ => exact ⟨_, rfl⟩
              | 1, _ => exact ⟨_, rfl⟩
              | 2, _ => exact ⟨_, rfl⟩
              | 3, _ => exact ⟨_, rfl⟩
            case hK =>
              intro e' h' n' q1 q2 q3 q4 q5 q6 q7
              simp only [go_sem, q1, q2, q3, q4, q5, q6, q7, hw, hlt, AV.bel, belL, nblt, hLb, ↓reduceIte, beq_self_eq_true, bne_self_eq_false, Int.reduceAdd, Int.reduceSub, Int.reduceMul, Int.reduceNeg, Int.reduceEq, Int.reduceNe, Int.cast_ofNat_Int, Int.lt_irrefl, Int.le_refl, Nat.reduceEqDiff, Nat.reduceLeDiff, Nat.reduceLT, Int.reducePow, IntKind.bits, Nat.reduceAdd, Nat.reduceMul, Nat.reduceSub, Int.reduceBNe, Int.reduceBEq, Int.reduceLE, Int.reduceLT, Int.reduceToNat, reduceCtorEq, Nat.zero_ne_one, Nat.one_ne_zero, and_self, and_true, true_and, Option.getD_some, Option.isSome_some, wrapL, gt_iff_lt, ge_iff_le]
      · by_cases hte : s0.te = 0
        · cases hgd : d.good
          · simp only [go_sem, c1, c2, c3, hd, hLl, Int.toNat_natCast, k12, k13, k26, k27, hs0, dcV, Sh.l, Dc.eta, Sh.eta, h, hte, hgd, h402, Bool.false_eq_true, ↓reduceIte, beq_self_eq_true, bne_self_eq_false, Int.reduceAdd, Int.reduceSub, Int.reduceMul, Int.reduceNeg, Int.reduceEq, Int.reduceNe, Int.cast_ofNat_Int, Int.lt_irrefl, Int.le_refl, Nat.reduceEqDiff, Nat.reduceLeDiff, Nat.reduceLT, Int.reducePow, IntKind.bits, Nat.reduceAdd, Nat.reduceMul, Nat.reduceSub, Int.reduceBNe, Int.reduceBEq, Int.reduceLE, Int.reduceLT, Int.reduceToNat, reduceCtorEq, Nat.zero_ne_one, Nat.one_ne_zero, and_self, and_true, true_and, Option.getD_some, Option.isSome_some, wrapL, gt_iff_lt, ge_iff_le]
            apply inner5 (L := L) (d := d) (k := k) (f := f) (i := i) (b := b) (t := t) (s := s) (wc := wc) (ac := ac) (mc := mc)
            case he => exact ⟨rfl, rfl, rfl, rfl, rfl, rfl, rfl, rfl, rfl, rfl, rfl, hLb8, rfl, rfl, rfl, rfl, trivial⟩
            case hh => exact ⟨rfl, rfl, by decide, rfl, rfl, by decide, rfl, rfl, by decide, trivial⟩
            case hMl => rfl
            case hMb => rfl
            case hLb => exact hLb8
            case hM =>
              intro j hj
              match j, hj with
              | 0, _ => exact ⟨_, rfl⟩
              | 1, _ => exact ⟨_, rfl⟩
              | 2, _ => exact ⟨_, rfl⟩
              | 3, _ => exact ⟨_, rfl⟩
            case hK =>
              intro e' h' n' q1 q2 q3 q4 q5 q6 q7
              simp only [go_sem, q1, q2, q3, q4, q5, q6, q7, hw, hlt, AV.bel, belL, nblt, hLb, ↓reduceIte, beq_self_eq_true, bne_self_eq_false, Int.reduceAdd, Int.reduceSub, Int.reduceMul, Int.reduceNeg, Int.reduceEq, Int.reduceNe, Int.cast_ofNat_Int, Int.lt_irrefl, Int.le_refl, Nat.reduceEqDiff, Nat.reduceLeDiff, Nat.reduceLT, Int.reducePow, IntKind.bits, Nat.reduceAdd, Nat.reduceMul, Nat.reduceSub, Int.reduceBNe, Int.reduceBEq, Int.reduceLE, Int.reduceLT, Int.reduceToNat, reduceCtorEq, Nat.zero_ne_one, Nat.one_ne_zero, and_self, and_true, true_and, Option.getD_some, Option.isSome_some, wrapL, gt_iff_lt, ge_iff_le]
          · simp only [go_sem, c1, c2, c3, hd, hLl, Int.toNat_natCast, k12, k13, k26, k27, hs0, dcV, Sh.l, Dc.eta, Sh.eta, h, hte, hgd, h402, Bool.false_eq_true, ↓reduceIte, beq_self_eq_true, bne_self_eq_false, Int.reduceAdd, Int.reduceSub, Int.reduceMul, Int.reduceNeg, Int.reduceEq, Int.reduceNe, Int.cast_ofNat_Int, Int.lt_irrefl, Int.le_refl, Nat.reduceEqDiff, Nat.reduceLeDiff, Nat.reduceLT, Int.reducePow, IntKind.bits, Nat.reduceAdd, Nat.reduceMul, Nat.reduceSub, Int.reduceBNe, Int.reduceBEq, Int.reduceLE, Int.reduceLT, Int.reduceToNat, reduceCtorEq, Nat.zero_ne_one, Nat.one_ne_zero, and_self, and_true, true_and, Option.getD_some, Option.isSome_some, wrapL, gt_iff_lt, ge_iff_le]
            apply inner5 (L := L) (d := d) (k := k) (f := f) (i := i) (b := b) (t := t) (s := s) (wc := wc) (ac := ac) (mc := mc)
            case he => exact ⟨rfl, rfl, rfl, rfl, rfl, rfl, rfl, rfl, rfl, rfl, rfl, hLb8, rfl, rfl, rfl, rfl, trivial⟩
            case hh => exact ⟨rfl, rfl, by decide, rfl, rfl, by decide, rfl, rfl, by decide, trivial⟩
            case hMl => rfl
            case hMb => rfl
            case hLb => exact hLb8
            case hM =>
              intro j hj
              match j, hj with
              | 0, _ => exact ⟨_, rfl⟩
              | 1, _ => exact ⟨_, rfl⟩
              | 2, _ => exact ⟨_, rfl⟩
              | 3, _ => exact ⟨_, rfl⟩
            case hK =>
              intro e' h' n' q1 q2 q3 q4 q5 q6 q7
              simp only [go_sem, q1, q2, q3, q4, q5, q6, q7, hw, hlt, AV.bel, belL, nblt, hLb, ↓reduceIte, beq_self_eq_true, bne_self_eq_false, Int.reduceAdd, Int.reduceSub, Int.reduceMul, Int.reduceNeg, Int.reduceEq, Int.reduceNe, Int.cast_ofNat_Int, Int.lt_irrefl, Int.le_refl, Nat.reduceEqDiff, Nat.reduceLeDiff, Nat.reduceLT, Int.reducePow, IntKind.bits, Nat.reduceAdd, Nat.reduceMul, Nat.reduceSub, Int.reduceBNe, Int.reduceBEq, Int.reduceLE, Int.reduceLT, Int.reduceToNat, reduceCtorEq, Nat.zero_ne_one, Nat.one_ne_zero, and_self, and_true, true_and, Option.getD_some, Option.isSome_some, wrapL, gt_iff_lt, ge_iff_le]
        · have hte' : (s0.te == 0) = false := by simpa using hte
          cases hgd : d.good
          · simp only [go_sem, c1, c2, c3, hd, hLl, Int.toNat_natCast, k12, k13, k26, k27, hs0, dcV, Sh.l, Dc.eta, Sh.eta, h, hte', hgd, h402, Bool.false_eq_true, ↓reduceIte, beq_self_eq_true, bne_self_eq_false, Int.reduceAdd, Int.reduceSub, Int.reduceMul, Int.reduceNeg, Int.reduceEq, Int.reduceNe, Int.cast_ofNat_Int, Int.lt_irrefl, Int.le_refl, Nat.reduceEqDiff, Nat.reduceLeDiff, Nat.reduceLT, Int.reducePow, IntKind.bits, Nat.reduceAdd, Nat.reduceMul, Nat.reduceSub, Int.reduceBNe, Int.reduceBEq, Int.reduceLE, Int.reduceLT, Int.reduceToNat, reduceCtorEq, Nat.zero_ne_one, Nat.one_ne_zero, and_self, and_true, true_and, Option.getD_some, Option.isSome_some, wrapL, gt_iff_lt, ge_iff_le]
            apply inner5 (L := L) (d := d) (k := k) (f := f) (i := i) (b := b) (t := t) (s := s) (wc := wc) (ac := ac) (mc := mc)
            case he => exact ⟨rfl, rfl, rfl, rfl, rfl, rfl, rfl, rfl, rfl, rfl, rfl, hLb8, rfl, rfl, rfl, rfl, trivial⟩
            case hh => exact ⟨rfl, rfl, by decide, rfl, rfl, by decide, rfl, rfl, by decide, trivial⟩
            case hMl => rfl
            case hMb => rfl
            case hLb => exact hLb8
            case hM =>
              intro j hj
              match j, hj with
              | 0, _ => exact ⟨_, rfl⟩
              | 1, _ => exact ⟨_, rfl⟩
              | 2, _ => exact ⟨_, rfl⟩
              | 3, _ => exact ⟨_, rfl⟩
            case hK =>
              intro e' h' n' q1 q2 q3 q4 q5 q6 q7
              simp only [go_sem, q1, q2, q3, q4, q5, q6, q7, hw, hlt, AV.bel, belL, nblt, hLb, ↓reduceIte, beq_self_eq_true, bne_self_eq_false, Int.reduceAdd, Int.reduceSub, Int.reduceMul, Int.reduceNeg, Int.reduceEq, Int.reduceNe, Int.cast_ofNat_Int, Int.lt_irrefl, Int.le_refl, Nat.reduceEqDiff, Nat.reduceLeDiff, Nat.reduceLT, Int.reducePow, IntKind.bits, Nat.reduceAdd, Nat.reduceMul, Nat.reduceSub, Int.reduceBNe, Int.reduceBEq, Int.reduceLE, Int.reduceLT, Int.reduceToNat, reduceCtorEq, Nat.zero_ne_one, Nat.one_ne_zero, and_self, and_true, true_and, Option.getD_some, Option.isSome_some, wrapL, gt_iff_lt, ge_iff_le]
          · simp only [go_sem, c1, c2, c3, hd, hLl, Int.toNat_natCast, k12, k13, k26, k27, hs0, dcV, Sh.l, Dc.eta, Sh.eta, h, hte', hgd, h402, Bool.false_eq_true, ↓reduceIte, beq_self_eq_true, bne_self_eq_false, Int.reduceAdd, Int.reduceSub, Int.reduceMul, Int.reduceNeg, Int.reduceEq, Int.reduceNe, Int.cast_ofNat_Int, Int.lt_irrefl, Int.le_refl, Nat.reduceEqDiff, Nat.reduceLeDiff, Nat.reduceLT, Int.reducePow, IntKind.bits, Nat.reduceAdd, Nat.reduceMul, Nat.reduceSub, Int.reduceBNe, Int.reduceBEq, Int.reduceLE, Int.reduceLT, Int.reduceToNat, reduceCtorEq, Nat.zero_ne_one, Nat.one_ne_zero, and_self, and_true, true_and, Option.getD_some, Option.isSome_some, wrapL, gt_iff_lt, ge_iff_le]
            apply inner5 (L := L) (d := d) (k := k) (f := f) (i := i) (b := b) (t := t) (s := s) (wc := wc) (ac := ac) (mc := mc)
            case he => exact ⟨rfl, rfl, rfl, rfl, rfl, rfl, rfl, rfl, rfl, rfl, rfl, hLb8, rfl, rfl, rfl, rfl, trivial⟩
            case hh => exact ⟨rfl, rfl, by decide, rfl, rfl, by decide, rfl, rfl, by decide, trivial⟩
            case hMl => rfl
            case hMb => rfl
            case hLb => exact hLb8
            case hM =>
              intro j hj
              match j, hj with
              | 0, _ => exact ⟨_, rfl⟩
              | 1, _ => exact ⟨_, rfl⟩
              | 2, _ => exact ⟨_, rfl⟩
              | 3, _ => exact ⟨_, rfl⟩
            case hK =>
              intro e' h' n' q1 q2 q3 q4 q5 q6 q7
              simp only [go_sem, q1, q2, q3, q4, q5, q6, q7, hw, hlt, AV.bel, belL, nblt, hLb, ↓reduceIte, beq_self_eq_true, bne_self_eq_false, Int.reduceAdd, Int.reduceSub, Int.reduceMul, Int.reduceNeg, Int.reduceEq, Int.reduceNe, Int.cast_ofNat_Int, Int.lt_irrefl, Int.le_refl, Nat.reduceEqDiff, Nat.reduceLeDiff, Nat.reduceLT, Int.reducePow, IntKind.bits, Nat.reduceAdd, Nat.reduceMul, Nat.reduceSub, Int.reduceBNe, Int.reduceBEq, Int.reduceLE, Int.reduceLT, Int.reduceToNat, reduceCtorEq, Nat.zero_ne_one, Nat.one_ne_zero, and_self, and_true, true_and, Option.getD_some, Option.isSome_some, wrapL, gt_iff_lt, ge_iff_le]
      · by_cases hte : s0.te = 0
        · cases hgd : d.good
          · simp only [go_sem, c1, c2, c3, hd, hLl, Int.toNat_natCast, k12, k13, k26, k27, hs0, dcV, Sh.l, Dc.eta, Sh.eta, h, hte, hgd, h402, Bool.false_eq_true, ↓reduceIte, beq_self_eq_true, bne_self_eq_false, Int.reduceAdd, Int.reduceSub, Int.reduceMul, Int.reduceNeg, Int.reduceEq, Int.reduceNe, Int.cast_ofNat_Int, Int.lt_irrefl, Int.le_refl, Nat.reduceEqDiff, Nat.reduceLeDiff, Nat.reduceLT, Int.reducePow, IntKind.bits, Nat.reduceAdd, Nat.reduceMul, Nat.reduceSub, Int.reduceBNe, Int.reduceBEq, Int.reduceLE, Int.reduceLT, Int.reduceToNat, reduceCtorEq, Nat.zero_ne_one, Nat.one_ne_zero, and_self, and_true, true_and, Option.getD_some, Option.isSome_some, wrapL, gt_iff_lt, ge_iff_le]
            apply inner5 (L := L) (d := d) (k := k) (f := f) (i := i) (b := b) (t := t) (s := s) (wc := wc) (ac := ac) (mc := mc)
            case he => exact ⟨rfl, rfl, rfl, rfl, rfl, rfl, rfl, rfl, rfl, rfl, rfl, hLb8, rfl, rfl, rfl, rfl, trivial⟩
            case hh => exact ⟨rfl, rfl, by decide, rfl, rfl, by decide, rfl, rfl, by decide, trivial⟩
            case hMl => rfl
            case hMb => rfl
            case hLb => exact hLb8
            case hM =>
              intro j hj
              match j, hj with
              | 0, _ => exact ⟨_, rfl⟩
              | 1, _ => exact ⟨_, rfl⟩
              | 2, _ => exact ⟨_, rfl⟩
              | 3, _ => exact ⟨_, rfl⟩
            case hK =>
              intro e' h' n' q1 q2 q3 q4 q5 q6 q7
              simp only [go_sem, q1, q2, q3, q4, q5, q6, q7, hw, hlt, AV.bel, belL, nblt, hLb, ↓reduceIte, beq_self_eq_true, bne_self_eq_false, Int.reduceAdd, Int.reduceSub, Int.reduceMul, Int.reduceNeg, Int.reduceEq, Int.reduceNe, Int.cast_ofNat_Int, Int.lt_irrefl, Int.le_refl, Nat.reduceEqDiff, Nat.reduceLeDiff, Nat.reduceLT, Int.reducePow, IntKind.bits, Nat.reduceAdd, Nat.reduceMul, Nat.reduceSub, Int.reduceBNe, Int.reduceBEq, Int.reduceLE, Int.reduceLT, Int.reduceToNat, reduceCtorEq, Nat.zero_ne_one, Nat.one_ne_zero, and_self, and_true, true_and, Option.getD_some, Option.isSome_some, wrapL, gt_iff_lt, ge_iff_le]
          · simp only [go_sem, c1, c2, c3, hd, hLl, Int.toNat_natCast, k12, k13, k26, k27, hs0, dcV, Sh.l, Dc.eta, Sh.eta, h, hte, hgd, h402, Bool.false_eq_true, ↓reduceIte, beq_self_eq_true, bne_self_eq_false, Int.reduceAdd, Int.reduceSub, Int.reduceMul, Int.reduceNeg, Int.reduceEq, Int.reduceNe, Int.cast_ofNat_Int, Int.lt_irrefl, Int.le_refl, Nat.reduceEqDiff, Nat.reduceLeDiff, Nat.reduceLT, Int.reducePow, IntKind.bits, Nat.reduceAdd, Nat.reduceMul, Nat.reduceSub, Int.reduceBNe, Int.reduceBEq, Int.reduceLE, Int.reduceLT, Int.reduceToNat, reduceCtorEq, Nat.zero_ne_one, Nat.one_ne_zero, and_self, and_true, true_and, Option.getD_some, Option.isSome_some, wrapL, gt_iff_lt, ge_iff_le]
            apply inner5 (L := L) (d := d) (k := k) (f := f) (i := i) (b := b) (t := t) (s := s) (wc := wc) (ac := ac) (mc := mc)
            case he => exact ⟨rfl, rfl, rfl, rfl, rfl, rfl, rfl, rfl, rfl, rfl, rfl, hLb8, rfl, rfl, rfl, rfl, trivial⟩
            case hh => exact ⟨rfl, rfl, by decide, rfl, rfl, by decide, rfl, rfl, by decide, trivial⟩
            case hMl => rfl
            case hMb => rfl
            case hLb => exact hLb8
            case hM =>
              intro j hj
              match j, hj with
              | 0, _ => exact ⟨_, rfl⟩
              | 1, _ => exact ⟨_, rfl⟩
              | 2, _ => exact ⟨_, rfl⟩
              | 3, _ => exact ⟨_, rfl⟩
            case hK =>
              intro e' h' n' q1 q2 q3 q4 q5 q6 q7
              simp only [go_sem, q1, q2, q3, q4, q5, q6, q7, hw, hlt, AV.bel, belL, nblt, hLb, ↓reduceIte, beq_self_eq_true, bne_self_eq_false, Int.reduceAdd, Int.reduceSub, Int.reduceMul, Int.reduceNeg, Int.reduceEq, Int.reduceNe, Int.cast_ofNat_Int, Int.lt_irrefl, Int.le_refl, Nat.reduceEqDiff, Nat.reduceLeDiff, Nat.reduceLT, Int.reducePow, IntKind.bits, Nat.reduceAdd, Nat.reduceMul, Nat.reduceSub, Int.reduceBNe, Int.reduceBEq, Int.reduceLE, Int.reduceLT, Int.reduceToNat, reduceCtorEq, Nat.zero_ne_one, Nat.one_ne_zero, and_self, and_true, true_and, Option.getD_some, Option.isSome_some, wrapL, gt_iff_lt, ge_iff_le]
        · have hte' : (s0.te == 0) = false := by simpa using hte
          cases hgd : d.good
          · simp only [go_sem, c1, c2, c3, hd, hLl, Int.toNat_natCast, k12, k13, k26, k27, hs0, dcV, Sh.l, Dc.eta, Sh.eta, h, hte', hgd, h402, Bool.false_eq_true, ↓reduceIte, beq_self_eq_true, bne_self_eq_false, Int.reduceAdd, Int.reduceSub, Int.reduceMul, Int.reduceNeg, Int.reduceEq, Int.reduceNe, Int.cast_ofNat_Int, Int.lt_irrefl, Int.le_refl, Nat.reduceEqDiff, Nat.reduceLeDiff, Nat.reduceLT, Int.reducePow, IntKind.bits, Nat.reduceAdd, Nat.reduceMul, Nat.reduceSub, Int.reduceBNe, Int.reduceBEq, Int.reduceLE, Int.reduceLT, Int.reduceToNat, reduceCtorEq, Nat.zero_ne_one, Nat.one_ne_zero, and_self, and_true, true_and, Option.getD_some, Option.isSome_some, wrapL, gt_iff_lt, ge_iff_le]
            apply inner5 (L := L) (d := d) (k := k) (f := f) (i := i) (b := b) (t := t) (s := s) (wc := wc) (ac := ac) (mc := mc)
            case he => exact ⟨rfl, rfl, rfl, rfl, rfl, rfl, rfl, rfl, rfl, rfl, rfl, hLb8, rfl, rfl, rfl, rfl, trivial⟩
            case hh => exact ⟨rfl, rfl, by decide, rfl, rfl, by decide, rfl, rfl, by decide, trivial⟩
            case hMl => rfl
            case hMb => rfl
            case hLb => exact hLb8
            case hM =>
              intro j hj
              match j, hj with
              | 0, _ => exact ⟨_, rfl⟩
              | 1, _ => exact ⟨_, rfl⟩
              | 2, _ => exact ⟨_, rfl⟩
              | 3, _ => exact ⟨_, rfl⟩
            case hK =>
              intro e' h' n' q1 q2 q3 q4 q5 q6 q7
              simp only [go_sem, q1, q2, q3, q4, q5, q6, q7, hw, hlt, AV.bel, belL, nblt, hLb, ↓reduceIte, beq_self_eq_true, bne_self_eq_false, Int.reduceAdd, Int.reduceSub, Int.reduceMul, Int.reduceNeg, Int.reduceEq, Int.reduceNe, Int.cast_ofNat_Int, Int.lt_irrefl, Int.le_refl, Nat.reduceEqDiff, Nat.reduceLeDiff, Nat.reduceLT, Int.reducePow, IntKind.bits, Nat.reduceAdd, Nat.reduceMul, Nat.reduceSub, Int.reduceBNe, Int.reduceBEq, Int.reduceLE, Int.reduceLT, Int.reduceToNat, reduceCtorEq, Nat.zero_ne_one, Nat.one_ne_zero, and_self, and_true, true_and, Option.getD_some, Option.isSome_some, wrapL, gt_iff_lt, ge_iff_le]
          · simp only [go_sem, c1, c2, c3, hd, hLl, Int.toNat_natCast, k12, k13, k26, k27, hs0, dcV, Sh.l, Dc.eta, Sh.eta, h, hte', hgd, h402, Bool.false_eq_true, ↓reduceIte, beq_self_eq_true, bne_self_eq_false, Int.reduceAdd, Int.reduceSub, Int.reduceMul, Int.reduceNeg, Int.reduceEq, Int.reduceNe, Int.cast_ofNat_Int, Int.lt_irrefl, Int.le_refl, Nat.reduceEqDiff, Nat.reduceLeDiff, Nat.reduceLT, Int.reducePow, IntKind.bits, Nat.reduceAdd, Nat.reduceMul, Nat.reduceSub, Int.reduceBNe, Int.reduceBEq, Int.reduceLE, Int.reduceLT, Int.reduceToNat, reduceCtorEq, Nat.zero_ne_one, Nat.one_ne_zero, and_self, and_true, true_and, Option.getD_some, Option.isSome_some, wrapL, gt_iff_lt, ge_iff_le]
            apply inner5 (L := L) (d := d) (k := k) (f := f) (i := i) (b := b) (t := t) (s := s) (wc := wc) (ac := ac) (mc := mc)
            case he => exact ⟨rfl, rfl, rfl, rfl, rfl, rfl, rfl, rfl, rfl, rfl, rfl, hLb8, rfl, rfl, rfl, rfl, trivial⟩
            case hh => exact ⟨rfl, rfl, by decide, rfl, rfl, by decide, rfl, rfl, by decide, trivial⟩
            case hMl => rfl
            case hMb => rfl
            case hLb => exact hLb8
            case hM =>
              intro j hj
              match j, hj with
              | 0, _ => exact ⟨_, rfl⟩
              | 1, _ => exact ⟨_, rfl⟩
              | 2, _ => exact ⟨_, rfl⟩
              | 3, _ => exact ⟨_, rfl⟩
            case hK =>
              intro e' h' n' q1 q2 q3 q4 q5 q6 q7
              simp only [go_sem, q1, q2, q3, q4, q5, q6, q7, hw, hlt, AV.bel, belL, nblt, hLb, ↓reduceIte, beq_self_eq_true, bne_self_eq_false, Int.reduceAdd, Int.reduceSub, Int.reduceMul, Int.reduceNeg, Int.reduceEq, Int.reduceNe, Int.cast_ofNat_Int, Int.lt_irrefl, Int.le_refl, Nat.reduceEqDiff, Nat.reduceLeDiff, Nat.reduceLT, Int.reducePow, IntKind.bits, Nat.reduceAdd, Nat.reduceMul, Nat.reduceSub, Int.reduceBNe, Int.reduceBEq, Int.reduceLE, Int.reduceLT, Int.reduceToNat, reduceCtorEq, Nat.zero_ne_one, Nat.one_ne_zero, and_self, and_true, true_and, Option.getD_some, Option.isSome_some, wrapL, gt_iff_lt, ge_iff_le]
    · have c1 : decide ((k : Int) < 3) = false := decide_eq_false (by omega)
      simp only [go_sem, c1, k18, ↓reduceIte, beq_self_eq_true, bne_self_eq_false, Int.reduceAdd, Int.reduceSub, Int.reduceMul, Int.reduceNeg, Int.reduceEq, Int.reduceNe, Int.cast_ofNat_Int, Int.lt_irrefl, Int.le_refl, Nat.reduceEqDiff, Nat.reduceLeDiff, Nat.reduceLT, Int.reducePow, IntKind.bits, Nat.reduceAdd, Nat.reduceMul, Nat.reduceSub, Int.reduceBNe, Int.reduceBEq, Int.reduceLE, Int.reduceLT, Int.reduceToNat, reduceCtorEq, Nat.zero_ne_one, Nat.one_ne_zero, and_self, and_true, true_and, Option.getD_some, Option.isSome_some, wrapL, gt_iff_lt, ge_iff_le]
      exact Ends.pure rfl
end Go.Proofs.Pic
