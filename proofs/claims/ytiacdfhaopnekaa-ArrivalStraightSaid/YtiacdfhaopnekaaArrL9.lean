/- ArrivalStraight: the walk. -/
import Derived.Test.YtiacdfhaopnekaaArrC14
import Derived.Test.YtiacdfhaopnekaaArrP12
import Derived.Test.YtiacdfhaopnekaaAbShs
import Derived.Test.YtiacdfhaopnekaaArrI9
namespace Go.Proofs.Arr
open Go.Ab
set_option maxRecDepth 100000
set_option maxHeartbeats 16000000
set_option linter.unusedSimpArgs false
set_option linter.unusedVariables false
def T25 : List (Nat × Ct) := [(22, k22)]
theorem hT25 : Sound Try.prog (cxT T25) := Sound.cons s22 Sound.nil
theorem w25 (s : Sh) (l : List Pt) (hs : Sh.pts s l) (hll : l.length ≤ 1000000) (hO : lineOK l = false) : FTL Try.prog 25 [s.v 0] (s.h 0) 1 (.b true) (s.h 0) 1 := by
  refine FTL.of_iw hT25 mo Try.func25 i25_eq (by simp [i25]) (iw_of_jw ?_)
  dsimp only [i25, T25]
  have hrd := rd_pts hs
  have hp := hs.pl
  have hld : decide (l.length ≤ 1000000) = true := decide_eq_true (by omega)
  have hv : lineV l = .tup [.i .i64 0, .i .i64 0, .i .i64 291] := by unfold lineV; rw [if_neg]; simp [hO]
  simp (config := { maxSteps := 400000 }) only [go_sem, k22, hrd, hld, hv, ↓reduceIte, beq_self_eq_true, bne_self_eq_false, Int.reduceAdd, Int.reduceSub, Int.reduceMul, Int.reduceNeg, Int.reduceEq, Int.reduceNe, Int.cast_ofNat_Int, Int.lt_irrefl, Int.le_refl, Nat.reduceEqDiff, Nat.reduceLeDiff, Nat.reduceLT, Int.reducePow, IntKind.bits, Nat.reduceAdd, Nat.reduceMul, Nat.reduceSub, Int.reduceBNe, Int.reduceBEq, Int.reduceLE, Int.reduceLT, Int.reduceToNat, reduceCtorEq, Nat.zero_ne_one, Nat.one_ne_zero, and_self, and_true, true_and, Option.getD_some, Option.isSome_some, wrapL, gt_iff_lt, ge_iff_le, Int.toNat_natCast, Nat.sub_zero, ite_self, spB_TT, Nat.zero_add, Nat.add_zero]
  exact Ends.s1 hp rfl rfl (by simp [hasS_cons, hasS_hit, hasS_hit0])
theorem w26 (s : Sh) (l : List Pt) (hs : Sh.pts s l) (hll : l.length ≤ 1000000) (hO : lineOK l = true) : FTL Try.prog 26 [.i .i64 (lineN l), .i .i64 (lineD l), s.v 0] (s.h 0) 1 (.b true) (s.h 0) 1 := by
  refine FTL.of_iw hT25 mo Try.func26 i26_eq (by simp [i26]) (iw_of_jw ?_)
  dsimp only [i26, T25]
  have hrd := rd_pts hs
  have hp := hs.pl
  have hld : decide (l.length ≤ 1000000) = true := decide_eq_true (by omega)
  have hv : lineV l = .tup [.i .i64 (lineN l), .i .i64 (lineD l), .i .i64 0] := by unfold lineV; rw [if_pos hO]
  simp (config := { maxSteps := 400000 }) only [go_sem, k22, hrd, hld, hv, ↓reduceIte, beq_self_eq_true, bne_self_eq_false, Int.reduceAdd, Int.reduceSub, Int.reduceMul, Int.reduceNeg, Int.reduceEq, Int.reduceNe, Int.cast_ofNat_Int, Int.lt_irrefl, Int.le_refl, Nat.reduceEqDiff, Nat.reduceLeDiff, Nat.reduceLT, Int.reducePow, IntKind.bits, Nat.reduceAdd, Nat.reduceMul, Nat.reduceSub, Int.reduceBNe, Int.reduceBEq, Int.reduceLE, Int.reduceLT, Int.reduceToNat, reduceCtorEq, Nat.zero_ne_one, Nat.one_ne_zero, and_self, and_true, true_and, Option.getD_some, Option.isSome_some, wrapL, gt_iff_lt, ge_iff_le, Int.toNat_natCast, Nat.sub_zero, ite_self, spB_TT, Nat.zero_add, Nat.add_zero]
  exact Ends.s1 hp rfl rfl (by simp [hasS_cons, hasS_hit, hasS_hit0])
def k25 : Ct
  | [v], h, n => (shAt v h).bind fun s => (rdL ptV 2 s).bind fun l => some (decide (l.length ≤ 1000000) && !lineOK l, { v := .b true, n := n + 1, rd := shR v })
  | _, _, _ => none
theorem s25 : SoundAt Try.prog 25 k25 := fun args h n c E hc ht => by
  unfold k25 at hc
  split at hc
  · simp only [Option.bind_eq_some_iff] at hc
    obtain ⟨s, hs, l, hl, he⟩ := hc
    cases he
    simp only [Bool.and_eq_true, decide_eq_true_eq, Bool.not_eq_true'] at ht
    have hp := pts_rd hl
    have := CallOK.sh1 (n := n) (A := fun b => [s.v b]) (by kernel_rfl) (by simp [belL, v_bel]) hs hp.pl (fun ψ => by simp [renL, v_ren]) (fun h0 i => by subst h0; rfl) rfl (w25 s l hp ht.1 ht.2)
    rwa [← (shAt_inv hs).1] at this
  · cases hc
def k26 : Ct
  | [.i .i64 a, .i .i64 b, v], h, n => (shAt v h).bind fun s => (rdL ptV 2 s).bind fun l => some (decide (l.length ≤ 1000000) && (lineOK l && (a == lineN l && b == lineD l)), { v := .b true, n := n + 1, rd := shR v })
  | _, _, _ => none
theorem s26 : SoundAt Try.prog 26 k26 := fun args h n c E hc ht => by
  unfold k26 at hc
  split at hc
  · simp only [Option.bind_eq_some_iff] at hc
    obtain ⟨s, hs, l, hl, he⟩ := hc
    cases he
    simp only [Bool.and_eq_true, decide_eq_true_eq, beq_iff_eq] at ht
    obtain ⟨t1, t2, rfl, rfl⟩ := ht
    have hp := pts_rd hl
    have := CallOK.sh1 (n := n) (A := fun b => [.i .i64 (lineN l), .i .i64 (lineD l), s.v b]) (by kernel_rfl) (by simp [belL, AV.bel, v_bel]) hs hp.pl (fun ψ => by simp [renL, AV.ren, v_ren]) (fun h0 i => by subst h0; rfl) rfl (w26 s l hp t1 t2)
    rwa [← (shAt_inv hs).1] at this
  · cases hc
def u81 (n : Int) : List AV := [.i .u8 n]
def i81 (n : Int) : List AV := [.i .i8 n]
def T9 : List (Nat × Ct) := [(20, k20), (22, k22), (25, k25), (26, k26)]
theorem hT9 : Sound Try.prog (cxT T9) := Sound.cons s20 <| Sound.cons s22 <| Sound.cons s25 <| Sound.cons s26 Sound.nil
abbrev ptQ : List Pt → Sh := gQ Pt.l 2
/-- The lists of the law. -/
abbrev cX (ks : List Int) (i : Nat) : Int := xN ks (i + 1)
def lA (a b : Int) (ks : List Int) (m : Nat) : List Pt := ptsOf (cX ks) (fun i => a * cX ks i + b) m
def lB (ks ys : List Int) (m : Nat) : List Pt := ptsOf (cX ks) (yN ys) m
def lC (ks ys : List Int) (p q : Int) (m : Nat) : List Pt := ptsOf (fun i => cX ks i + p) (fun i => yN ys i - q) m
def lD (ks ys : List Int) (m : Nat) : List Pt := ptsOf (cX ks) (fun i => -yN ys i) m
theorem lA_succ (a b : Int) (ks : List Int) (m : Nat) : lA a b ks (m + 1) = lA a b ks m ++ [⟨xN ks (m + 1), a * xN ks (m + 1) + b⟩] := ptsOf_succ _ _ _
theorem lB_succ (ks ys : List Int) (m : Nat) : lB ks ys (m + 1) = lB ks ys m ++ [⟨xN ks (m + 1), yN ys m⟩] := ptsOf_succ _ _ _
theorem lC_succ (ks ys : List Int) (p q : Int) (m : Nat) : lC ks ys p q (m + 1) = lC ks ys p q m ++ [⟨xN ks (m + 1) + p, yN ys m - q⟩] := ptsOf_succ _ _ _
theorem lD_succ (ks ys : List Int) (m : Nat) : lD ks ys (m + 1) = lD ks ys m ++ [⟨xN ks (m + 1), -yN ys m⟩] := ptsOf_succ _ _ _
theorem lA_len (a b : Int) (ks : List Int) (m : Nat) : (lA a b ks m).length = m := ptsOf_len _ _ _
theorem lB_len (ks ys : List Int) (m : Nat) : (lB ks ys m).length = m := ptsOf_len _ _ _
theorem lC_len (ks ys : List Int) (p q : Int) (m : Nat) : (lC ks ys p q m).length = m := ptsOf_len _ _ _
theorem lD_len (ks ys : List Int) (m : Nat) : (lD ks ys m).length = m := ptsOf_len _ _ _
theorem ptQ_snoc (l : List Pt) (x : Pt) : ptQ (l ++ [x]) = gS Pt.l 2 l x.l := gQ_snoc
theorem ptQ_pts (l : List Pt) : Sh.pts (ptQ l) l := gQ_is Pt.bel0 Pt.len l
theorem prow (l : List Pt) : (rows Pt.l l).length = l.length * 2 := rows_len Pt.len
theorem w9 (a b : Int) (xs ys : Sh) (ks yl : List Int) (p q : Int) (hx : xs.is u81 1 ks) (hy : ys.is i81 1 yl) (hsx : xs.sane 1 = true) (ha : -128 ≤ a ∧ a ≤ 127) (hb : -32768 ≤ b ∧ b ≤ 32767) (hks : ∀ k ∈ ks, 0 ≤ k ∧ k ≤ 255) (hyl : ∀ k ∈ yl, -128 ≤ k ∧ k ≤ 127) (hp : 0 ≤ p ∧ p ≤ 65535) (hq : 0 ≤ q ∧ q ≤ 65535) :
    FTL Try.prog 9 [.i .i8 a, .i .i16 b, xs.v 0, ys.v 1, .agg [.i .u16 p, .i .u16 q]] (xs.h 0 ++ ys.h 1) 2 (.b true) [] 2 := by
  refine FTL.of_iw hT9 mo Try.func9 i9_eq (by simp [i9]) (iw_of_jw ?_)
  dsimp only [i9, T9]
  have px := hx.pl
  have py := hy.pl
  have lx : xs.len = ks.length := hx.ln
  have ly : ys.len = yl.length := hy.ln
  obtain ⟨m, hm⟩ : ∃ m, min ks.length 20 = m := ⟨_, rfl⟩
  have hm20 : m ≤ 20 := by omega
  have hml : m ≤ ks.length := by omega
  have hmi : min (ks.length : Int) 20 = (m : Int) := by omega
  have hcd : decide (0 ≤ (m : Int) ∧ (m : Int) ≤ (ks.length : Int)) = true := decide_eq_true (by omega)
  have hcl : (xs.cut m).len = m := cut_len (by omega)
  simp (config := { maxSteps := 400000 }) only [go_sem, k20, hmi, lx, hsx, hcd, hcl, ↓reduceIte, beq_self_eq_true, bne_self_eq_false, Int.reduceAdd, Int.reduceSub, Int.reduceMul, Int.reduceNeg, Int.reduceEq, Int.reduceNe, Int.cast_ofNat_Int, Int.lt_irrefl, Int.le_refl, Nat.reduceEqDiff, Nat.reduceLeDiff, Nat.reduceLT, Int.reducePow, IntKind.bits, Nat.reduceAdd, Nat.reduceMul, Nat.reduceSub, Int.reduceBNe, Int.reduceBEq, Int.reduceLE, Int.reduceLT, Int.reduceToNat, reduceCtorEq, Nat.zero_ne_one, Nat.one_ne_zero, and_self, and_true, true_and, Option.getD_some, Option.isSome_some, wrapL, gt_iff_lt, ge_iff_le, Int.toNat_natCast, Nat.sub_zero, ite_self, spB_TT, Nat.zero_add, Nat.add_zero]
  refine Loop.stepR (F := ⟨Try.prog, cxT T9, [26, 34, 56, 104], 159, 2⟩) hT9 mo (X := Nat) (fun k => k ≤ m) (fun k => m - k)
    (fun k => [(0, .i .i8 a), (1, .i .i16 b), (3, ys.v 1), (9, .p 2 0), (11, (ptQ (lA a b ks k)).v 3), (12, (ptQ (lB ks yl k)).v 4), (13, (ptQ (lC ks yl p q k)).v 5), (14, (ptQ (lD ks yl k)).v 6), (15, .i .i64 (xN ks k)), (31, (xs.cut m).v 0), (32, .i .i64 (m : Int)), (33, .i .i64 (k : Int))])
    (fun k => (2, { cells := [.i .u16 p, .i .u16 q] }) :: ((ptQ (lA a b ks k)).h 3 ++ ((ptQ (lB ks yl k)).h 4 ++ ((ptQ (lC ks yl p q k)).h 5 ++ ((ptQ (lD ks yl k)).h 6 ++ (xs.h 0 ++ ys.h 1)))))) 7 0 (fun k => k + 1) [] (fun _ => [(3, 8), (4, 10), (5, 12), (6, 14)]) (by decide) (by decide) (fun _ => by decide) (Nat.zero_le _) ?_ ?_ (fun k hk => ?_)
  · have h1 : ptQ (lA a b ks 0) = .nil := rfl
    have h2 : ptQ (lB ks yl 0) = .nil := rfl
    have h3 : ptQ (lC ks yl p q 0) = .nil := rfl
    have h4 : ptQ (lD ks yl 0) = .nil := rfl
    have h5 : xN ks 0 = 0 := rfl
    simp (config := { maxSteps := 400000 }) only [go_sem, h1, h2, h3, h4, h5, shv_n, AV.ren, renL, AV.bel, belL, nblt, ↓reduceIte, beq_self_eq_true, bne_self_eq_false, Int.reduceAdd, Int.reduceSub, Int.reduceMul, Int.reduceNeg, Int.reduceEq, Int.reduceNe, Int.cast_ofNat_Int, Int.lt_irrefl, Int.le_refl, Nat.reduceEqDiff, Nat.reduceLeDiff, Nat.reduceLT, Int.reducePow, IntKind.bits, Nat.reduceAdd, Nat.reduceMul, Nat.reduceSub, Int.reduceBNe, Int.reduceBEq, Int.reduceLE, Int.reduceLT, Int.reduceToNat, reduceCtorEq, Nat.zero_ne_one, Nat.one_ne_zero, and_self, and_true, true_and, Option.getD_some, Option.isSome_some, wrapL, gt_iff_lt, ge_iff_le, Int.toNat_natCast, Nat.sub_zero, ite_self, spB_TT, Nat.zero_add, Nat.add_zero]
  · have h1 : ptQ (lA a b ks 0) = .nil := rfl
    have h2 : ptQ (lB ks yl 0) = .nil := rfl
    have h3 : ptQ (lC ks yl p q 0) = .nil := rfl
    have h4 : ptQ (lD ks yl 0) = .nil := rfl
    simp (config := { maxSteps := 400000 }) only [go_sem, h1, h2, h3, h4, shh_n, shv_n, AV.bel, belL, nblt, Blk.ren, renL, AV.ren, px, py, ↓reduceIte, beq_self_eq_true, bne_self_eq_false, Int.reduceAdd, Int.reduceSub, Int.reduceMul, Int.reduceNeg, Int.reduceEq, Int.reduceNe, Int.cast_ofNat_Int, Int.lt_irrefl, Int.le_refl, Nat.reduceEqDiff, Nat.reduceLeDiff, Nat.reduceLT, Int.reducePow, IntKind.bits, Nat.reduceAdd, Nat.reduceMul, Nat.reduceSub, Int.reduceBNe, Int.reduceBEq, Int.reduceLE, Int.reduceLT, Int.reduceToNat, reduceCtorEq, Nat.zero_ne_one, Nat.one_ne_zero, and_self, and_true, true_and, Option.getD_some, Option.isSome_some, wrapL, gt_iff_lt, ge_iff_le, Int.toNat_natCast, Nat.sub_zero, ite_self, spB_TT, Nat.zero_add, Nat.add_zero]
  · dsimp only [T9]
    by_cases hlt : k < m
    · have nx : xs ≠ .nil := hx.ne (by rintro rfl; simp at hml; omega)
      have sx : slParts ((xs.cut m).v 0) = some (0, xs.o, m) := cut_slParts nx
      have gx : ∀ r, hget (xs.h 0 ++ r) 0 = some xs.blk := fun r => hget_at nx
      have rx := row_get (f := u81) (z := 1) (j := 0) (v := .i .u8 (ks.getD k 0)) (fun _ => rfl) (hx.cells nx).1 (show ks[k]? = some (ks.getD k 0) by rw [List.getD_eq_getElem?_getD, List.getElem?_eq_getElem (by omega)]; rfl) rfl
      rw [Nat.add_zero] at rx
      have pA' := (ptQ_pts (lA a b ks (k + 1))).pl
      have pB' := (ptQ_pts (lB ks yl (k + 1))).pl
      have pC' := (ptQ_pts (lC ks yl p q (k + 1))).pl
      have pD' := (ptQ_pts (lD ks yl (k + 1))).pl
      have stp := xN_step hks k
      have rng := xN_rng hks k
      have e5 : xN ks (k + 1) = xN ks k + ks.getD k 0 := rfl
      have yr := yN_rng hyl k
      rw [lA_succ, ptQ_snoc] at pA'
      rw [lB_succ, ptQ_snoc] at pB'
      rw [lC_succ, ptQ_snoc] at pC'
      rw [lD_succ, ptQ_snoc] at pD'
      simp only [Pt.l] at pA' pB' pC' pD'
      rw [lA_succ, lB_succ, lC_succ, lD_succ]
      simp only [ptQ_snoc]
      have zA := lA_len a b ks k
      have zB := lB_len ks yl k
      have zC := lC_len ks yl p q k
      have zD := lD_len ks yl k
      generalize lA a b ks k = A at *
      generalize lB ks yl k = B at *
      generalize lC ks yl p q k = C at *
      generalize lD ks yl k = D at *
      generalize xN ks (k + 1) = X at *
      have c1 : decide ((k : Int) < (m : Int)) = true := decide_eq_true (by omega)
      have c2 : decide (0 ≤ (k : Int) ∧ (k : Int) < (m : Int)) = true := decide_eq_true (by omega)
      have hw : IntKind.i64.wrap ((k : Int) + 1) = ((k + 1 : Nat) : Int) := by rw [wrapL (by omega) (by omega)]; omega
      have hsk : m - (k + 1) < m - k := by omega
      have mr := mul_rng (A := 128) (B := 10000) (x := a) (y := X) (by omega) (by omega) (by omega) (by omega) (by decide) (by decide)
      have v1 : IntKind.i64.wrap (ks.getD k 0) = ks.getD k 0 := wrapL (by omega) (by omega)
      have v2 : IntKind.i64.wrap (xN ks k + ks.getD k 0) = X := by rw [wrapL (by omega) (by omega)]; omega
      have v3 : IntKind.i64.wrap a = a := wrapL (by omega) (by omega)
      have v4 : IntKind.i64.wrap b = b := wrapL (by omega) (by omega)
      have v5 : IntKind.i64.wrap (a * X) = a * X := wrapL (by omega) (by omega)
      have v6 : IntKind.i64.wrap (a * X + b) = a * X + b := wrapL (by omega) (by omega)
      have v7 : IntKind.i64.wrap p = p := wrapL (by omega) (by omega)
      have v8 : IntKind.i64.wrap q = q := wrapL (by omega) (by omega)
      have v9 : IntKind.i64.wrap (X + p) = X + p := wrapL (by omega) (by omega)
      have gm : decide (16 * (k + 1) ≤ growMax) = true := decide_eq_true (by simp only [growMax]; omega)
      have y2 : IntKind.i64.wrap (yN yl k - q) = yN yl k - q := wrapL (by omega) (by omega)
      have y3 : IntKind.i64.wrap (0 - yN yl k) = -yN yl k := by rw [wrapL (by omega) (by omega)]; omega
      by_cases hy0 : yl.length = 0
      · have yz : yN yl k = 0 := by unfold yN; rw [if_pos hy0]
        rw [yz] at pB' pC' pD' ⊢
        rw [show (-0 : Int) = 0 from rfl] at pD'
        rw [hy0] at ly
        have y4 : IntKind.i64.wrap (0 - q) = 0 - q := wrapL (by omega) (by omega)
        have y5 : IntKind.i64.wrap 0 = 0 := rfl
        have y6 : (-0 : Int) = 0 := rfl
        simp (config := { maxSteps := 400000 }) only [go_sem, c1, c2, sx, gx, rx, hw, v1, v2, v3, v4, v5, v6, v7, v8, v9, gm, zA, zB, zC, zD, prow, y4, y5, y6, ly, Pt.l, hlt, hsk, pA', pB', pC', pD', px, py, AV.bel, belL, nblt, Blk.ren, renL, AV.ren, Int.natCast_zero, Int.ofNat_zero, ↓reduceIte, beq_self_eq_true, bne_self_eq_false, Int.reduceAdd, Int.reduceSub, Int.reduceMul, Int.reduceNeg, Int.reduceEq, Int.reduceNe, Int.cast_ofNat_Int, Int.lt_irrefl, Int.le_refl, Nat.reduceEqDiff, Nat.reduceLeDiff, Nat.reduceLT, Int.reducePow, IntKind.bits, Nat.reduceAdd, Nat.reduceMul, Nat.reduceSub, Int.reduceBNe, Int.reduceBEq, Int.reduceLE, Int.reduceLT, Int.reduceToNat, reduceCtorEq, Nat.zero_ne_one, Nat.one_ne_zero, and_self, and_true, true_and, Option.getD_some, Option.isSome_some, wrapL, gt_iff_lt, ge_iff_le, Int.toNat_natCast, Nat.sub_zero, ite_self, spB_TT, Nat.zero_add, Nat.add_zero]
        omega
      · have yv : yN yl k = 1000 * yl.getD (k % yl.length) 0 := by unfold yN; rw [if_neg hy0]
        have hmod : k % yl.length < yl.length := Nat.mod_lt _ (by omega)
        have ny : ys ≠ .nil := hy.ne (by rintro rfl; simp at hy0)
        have sy : slParts (ys.v 1) = some (1, ys.o, ys.len) := slParts_v ny
        have gy : hget (ys.h 1) 1 = some ys.blk := hget_at0 ny
        have ry := row_get (f := i81) (z := 1) (j := 0) (v := .i .i8 (yl.getD (k % yl.length) 0)) (fun _ => rfl) (hy.cells ny).1 (show yl[k % yl.length]? = some (yl.getD (k % yl.length) 0) by rw [List.getD_eq_getElem?_getD, List.getElem?_eq_getElem hmod]; rfl) rfl
        rw [Nat.add_zero] at ry
        have c3 : decide ((yl.length : Int) > 0) = true := decide_eq_true (by omega)
        have c3' : decide ((0 : Int) < (yl.length : Int)) = true := decide_eq_true (by omega)
        have c4 : ((yl.length : Int) != 0) = true := bne_iff_ne.2 (by omega)
        have q1 : (k : Int).tmod (yl.length : Int) = ((k % yl.length : Nat) : Int) := by rw [Int.tmod_eq_emod_of_nonneg (by omega)]; omega
        have c5 : decide (0 ≤ ((k % yl.length : Nat) : Int) ∧ ((k % yl.length : Nat) : Int) < (yl.length : Int)) = true := decide_eq_true (by omega)
        have y1 : IntKind.i64.wrap (yl.getD (k % yl.length) 0) = yl.getD (k % yl.length) 0 := wrapL (by omega) (by omega)
        have y4 : IntKind.i64.wrap (1000 * yl.getD (k % yl.length) 0) = yN yl k := by rw [← yv]; exact wrapL (by omega) (by omega)
        generalize yN yl k = Y at *
        generalize k % yl.length = km at *
        simp (config := { maxSteps := 400000 }) only [go_sem, c1, c2, sx, gx, rx, hw, v1, v2, v3, v4, v5, v6, v7, v8, v9, gm, zA, zB, zC, zD, prow, c3, c3', c4, q1, c5, sy, gy, ry, y1, y2, y3, y4, ly, Pt.l, hlt, hsk, pA', pB', pC', pD', px, py, AV.bel, belL, nblt, Blk.ren, renL, AV.ren, ↓reduceIte, beq_self_eq_true, bne_self_eq_false, Int.reduceAdd, Int.reduceSub, Int.reduceMul, Int.reduceNeg, Int.reduceEq, Int.reduceNe, Int.cast_ofNat_Int, Int.lt_irrefl, Int.le_refl, Nat.reduceEqDiff, Nat.reduceLeDiff, Nat.reduceLT, Int.reducePow, IntKind.bits, Nat.reduceAdd, Nat.reduceMul, Nat.reduceSub, Int.reduceBNe, Int.reduceBEq, Int.reduceLE, Int.reduceLT, Int.reduceToNat, reduceCtorEq, Nat.zero_ne_one, Nat.one_ne_zero, and_self, and_true, true_and, Option.getD_some, Option.isSome_some, wrapL, gt_iff_lt, ge_iff_le, Int.toNat_natCast, Nat.sub_zero, ite_self, spB_TT, Nat.zero_add, Nat.add_zero]
        omega
    · have c1 : decide ((k : Int) < (m : Int)) = false := decide_eq_false (by omega)
      have hkm : k = m := by omega
      subst hkm
      have qA := ptQ_pts (lA a b ks k)
      have qB := ptQ_pts (lB ks yl k)
      have qC := ptQ_pts (lC ks yl p q k)
      have qD := ptQ_pts (lD ks yl k)
      have rA := rd_pts qA
      have rB := rd_pts qB
      have rC := rd_pts qC
      have rD := rd_pts qD
      have lA' : (ptQ (lA a b ks k)).len = k := by rw [qA.ln, lA_len]
      have zA := lA_len a b ks k
      have zB := lB_len ks yl k
      have zC := lC_len ks yl p q k
      have zD := lD_len ks yl k
      have big : decide (k ≤ 1000000) = true := decide_eq_true (by omega)
      have rng := xN_rng hks
      have stp := xN_step hks
      have yrg := yN_rng hyl
      have one : k < 2 ∨ cX ks 0 = cX ks (k - 1) → lineOK (lA a b ks k) = false ∧ lineOK (lB ks yl k) = false := fun h => ⟨lineOK_no h, lineOK_no h⟩
      have nA : 0 < k → ptQ (lA a b ks k) ≠ .nil := fun h => qA.ne (by intro e; rw [e] at zA; simp at zA; omega)
      have xA : 0 < k → (ptQ (lA a b ks k)).blk.cells[(ptQ (lA a b ks k)).o]? = some (.i .i64 (cX ks 0)) := fun h => by
        obtain ⟨hrow, hx, hy⟩ := at_of (qA.cells (nA h)).1
        have x0 := hx 0 (by omega)
        rw [Nat.zero_mul, Nat.add_zero] at x0
        rw [x0, lA, ptsOf_x h]
      by_cases k2 : k < 2
      · obtain ⟨o1, o2⟩ := one (.inl k2)
        have c2 : decide ((k : Int) < 2) = true := decide_eq_true (by omega)
        generalize lA a b ks k = A at *
        generalize lB ks yl k = B at *
        generalize lC ks yl p q k = C at *
        generalize lD ks yl k = D at *
        simp (config := { maxSteps := 400000 }) only [go_sem, c1, lA', c2, k25, rA, rB, o1, o2, zA, zB, big, ↓reduceIte, beq_self_eq_true, bne_self_eq_false, Int.reduceAdd, Int.reduceSub, Int.reduceMul, Int.reduceNeg, Int.reduceEq, Int.reduceNe, Int.cast_ofNat_Int, Int.lt_irrefl, Int.le_refl, Nat.reduceEqDiff, Nat.reduceLeDiff, Nat.reduceLT, Int.reducePow, IntKind.bits, Nat.reduceAdd, Nat.reduceMul, Nat.reduceSub, Int.reduceBNe, Int.reduceBEq, Int.reduceLE, Int.reduceLT, Int.reduceToNat, reduceCtorEq, Nat.zero_ne_one, Nat.one_ne_zero, and_self, and_true, true_and, Option.getD_some, Option.isSome_some, wrapL, gt_iff_lt, ge_iff_le, Int.toNat_natCast, Nat.sub_zero, ite_self, spB_TT, Nat.zero_add, Nat.add_zero]
        exact Ends.pure rfl
      · have c2 : decide ((k : Int) < 2) = false := decide_eq_false (by omega)
        have nA := nA (by omega)
        have xA := xA (by omega)
        have sA : slParts ((ptQ (lA a b ks k)).v 3) = some (3, (ptQ (lA a b ks k)).o, (ptQ (lA a b ks k)).len) := slParts_v nA
        have gA : ∀ r, hget ((ptQ (lA a b ks k)).h 3 ++ r) 3 = some (ptQ (lA a b ks k)).blk := fun r => hget_at nA
        have c0 : decide ((0 : Int) < (k : Int)) = true := decide_eq_true (by omega)
        have kk : k - 1 + 1 = k := by omega
        cases hX : cX ks 0 == xN ks k with
        | true =>
          have hX' : cX ks 0 = cX ks (k - 1) := by show _ = xN ks (k - 1 + 1); rw [kk]; exact eq_of_beq hX
          obtain ⟨o1, o2⟩ := one (.inr hX')
          generalize lA a b ks k = A at *
          generalize lB ks yl k = B at *
          generalize lC ks yl p q k = C at *
          generalize lD ks yl k = D at *
          simp (config := { maxSteps := 400000 }) only [go_sem, c1, lA', c2, c0, sA, gA, xA, hX, k25, rA, rB, o1, o2, zA, zB, big, ↓reduceIte, beq_self_eq_true, bne_self_eq_false, Int.reduceAdd, Int.reduceSub, Int.reduceMul, Int.reduceNeg, Int.reduceEq, Int.reduceNe, Int.cast_ofNat_Int, Int.lt_irrefl, Int.le_refl, Nat.reduceEqDiff, Nat.reduceLeDiff, Nat.reduceLT, Int.reducePow, IntKind.bits, Nat.reduceAdd, Nat.reduceMul, Nat.reduceSub, Int.reduceBNe, Int.reduceBEq, Int.reduceLE, Int.reduceLT, Int.reduceToNat, reduceCtorEq, Nat.zero_ne_one, Nat.one_ne_zero, and_self, and_true, true_and, Option.getD_some, Option.isSome_some, wrapL, gt_iff_lt, ge_iff_le, Int.toNat_natCast, Nat.sub_zero, ite_self, spB_TT, Nat.zero_add, Nat.add_zero]
          exact Ends.pure rfl
        | false =>
          have hne : cX ks (k - 1) ≠ cX ks 0 := by show xN ks (k - 1 + 1) ≠ _; rw [kk]; exact fun e => by rw [e] at hX; simp at hX
          have hge : ∀ j, cX ks 0 ≤ cX ks j := by
            intro j
            induction j with
            | zero => exact Int.le_refl _
            | succ j ih =>
              have := stp (j + 1)
              show cX ks 0 ≤ xN ks (j + 1 + 1)
              have ih : cX ks 0 ≤ xN ks (j + 1) := ih
              omega
          have hk1 := hge (k - 1)
          have r0 := rng (0 + 1)
          have rk := rng (k - 1 + 1)
          have lst : 1 ≤ cX ks (k - 1) - cX ks 0 ∧ cX ks (k - 1) - cX ks 0 ≤ 40000 := by
            have r0 : 0 ≤ cX ks 0 ∧ _ := r0
            have rk : 0 ≤ cX ks (k - 1) ∧ cX ks (k - 1) ≤ 255 * ((k - 1 + 1 : Nat) : Int) := rk
            omega
          have ptx : ∀ i, i < k → 0 ≤ cX ks i ∧ cX ks i ≤ 5100 := fun i hi => by
            have r : 0 ≤ cX ks i ∧ cX ks i ≤ 255 * ((i + 1 : Nat) : Int) := rng (i + 1)
            omega
          have pts : ∀ i, 0 ≤ cX ks (i + 1) - cX ks i ∧ cX ks (i + 1) - cX ks i ≤ 255 := fun i => stp (i + 1)
          have pA : lineOK (lA a b ks k) = true := lineOK_of (pts_of (by omega) (fun i hi => by have := ptx i hi; omega) (fun i hi => by have := pts i; omega) (fun i hi => by
            have h1 := ptx i hi
            have h0 := ptx 0 (by omega)
            have m1 := mul_rng (A := 128) (B := 5100) (x := a) (y := cX ks i) (by omega) (by omega) (by omega) (by omega) (by decide) (by decide)
            have m0 := mul_rng (A := 128) (B := 5100) (x := a) (y := cX ks 0) (by omega) (by omega) (by omega) (by omega) (by decide) (by decide)
            omega)) (by omega) lst
          have pB : lineOK (lB ks yl k) = true := lineOK_of (pts_of (by omega) (fun i hi => by have := ptx i hi; omega) (fun i hi => by have := pts i; omega) (fun i hi => by have h1 := yrg i; have h0 := yrg 0; omega)) (by omega) lst
          have pC : lineOK (lC ks yl p q k) = true := lineOK_of (pts_of (by omega) (fun i hi => by have := ptx i hi; omega) (fun i hi => by have := pts i; omega) (fun i hi => by have h1 := yrg i; have h0 := yrg 0; omega)) (by omega) (by omega)
          have pD : lineOK (lD ks yl k) = true := lineOK_of (pts_of (by omega) (fun i hi => by have := ptx i hi; omega) (fun i hi => by have := pts i; omega) (fun i hi => by have h1 := yrg i; have h0 := yrg 0; omega)) (by omega) lst
          have dA : 0 < lineD (lA a b ks k) := lineD_of (by omega) (by omega)
          have eA : lineN (lA a b ks k) = a * lineD (lA a b ks k) := lineN_mul a (fun i hi => by rw [Int.mul_sub]; omega)
          have eB : lineD (lB ks yl k) = lineD (lA a b ks k) := lineD_eq (fun i hi => rfl)
          have eC : lineD (lC ks yl p q k) = lineD (lA a b ks k) := lineD_eq (fun i hi => by omega)
          have eD : lineD (lD ks yl k) = lineD (lA a b ks k) := lineD_eq (fun i hi => rfl)
          have fC : lineN (lC ks yl p q k) = lineN (lB ks yl k) := lineN_eq (fun i hi => by omega) (fun i hi => by omega)
          have fD : lineN (lD ks yl k) = -lineN (lB ks yl k) := lineN_neg (fun i hi => by omega)
          have bA := line_N (near_line pA)
          have bB := line_N (near_line pB)
          have vA : lineV (lA a b ks k) = .tup [.i .i64 (lineN (lA a b ks k)), .i .i64 (lineD (lA a b ks k)), .i .i64 0] := by unfold lineV; rw [if_pos pA]
          have vB : lineV (lB ks yl k) = .tup [.i .i64 (lineN (lB ks yl k)), .i .i64 (lineD (lA a b ks k)), .i .i64 0] := by unfold lineV; rw [if_pos pB, eB]
          have w1 : IntKind.i64.wrap (a * lineD (lA a b ks k)) = a * lineD (lA a b ks k) := by rw [← eA]; exact wrapL (by omega) (by omega)
          have w2 : IntKind.i64.wrap (0 - lineN (lB ks yl k)) = -lineN (lB ks yl k) := by rw [wrapL (by omega) (by omega)]; omega
          have w3 : IntKind.i64.wrap a = a := wrapL (by omega) (by omega)
          have c4 : decide (lineD (lA a b ks k) > 0) = true := decide_eq_true dA
          have c5 : decide (0 < lineD (lA a b ks k)) = true := decide_eq_true dA
          generalize lA a b ks k = A at *
          generalize lB ks yl k = B at *
          generalize lC ks yl p q k = C at *
          generalize lD ks yl k = D at *
          simp (config := { maxSteps := 400000 }) only [go_sem, c1, lA', c2, c0, sA, gA, xA, hX, k22, k26, rA, rB, rC, rD, vA, vB, pC, pD, zA, zB, zC, zD, big, c4, c5, eA, eC, eD, fC, fD, w1, w2, w3, ↓reduceIte, beq_self_eq_true, bne_self_eq_false, Int.reduceAdd, Int.reduceSub, Int.reduceMul, Int.reduceNeg, Int.reduceEq, Int.reduceNe, Int.cast_ofNat_Int, Int.lt_irrefl, Int.le_refl, Nat.reduceEqDiff, Nat.reduceLeDiff, Nat.reduceLT, Int.reducePow, IntKind.bits, Nat.reduceAdd, Nat.reduceMul, Nat.reduceSub, Int.reduceBNe, Int.reduceBEq, Int.reduceLE, Int.reduceLT, Int.reduceToNat, reduceCtorEq, Nat.zero_ne_one, Nat.one_ne_zero, and_self, and_true, true_and, Option.getD_some, Option.isSome_some, wrapL, gt_iff_lt, ge_iff_le, Int.toNat_natCast, Nat.sub_zero, ite_self, spB_TT, Nat.zero_add, Nat.add_zero]
          exact Ends.pure rfl
end Go.Proofs.Arr
