/- Contracts of chapter 29: the line of points, the program's and the reference's; what the law's helpers ask of it. -/
import Derived.Test.YtiacdfhaopnekaaArrC12
import Derived.Test.YtiacdfhaopnekaaArrP4
import Derived.Test.YtiacdfhaopnekaaAbShs
import Derived.Test.YtiacdfhaopnekaaArrI23
namespace Go.Proofs.Arr
open Go.Ab
set_option maxRecDepth 100000
set_option maxHeartbeats 16000000
set_option linter.unusedSimpArgs false
set_option linter.unusedVariables false
theorem lineOK_R (l : List Pt) : lineOK l = (decide (2 ≤ l.length) && (ptsR l && !(pX l 0 == pX l (l.length - 1)))) := by
  rw [Bool.eq_iff_iff]
  simp only [lineOK, Bool.and_eq_true, decide_eq_true_eq, Bool.not_eq_true', beq_eq_false_iff_ne, inI_iff]
  constructor
  · rintro ⟨⟨h1, h2⟩, h3⟩
    refine ⟨h1, ptsR_iff.2 ⟨fun i hi => ?_, pts_len h2⟩, by omega⟩
    have a := pt_at h2 hi
    have b := mono h2 i (l.length - 1 - i) (by omega)
    rw [show i + (l.length - 1 - i) = l.length - 1 by omega] at b
    have c := mono h2 0 i (by omega)
    rw [Nat.zero_add] at c
    obtain ⟨x1, x2, y1, y2, s1, s2, b1, b2⟩ := a
    by_cases hi0 : i = 0
    · subst hi0
      simp only [ptR, Bool.and_eq_true, Bool.or_eq_true, inI_iff, M40, decide_eq_true_eq, beq_iff_eq, true_or, and_true]
      omega
    have s1 := s1 hi0
    have s2 := s2 hi0
    simp only [ptR, Bool.and_eq_true, Bool.or_eq_true, inI_iff, M40, decide_eq_true_eq, beq_iff_eq, Bool.not_eq_true', decide_eq_false_iff_not] at *
    omega
  · rintro ⟨h1, h2, h3⟩
    have mon : ∀ j, j < l.length → pX l 0 ≤ pX l j := by
      intro j
      induction j with
      | zero => intro _; exact Int.le_refl _
      | succ j ih =>
        intro hj
        have a := ih (by omega)
        have b := ptsR_at h2 hj
        simp only [ptR, Bool.and_eq_true, Bool.or_eq_true, inI_iff, M40, decide_eq_true_eq, beq_iff_eq, Bool.not_eq_true', decide_eq_false_iff_not] at b
        have e : j + 1 - 1 = j := rfl
        rw [e] at b
        omega
    refine ⟨⟨h1, ptsB_iff.2 ⟨fun i hi => ?_, ptsR_len h2⟩⟩, ?_⟩
    · have a := ptsR_at h2 hi
      have m0 := mon (i - 1) (by omega)
      simp only [ptR, ptI, Bool.and_eq_true, Bool.or_eq_true, inI_iff, M40, decide_eq_true_eq, beq_iff_eq, Bool.not_eq_true', decide_eq_false_iff_not] at *
      omega
    · have a := ptsR_at h2 (show l.length - 1 < l.length by omega)
      have m0 := mon (l.length - 1) (by omega)
      simp only [ptR, Bool.and_eq_true, Bool.or_eq_true, inI_iff, M40, decide_eq_true_eq, beq_iff_eq, Bool.not_eq_true', decide_eq_false_iff_not] at *
      omega
def lineV (l : List Pt) : AV := if lineOK l then .tup [.i .i64 (lineN l), .i .i64 (lineD l), .i .i64 0] else .tup [.i .i64 0, .i .i64 0, .i .i64 291]
theorem lineV_bel (l : List Pt) : (lineV l).bel 0 = true := by unfold lineV; split <;> rfl
def T22 : List (Nat × Ct) := [(28, k28), (27, kWi), (38, k38)]
theorem hT22 : Sound Try.prog (cxT T22) := Sound.cons s28 <| Sound.cons sWi <| Sound.cons s38 Sound.nil
theorem w22 (s : Sh) (l : List Pt) (hs : Sh.pts s l) (hll : l.length ≤ 1000000) : FTL Try.prog 22 [s.v 0] (s.h 0) 1 (lineV l) (s.h 0) 1 := by
  refine FTL.of_iw hT22 mo Try.func22 i22_eq (by simp [i22]) (iw_of_jw ?_)
  dsimp only [i22, T22]
  have hrd := rd_pts hs
  have hp := hs.pl
  have hln := hs.ln
  have hld : decide (l.length ≤ 1000000000000) = true := decide_eq_true (by omega)
  by_cases h2 : l.length < 2
  · have hv : lineV l = .tup [.i .i64 0, .i .i64 0, .i .i64 291] := by
      unfold lineV; rw [if_neg]; simp only [lineOK, Bool.and_eq_true, decide_eq_true_eq]; omega
    have c2 : decide ((l.length : Int) < 2) = true := decide_eq_true (by omega)
    rw [hv]
    simp (config := { maxSteps := 400000 }) only [go_sem, hln, c2, ↓reduceIte, beq_self_eq_true, bne_self_eq_false, Int.reduceAdd, Int.reduceSub, Int.reduceMul, Int.reduceNeg, Int.reduceEq, Int.reduceNe, Int.cast_ofNat_Int, Int.lt_irrefl, Int.le_refl, Nat.reduceEqDiff, Nat.reduceLeDiff, Nat.reduceLT, Int.reducePow, IntKind.bits, Nat.reduceAdd, Nat.reduceMul, Nat.reduceSub, Int.reduceBNe, Int.reduceBEq, Int.reduceLE, Int.reduceLT, Int.reduceToNat, reduceCtorEq, Nat.zero_ne_one, Nat.one_ne_zero, and_self, and_true, true_and, Option.getD_some, Option.isSome_some, wrapL, gt_iff_lt, ge_iff_le, Int.toNat_natCast, Nat.sub_zero, ite_self, spB_TT, Nat.zero_add, Nat.add_zero]
    exact Ends.s1 hp rfl rfl (by simp [hasS_cons, hasS_hit, hasS_hit0])
  · have hne : s ≠ .nil := hs.ne (by rintro rfl; simp at h2)
    obtain ⟨hrow, hx, hy⟩ := at_of (hs.cells hne).1
    have x0 := hx 0 (by omega)
    have xl := hx (l.length - 1) (by omega)
    rw [Nat.zero_mul, Nat.add_zero] at x0
    have hsp := slParts_v (b := 0) hne
    have hga : ∀ r, hget (s.h 0 ++ r) 0 = some s.blk := fun r => hget_at hne
    have hga0 : hget (s.h 0) 0 = some s.blk := hget_at0 hne
    have c2 : decide ((l.length : Int) < 2) = false := decide_eq_false (by omega)
    have c0 : decide ((0 : Int) < (l.length : Int)) = true := decide_eq_true (by omega)
    have q2 : IntKind.i64.wrap ((l.length : Int) - 1) = ((l.length - 1 : Nat) : Int) := by rw [wrapL (by omega) (by omega)]; omega
    have c3 : decide (0 ≤ ((l.length - 1 : Nat) : Int) ∧ ((l.length - 1 : Nat) : Int) < (l.length : Int)) = true := decide_eq_true (by omega)
    cases hB : ptsB l 40000 with
    | false =>
      have hv : lineV l = .tup [.i .i64 0, .i .i64 0, .i .i64 291] := by
        unfold lineV; rw [if_neg]; simp [lineOK, hB]
      rw [hv]
      simp (config := { maxSteps := 400000 }) only [go_sem, hln, c2, k28, hrd, hld, hB, ↓reduceIte, beq_self_eq_true, bne_self_eq_false, Int.reduceAdd, Int.reduceSub, Int.reduceMul, Int.reduceNeg, Int.reduceEq, Int.reduceNe, Int.cast_ofNat_Int, Int.lt_irrefl, Int.le_refl, Nat.reduceEqDiff, Nat.reduceLeDiff, Nat.reduceLT, Int.reducePow, IntKind.bits, Nat.reduceAdd, Nat.reduceMul, Nat.reduceSub, Int.reduceBNe, Int.reduceBEq, Int.reduceLE, Int.reduceLT, Int.reduceToNat, reduceCtorEq, Nat.zero_ne_one, Nat.one_ne_zero, and_self, and_true, true_and, Option.getD_some, Option.isSome_some, wrapL, gt_iff_lt, ge_iff_le, Int.toNat_natCast, Nat.sub_zero, ite_self, spB_TT, Nat.zero_add, Nat.add_zero]
      exact Ends.s1 hp rfl rfl (by simp [hasS_cons, hasS_hit, hasS_hit0])
    | true =>
      have a0 := pt_at hB (show 0 < l.length by omega)
      have al := pt_at hB (show l.length - 1 < l.length by omega)
      have a01 := a0.x1
      have a02 := a0.x2
      have al1 := al.x1
      have al2 := al.x2
      have q3 : IntKind.i64.wrap (pX l (l.length - 1) - pX l 0) = pX l (l.length - 1) - pX l 0 := wrapL (by omega) (by omega)
      cases hI : inI 1 40000 (pX l (l.length - 1) - pX l 0) with
      | false =>
        have hv : lineV l = .tup [.i .i64 0, .i .i64 0, .i .i64 291] := by
          unfold lineV; rw [if_neg]; simp [lineOK, hB, hI]
        rw [hv]
        simp (config := { maxSteps := 400000 }) only [go_sem, hln, c2, k28, kWi, intsB, unrows, intV, hrd, hld, hB, c0, c3, q2, q3, x0, xl, hsp, hga, hga0, hI, List.all_cons, List.all_nil, ↓reduceIte, beq_self_eq_true, bne_self_eq_false, Int.reduceAdd, Int.reduceSub, Int.reduceMul, Int.reduceNeg, Int.reduceEq, Int.reduceNe, Int.cast_ofNat_Int, Int.lt_irrefl, Int.le_refl, Nat.reduceEqDiff, Nat.reduceLeDiff, Nat.reduceLT, Int.reducePow, IntKind.bits, Nat.reduceAdd, Nat.reduceMul, Nat.reduceSub, Int.reduceBNe, Int.reduceBEq, Int.reduceLE, Int.reduceLT, Int.reduceToNat, reduceCtorEq, Nat.zero_ne_one, Nat.one_ne_zero, and_self, and_true, true_and, Option.getD_some, Option.isSome_some, wrapL, gt_iff_lt, ge_iff_le, Int.toNat_natCast, Nat.sub_zero, ite_self, spB_TT, Nat.zero_add, Nat.add_zero]
        exact Ends.s1 hp rfl rfl (by simp [hasS_cons, hasS_hit, hasS_hit0])
      | true =>
        have hO : lineOK l = true := by simp [lineOK, hB, hI]; omega
        have hN := near_line hO
        have hv : lineV l = .tup [.i .i64 (lineN l), .i .i64 (lineD l), .i .i64 0] := by
          unfold lineV; rw [if_pos hO]
        rw [hv]
        simp (config := { maxSteps := 400000 }) only [go_sem, hln, c2, k28, kWi, k38, intsB, unrows, intV, hrd, hld, hB, hN, c0, c3, q2, q3, x0, xl, hsp, hga, hga0, hI, List.all_cons, List.all_nil, ↓reduceIte, beq_self_eq_true, bne_self_eq_false, Int.reduceAdd, Int.reduceSub, Int.reduceMul, Int.reduceNeg, Int.reduceEq, Int.reduceNe, Int.cast_ofNat_Int, Int.lt_irrefl, Int.le_refl, Nat.reduceEqDiff, Nat.reduceLeDiff, Nat.reduceLT, Int.reducePow, IntKind.bits, Nat.reduceAdd, Nat.reduceMul, Nat.reduceSub, Int.reduceBNe, Int.reduceBEq, Int.reduceLE, Int.reduceLT, Int.reduceToNat, reduceCtorEq, Nat.zero_ne_one, Nat.one_ne_zero, and_self, and_true, true_and, Option.getD_some, Option.isSome_some, wrapL, gt_iff_lt, ge_iff_le, Int.toNat_natCast, Nat.sub_zero, ite_self, spB_TT, Nat.zero_add, Nat.add_zero]
        exact Ends.s1 hp rfl rfl (by simp [hasS_cons, hasS_hit, hasS_hit0])
def k22 : Ct
  | [v], h, n => (shAt v h).bind fun s => (rdL ptV 2 s).bind fun l => some (decide (l.length ≤ 1000000), { v := lineV l, n := n + 1, rd := shR v })
  | _, _, _ => none
theorem s22 : SoundAt Try.prog 22 k22 := fun args h n c E hc ht => by
  unfold k22 at hc
  split at hc
  · simp only [Option.bind_eq_some_iff] at hc
    obtain ⟨s, hs, l, hl, he⟩ := hc
    cases he
    have hp := pts_rd hl
    have := CallOK.sh1 (n := n) (A := fun b => [s.v b]) (by kernel_rfl) (by simp [belL, v_bel]) hs hp.pl (fun ψ => by simp [renL, v_ren]) (fun h0 i => by subst h0; rfl) (lineV_bel l) (w22 s l hp (of_decide_eq_true ht))
    rwa [← (shAt_inv hs).1] at this
  · cases hc
def T23 : List (Nat × Ct) := [(31, k31), (39, k38)]
theorem hT23 : Sound Try.prog (cxT T23) := Sound.cons s31 <| Sound.cons s39 Sound.nil
theorem w23 (s : Sh) (l : List Pt) (hs : Sh.pts s l) (hll : l.length ≤ 1000000) : FTL Try.prog 23 [s.v 0] (s.h 0) 1 (lineV l) (s.h 0) 1 := by
  refine FTL.of_iw hT23 mo Try.func23 i23_eq (by simp [i23]) (iw_of_jw ?_)
  dsimp only [i23, T23]
  have hrd := rd_pts hs
  have hp := hs.pl
  have hln := hs.ln
  have hld : decide (l.length ≤ 1000000000000) = true := decide_eq_true (by omega)
  have hR := lineOK_R l
  by_cases h2 : l.length < 2
  · have hv : lineV l = .tup [.i .i64 0, .i .i64 0, .i .i64 291] := by
      unfold lineV; rw [if_neg]; simp only [lineOK, Bool.and_eq_true, decide_eq_true_eq]; omega
    have c2 : decide ((l.length : Int) < 2) = true := decide_eq_true (by omega)
    rw [hv]
    simp (config := { maxSteps := 400000 }) only [go_sem, hln, c2, ↓reduceIte, beq_self_eq_true, bne_self_eq_false, Int.reduceAdd, Int.reduceSub, Int.reduceMul, Int.reduceNeg, Int.reduceEq, Int.reduceNe, Int.cast_ofNat_Int, Int.lt_irrefl, Int.le_refl, Nat.reduceEqDiff, Nat.reduceLeDiff, Nat.reduceLT, Int.reducePow, IntKind.bits, Nat.reduceAdd, Nat.reduceMul, Nat.reduceSub, Int.reduceBNe, Int.reduceBEq, Int.reduceLE, Int.reduceLT, Int.reduceToNat, reduceCtorEq, Nat.zero_ne_one, Nat.one_ne_zero, and_self, and_true, true_and, Option.getD_some, Option.isSome_some, wrapL, gt_iff_lt, ge_iff_le, Int.toNat_natCast, Nat.sub_zero, ite_self, spB_TT, Nat.zero_add, Nat.add_zero]
    exact Ends.s1 hp rfl rfl (by simp [hasS_cons, hasS_hit, hasS_hit0])
  · have hne : s ≠ .nil := hs.ne (by rintro rfl; simp at h2)
    obtain ⟨hrow, hx, hy⟩ := at_of (hs.cells hne).1
    have x0 := hx 0 (by omega)
    have xl := hx (l.length - 1) (by omega)
    rw [Nat.zero_mul, Nat.add_zero] at x0
    have hsp := slParts_v (b := 0) hne
    have hga : ∀ r, hget (s.h 0 ++ r) 0 = some s.blk := fun r => hget_at hne
    have hga0 : hget (s.h 0) 0 = some s.blk := hget_at0 hne
    have c2 : decide ((l.length : Int) < 2) = false := decide_eq_false (by omega)
    have c0 : decide ((0 : Int) < (l.length : Int)) = true := decide_eq_true (by omega)
    have q2 : IntKind.i64.wrap ((l.length : Int) - 1) = ((l.length - 1 : Nat) : Int) := by rw [wrapL (by omega) (by omega)]; omega
    have c3 : decide (0 ≤ ((l.length - 1 : Nat) : Int) ∧ ((l.length - 1 : Nat) : Int) < (l.length : Int)) = true := decide_eq_true (by omega)
    cases hB : ptsR l with
    | false =>
      have hv : lineV l = .tup [.i .i64 0, .i .i64 0, .i .i64 291] := by
        unfold lineV; rw [if_neg]; simp [hR, hB]
      rw [hv]
      simp (config := { maxSteps := 400000 }) only [go_sem, hln, c2, k31, hrd, hld, hB, ↓reduceIte, beq_self_eq_true, bne_self_eq_false, Int.reduceAdd, Int.reduceSub, Int.reduceMul, Int.reduceNeg, Int.reduceEq, Int.reduceNe, Int.cast_ofNat_Int, Int.lt_irrefl, Int.le_refl, Nat.reduceEqDiff, Nat.reduceLeDiff, Nat.reduceLT, Int.reducePow, IntKind.bits, Nat.reduceAdd, Nat.reduceMul, Nat.reduceSub, Int.reduceBNe, Int.reduceBEq, Int.reduceLE, Int.reduceLT, Int.reduceToNat, reduceCtorEq, Nat.zero_ne_one, Nat.one_ne_zero, and_self, and_true, true_and, Option.getD_some, Option.isSome_some, wrapL, gt_iff_lt, ge_iff_le, Int.toNat_natCast, Nat.sub_zero, ite_self, spB_TT, Nat.zero_add, Nat.add_zero]
      exact Ends.s1 hp rfl rfl (by simp [hasS_cons, hasS_hit, hasS_hit0])
    | true =>
      cases hI : pX l 0 == pX l (l.length - 1) with
      | true =>
        have hv : lineV l = .tup [.i .i64 0, .i .i64 0, .i .i64 291] := by
          unfold lineV; rw [if_neg]; simp [hR, hB, hI]
        rw [hv]
        simp (config := { maxSteps := 400000 }) only [go_sem, hln, c2, k31, hrd, hld, hB, c0, c3, q2, x0, xl, hsp, hga, hga0, hI, ↓reduceIte, beq_self_eq_true, bne_self_eq_false, Int.reduceAdd, Int.reduceSub, Int.reduceMul, Int.reduceNeg, Int.reduceEq, Int.reduceNe, Int.cast_ofNat_Int, Int.lt_irrefl, Int.le_refl, Nat.reduceEqDiff, Nat.reduceLeDiff, Nat.reduceLT, Int.reducePow, IntKind.bits, Nat.reduceAdd, Nat.reduceMul, Nat.reduceSub, Int.reduceBNe, Int.reduceBEq, Int.reduceLE, Int.reduceLT, Int.reduceToNat, reduceCtorEq, Nat.zero_ne_one, Nat.one_ne_zero, and_self, and_true, true_and, Option.getD_some, Option.isSome_some, wrapL, gt_iff_lt, ge_iff_le, Int.toNat_natCast, Nat.sub_zero, ite_self, spB_TT, Nat.zero_add, Nat.add_zero]
        exact Ends.s1 hp rfl rfl (by simp [hasS_cons, hasS_hit, hasS_hit0])
      | false =>
        have hO : lineOK l = true := by simp [hR, hB, hI]; omega
        have hN := near_line hO
        have hv : lineV l = .tup [.i .i64 (lineN l), .i .i64 (lineD l), .i .i64 0] := by
          unfold lineV; rw [if_pos hO]
        rw [hv]
        simp (config := { maxSteps := 400000 }) only [go_sem, hln, c2, k31, k38, hrd, hld, hB, hN, c0, c3, q2, x0, xl, hsp, hga, hga0, hI, ↓reduceIte, beq_self_eq_true, bne_self_eq_false, Int.reduceAdd, Int.reduceSub, Int.reduceMul, Int.reduceNeg, Int.reduceEq, Int.reduceNe, Int.cast_ofNat_Int, Int.lt_irrefl, Int.le_refl, Nat.reduceEqDiff, Nat.reduceLeDiff, Nat.reduceLT, Int.reducePow, IntKind.bits, Nat.reduceAdd, Nat.reduceMul, Nat.reduceSub, Int.reduceBNe, Int.reduceBEq, Int.reduceLE, Int.reduceLT, Int.reduceToNat, reduceCtorEq, Nat.zero_ne_one, Nat.one_ne_zero, and_self, and_true, true_and, Option.getD_some, Option.isSome_some, wrapL, gt_iff_lt, ge_iff_le, Int.toNat_natCast, Nat.sub_zero, ite_self, spB_TT, Nat.zero_add, Nat.add_zero]
        exact Ends.s1 hp rfl rfl (by simp [hasS_cons, hasS_hit, hasS_hit0])
theorem s23 : SoundAt Try.prog 23 k22 := fun args h n c E hc ht => by
  unfold k22 at hc
  split at hc
  · simp only [Option.bind_eq_some_iff] at hc
    obtain ⟨s, hs, l, hl, he⟩ := hc
    cases he
    have hp := pts_rd hl
    have := CallOK.sh1 (n := n) (A := fun b => [s.v b]) (by kernel_rfl) (by simp [belL, v_bel]) hs hp.pl (fun ψ => by simp [renL, v_ren]) (fun h0 i => by subst h0; rfl) (lineV_bel l) (w23 s l hp (of_decide_eq_true ht))
    rwa [← (shAt_inv hs).1] at this
  · cases hc
end Go.Proofs.Arr
