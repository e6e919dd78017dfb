/- PictureReads: the law function. -/
import Derived.Test.YtndbgcmgjnjnhaaPicP1
import Derived.Test.YtndbgcmgjnjnhaaPicIRL
import Derived.Test.YtndbgcmgjnjnhaaAbLoop
namespace Go.Proofs.Pic
open Go.Ab
set_option maxRecDepth 100000
set_option maxHeartbeats 4000000
set_option linter.unusedSimpArgs false
set_option linter.unusedVariables false
def T8 : List (Nat × Ct) := [(12, k12), (17, k45), (18, k18), (19, k19), (20, k20), (21, k20), (22, k22), (23, k22)]
theorem hT8 : Sound Try.prog (cxT T8) := Sound.cons s12 <| Sound.cons s17 <| Sound.cons s18 <| Sound.cons s19 <| Sound.cons s20 <| Sound.cons s21 <| Sound.cons s22 <| Sound.cons s23 Sound.nil
theorem wl1 : IntKind.i64.wrap 1 = 1 := rfl
theorem wl2 : IntKind.i64.wrap 2 = 2 := rfl
attribute [local congr] spB_congrC andB_congrC
theorem w4 (f i b t s : Int) (rest : List UInt8) (xa xl : Int) (tx : List UInt8) (ya yl : Int) (ty : List UInt8) (raw : List UInt8) (m0 m1 : Int)
    (hi : 0 ≤ i ∧ i ≤ 65535) (hb : 0 ≤ b ∧ b ≤ 255) (ht : 0 ≤ t ∧ t ≤ 255) (hs : 0 ≤ s ∧ s ≤ 255) (hxa : 0 ≤ xa ∧ xa ≤ 65535) (hxl : 0 ≤ xl ∧ xl ≤ 255) (hya : 0 ≤ ya ∧ ya ≤ 65535) (hyl : 0 ≤ yl ∧ yl ≤ 255) :
    FTL Try.prog 4 [.agg [.i .u8 f, .i .u16 i, .i .u8 b, .i .u8 t, .i .u8 s], .s rest, .agg [.i .u16 xa, .i .u8 xl, .s tx], .agg [.i .u16 ya, .i .u8 yl, .s ty], .s raw, .agg [.i .i64 m0, .i .i64 m1]] [] 6
    (.b true) [] 6 := by
  refine FTL.of_iw hT8 mo Try.func4 i4_eq (by simp [i4]) (iw_of_jw ?_)
  dsimp only [i4, T8]
  have hg := draft_good (f := f) hi hb ht hs
  generalize hs0 : draftS f i b t s = s0 at hg
  have hr : ((rest.take (min (rest.length : Int) 40).toNat)).length ≤ 40 := by rw [List.length_take]; omega
  have hc1 : decide (0 ≤ min (rest.length : Int) 40 ∧ min (rest.length : Int) 40 ≤ (rest.length : Int)) = true := decide_eq_true (by omega)
  generalize hr0 : rest.take (min (rest.length : Int) 40).toNat = r at hr
  have hq : ((raw.take (min (raw.length : Int) 40).toNat)).length ≤ 40 := by rw [List.length_take]; omega
  have hc2 : decide (0 ≤ min (raw.length : Int) 40 ∧ min (raw.length : Int) 40 ≤ (raw.length : Int)) = true := decide_eq_true (by omega)
  generalize hq0 : raw.take (min (raw.length : Int) 40).toNat = q at hq
  have hl : (s0.enc ++ r).length ≤ 45 := by simp [enc_len]; omega
  have hl3 : decide (s0.enc.length + r.length ≤ 9223372036854775807) = true := decide_eq_true (by rw [enc_len]; omega)
  have hl5 : decide ((0 ≤ xa ∧ xa ≤ 65535) ∧ (0 ≤ xl ∧ xl ≤ 255) ∧ (s0.enc ++ r).length ≤ 1000000) = true := decide_eq_true ⟨hxa, hxl, by omega⟩
  have hlen := @edit_len xa xl tx (s0.enc ++ r)
  have hl6 : decide ((0 ≤ ya ∧ ya ≤ 65535) ∧ (0 ≤ yl ∧ yl ≤ 255) ∧ (editS xa xl tx (s0.enc ++ r)).length ≤ 1000000) = true := decide_eq_true ⟨hya, hyl, by omega⟩
  have hlen2 := @edit_len ya yl ty (editS xa xl tx (s0.enc ++ r))
  simp only [go_sem, k12, k18, k19, k45, hg, hs0, hc1, hc2, hr0, hq0, hl3, hl5, hl6, Sh.l, Sh.eta, ↓reduceIte, beq_self_eq_true, bne_self_eq_false, Int.reduceAdd, Int.reduceSub, Int.reduceMul, Int.reduceNeg, Int.reduceEq, Int.reduceNe, Int.cast_ofNat_Int, Int.lt_irrefl, Int.le_refl, Nat.reduceEqDiff, Nat.reduceLeDiff, Nat.reduceLT, Int.reducePow, IntKind.bits, Nat.reduceAdd, Nat.reduceMul, Nat.reduceSub, Int.reduceBNe, Int.reduceBEq, Int.reduceLE, Int.reduceLT, Int.reduceToNat, reduceCtorEq, Nat.zero_ne_one, Nat.one_ne_zero, and_self, and_true, true_and, Option.getD_some, Option.isSome_some]
  generalize hy0 : editS xa xl tx (s0.enc ++ r) = y at *
  generalize hz0 : editS ya yl ty y = z at *
  generalize ho0 : s0.enc ++ r = o at *
  have hL : ∀ k : Nat, k < 4 → ∃ l : List UInt8, [AV.s o, AV.s y, AV.s z, AV.s q][k]? = some (.s l) ∧ l.length ≤ 1000000000 := fun k hk => by
    match k, hk with
    | 0, _ => exact ⟨o, rfl, by omega⟩
    | 1, _ => exact ⟨y, rfl, by omega⟩
    | 2, _ => exact ⟨z, rfl, by omega⟩
    | 3, _ => exact ⟨q, rfl, by omega⟩
  have hLb : belL 10 [AV.s o, AV.s y, AV.s z, AV.s q] = true := rfl
  generalize [AV.s o, AV.s y, AV.s z, AV.s q] = L at hL hLb ⊢
  refine Loop.count (F := ⟨Try.prog, cxT T8, [53, 79, 90, 117], 121, 6⟩) hT8 mo 4
    (fun k => [(52, .i .i64 (k : Int)), (51, .agg L), (6, .p 6 0), (11, .p 9 0), (12, .b false)])
    (fun _ => [(9, { cells := [AV.i IntKind.i64 m0, AV.i IntKind.i64 m1] }), (6, { cells := [AV.i IntKind.u8 f, AV.i IntKind.u16 i, AV.i IntKind.u8 b, AV.i IntKind.u8 t, AV.i IntKind.u8 s] })]) 10 (by decide) ?_ ?_ (fun k hk => ?_)
  · simp only [go_sem, AV.bel, belL, hLb, nblt, ↓reduceIte, beq_self_eq_true, bne_self_eq_false, Int.reduceAdd, Int.reduceSub, Int.reduceMul, Int.reduceNeg, Int.reduceEq, Int.reduceNe, Int.cast_ofNat_Int, Int.lt_irrefl, Int.le_refl, Nat.reduceEqDiff, Nat.reduceLeDiff, Nat.reduceLT, Int.reducePow, IntKind.bits, Nat.reduceAdd, Nat.reduceMul, Nat.reduceSub, Int.reduceBNe, Int.reduceBEq, Int.reduceLE, Int.reduceLT, Int.reduceToNat, reduceCtorEq, Nat.zero_ne_one, Nat.one_ne_zero, and_self, and_true, true_and, Option.getD_some, Option.isSome_some]
  · simp only [go_sem, AV.bel, belL, hLb, nblt, ↓reduceIte, beq_self_eq_true, bne_self_eq_false, Int.reduceAdd, Int.reduceSub, Int.reduceMul, Int.reduceNeg, Int.reduceEq, Int.reduceNe, Int.cast_ofNat_Int, Int.lt_irrefl, Int.le_refl, Nat.reduceEqDiff, Nat.reduceLeDiff, Nat.reduceLT, Int.reducePow, IntKind.bits, Nat.reduceAdd, Nat.reduceMul, Nat.reduceSub, Int.reduceBNe, Int.reduceBEq, Int.reduceLE, Int.reduceLT, Int.reduceToNat, reduceCtorEq, Nat.zero_ne_one, Nat.one_ne_zero, and_self, and_true, true_and, Option.getD_some, Option.isSome_some]
  · dsimp only [T8]
    by_cases h4 : k < 4
    · obtain ⟨l, hl1, hl2⟩ := hL k h4
      have c1 : decide ((k : Int) < 4) = true := decide_eq_true (by omega)
      have c2 : decide (0 ≤ (k : Int) ∧ (k : Int) < 4) = true := decide_eq_true (by omega)
      have c3 : decide (l.length ≤ 1000000000) = true := decide_eq_true hl2
      simp only [go_sem, c1, c2, c3, hl1, Int.toNat_natCast, Nat.mul_one, k20, k22, decV, Sh.l, ↓reduceIte, beq_self_eq_true, bne_self_eq_false, Int.reduceAdd, Int.reduceSub, Int.reduceMul, Int.reduceNeg, Int.reduceEq, Int.reduceNe, Int.cast_ofNat_Int, Int.lt_irrefl, Int.le_refl, Nat.reduceEqDiff, Nat.reduceLeDiff, Nat.reduceLT, Int.reducePow, IntKind.bits, Nat.reduceAdd, Nat.reduceMul, Nat.reduceSub, Int.reduceBNe, Int.reduceBEq, Int.reduceLE, Int.reduceLT, Int.reduceToNat, reduceCtorEq, Nat.zero_ne_one, Nat.one_ne_zero, and_self, and_true, true_and, Option.getD_some, Option.isSome_some]
      refine Loop.rounds (F := ⟨Try.prog, cxT T8, [53, 79, 90, 117], 121, 6⟩) 3 hT8 mo ?_
      dsimp only [T8]
      have hw : IntKind.i64.wrap ((k : Int) + 1) = ((k + 1 : Nat) : Int) := by rw [wrap64 _ (by omega) (by omega)]; omega
      simp only [go_sem, c3, k22, hw, h4, AV.bel, belL, hLb, nblt, wl1, wl2, ↓reduceIte, beq_self_eq_true, bne_self_eq_false, Int.reduceAdd, Int.reduceSub, Int.reduceMul, Int.reduceNeg, Int.reduceEq, Int.reduceNe, Int.cast_ofNat_Int, Int.lt_irrefl, Int.le_refl, Nat.reduceEqDiff, Nat.reduceLeDiff, Nat.reduceLT, Int.reducePow, IntKind.bits, Nat.reduceAdd, Nat.reduceMul, Nat.reduceSub, Int.reduceBNe, Int.reduceBEq, Int.reduceLE, Int.reduceLT, Int.reduceToNat, reduceCtorEq, Nat.zero_ne_one, Nat.one_ne_zero, and_self, and_true, true_and, Option.getD_some, Option.isSome_some]
    · have c1 : decide ((k : Int) < 4) = false := decide_eq_false (by omega)
      simp only [go_sem, c1, k18, ↓reduceIte, beq_self_eq_true, bne_self_eq_false, Int.reduceAdd, Int.reduceSub, Int.reduceMul, Int.reduceNeg, Int.reduceEq, Int.reduceNe, Int.cast_ofNat_Int, Int.lt_irrefl, Int.le_refl, Nat.reduceEqDiff, Nat.reduceLeDiff, Nat.reduceLT, Int.reducePow, IntKind.bits, Nat.reduceAdd, Nat.reduceMul, Nat.reduceSub, Int.reduceBNe, Int.reduceBEq, Int.reduceLE, Int.reduceLT, Int.reduceToNat, reduceCtorEq, Nat.zero_ne_one, Nat.one_ne_zero, and_self, and_true, true_and, Option.getD_some, Option.isSome_some]
      exact Ends.pure rfl
end Go.Proofs.Pic
