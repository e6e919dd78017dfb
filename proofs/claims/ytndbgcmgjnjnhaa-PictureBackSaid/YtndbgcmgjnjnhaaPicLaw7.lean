/- PictureBack: the law function. -/
import Derived.Test.YtndbgcmgjnjnhaaPicP1
import Derived.Test.YtndbgcmgjnjnhaaPicIRL
namespace Go.Proofs.Pic
open Go.Ab
set_option maxRecDepth 100000
set_option maxHeartbeats 4000000
set_option linter.unusedSimpArgs false
set_option linter.unusedVariables false
def T7 : List (Nat × Ct) := [(12, k12), (15, k15), (18, k18), (19, k19), (20, k20), (22, k22)]
theorem hT7 : Sound Try.prog (cxT T7) := Sound.cons s12 <| Sound.cons s15 <| Sound.cons s18 <| Sound.cons s19 <| Sound.cons s20 <| Sound.cons s22 Sound.nil
attribute [local congr] spB_congrC andB_congrC
theorem w7 (f i b t s : Int) (rest : List UInt8) (xa xl : Int) (tx : List UInt8) (id ba : Int)
    (hi : 0 ≤ i ∧ i ≤ 65535) (hb : 0 ≤ b ∧ b ≤ 255) (ht : 0 ≤ t ∧ t ≤ 255) (hs : 0 ≤ s ∧ s ≤ 255) (hxa : 0 ≤ xa ∧ xa ≤ 65535) (hxl : 0 ≤ xl ∧ xl ≤ 255) (hid : 0 ≤ id ∧ id ≤ 65535) (hba : 0 ≤ ba ∧ ba ≤ 255) :
    FTL Try.prog 7 [.agg [.i .u8 f, .i .u16 i, .i .u8 b, .i .u8 t, .i .u8 s], .s rest, .agg [.i .u16 xa, .i .u8 xl, .s tx], .i .u16 id, .i .u8 ba] [] 5
    (.b true) [] 5 := by
  refine FTL.of_iw hT7 mo Try.func7 i7_eq (by simp [i7]) (iw_of_jw ?_)
  dsimp only [i7, T7]
  have hg := draft_good (f := f) hi hb ht hs
  generalize hs0 : draftS f i b t s = s0 at hg
  have hr : ((rest.take (min (rest.length : Int) 40).toNat)).length ≤ 40 := by rw [List.length_take]; omega
  have hc1 : decide (0 ≤ min (rest.length : Int) 40 ∧ min (rest.length : Int) 40 ≤ (rest.length : Int)) = true := decide_eq_true (by omega)
  generalize hr0 : rest.take (min (rest.length : Int) 40).toNat = r at hr
  have hid' : IntKind.i64.wrap (id.tmod 32768) = id % 32768 := by rw [Int.tmod_eq_emod_of_nonneg hid.1, wrap64 _ (by omega) (by omega)]
  have hba' : IntKind.i64.wrap ba = ba := wrap64 _ (by omega) (by omega)
  have hin : inR (id % 32768) ba = true := by simp only [inR, Bool.and_eq_true, decide_eq_true_eq]; omega
  have hg2 := put_good hg hin
  have d1 := dec_enc hg r
  have d2 := put_enc hg r hin
  have d3 := dec_enc hg2 r
  have hl : (s0.enc ++ r).length ≤ 45 := by simp [enc_len]; omega
  have hl2 : ({ s0 with id := id % 32768, ba := ba : Sh }.enc ++ r).length = (s0.enc ++ r).length := by simp [enc_len]
  have hl3 : decide (s0.enc.length + r.length ≤ 9223372036854775807) = true := decide_eq_true (by rw [enc_len]; omega)
  have hl4 : decide ((s0.enc ++ r).length ≤ 1000000000) = true := decide_eq_true (by omega)
  have hl5 : decide ((0 ≤ xa ∧ xa ≤ 65535) ∧ (0 ≤ xl ∧ xl ≤ 255) ∧ (s0.enc ++ r).length ≤ 1000000) = true := decide_eq_true ⟨hxa, hxl, by omega⟩
  have hl6 : IntKind.i64.wrap (5 + (r.length : Int)) = (((s0.enc ++ r).length : Nat) : Int) := by rw [List.length_append, wrap64 _ (by omega) (by omega), enc_len]; omega
  have hl7 : (s0.enc.length : Int) = 5 := rfl
  have herr := dec_err (editS xa xl tx (s0.enc ++ r))
  have hok := @dec_ok (editS xa xl tx (s0.enc ++ r))
  have hback := @enc_dec (editS xa xl tx (s0.enc ++ r))
  have hlen := @edit_len xa xl tx (s0.enc ++ r)
  generalize hy0 : editS xa xl tx (s0.enc ++ r) = y at herr hok hback hlen
  generalize hy1 : dec y = z at herr hok hback
  rcases herr with h | ⟨h, h2, h3⟩ | ⟨h, h2, h3⟩
  · have hz := hback h
    have hgz := (hok h).1
    have hlz : decide (z.1.enc.length + z.2.1.length ≤ 9223372036854775807) = true := decide_eq_true (by rw [← List.length_append, hz]; omega)
    simp only [go_sem, k12, k15, k18, k19, k20, k22, Sh.l, Sh.eta, hg, hs0, hc1, decV, d1, hid', hba', d2, d3, hl2, hr0, hl3, hl4, hl5, hy0, hy1, hl6, hl7, h, hz, hgz, hlz, ↓reduceIte, beq_self_eq_true, bne_self_eq_false, Int.reduceAdd, Int.reduceSub, Int.reduceMul, Int.reduceNeg, Int.reduceEq, Int.reduceNe, Int.cast_ofNat_Int, Int.lt_irrefl, Int.le_refl, Nat.reduceEqDiff, Nat.reduceLeDiff, Nat.reduceLT, Int.reducePow, IntKind.bits, Nat.reduceAdd, Nat.reduceMul, Nat.reduceSub, Int.reduceBNe, Int.reduceBEq, Int.reduceLE, Int.reduceLT, Int.reduceToNat, reduceCtorEq, Nat.zero_ne_one, Nat.one_ne_zero, and_self, and_true, true_and, Option.getD_some, Option.isSome_some]
    exact Ends.pure rfl
  · simp only [go_sem, k12, k15, k18, k19, k20, k22, Sh.l, Sh.eta, hg, hs0, hc1, decV, d1, hid', hba', d2, d3, hl2, hr0, hl3, hl4, hl5, hy0, hy1, hl6, hl7, h, h2, h3, zSh, ↓reduceIte, beq_self_eq_true, bne_self_eq_false, Int.reduceAdd, Int.reduceSub, Int.reduceMul, Int.reduceNeg, Int.reduceEq, Int.reduceNe, Int.cast_ofNat_Int, Int.lt_irrefl, Int.le_refl, Nat.reduceEqDiff, Nat.reduceLeDiff, Nat.reduceLT, Int.reducePow, IntKind.bits, Nat.reduceAdd, Nat.reduceMul, Nat.reduceSub, Int.reduceBNe, Int.reduceBEq, Int.reduceLE, Int.reduceLT, Int.reduceToNat, reduceCtorEq, Nat.zero_ne_one, Nat.one_ne_zero, and_self, and_true, true_and, Option.getD_some, Option.isSome_some]
    exact Ends.pure rfl
  · simp only [go_sem, k12, k15, k18, k19, k20, k22, Sh.l, Sh.eta, hg, hs0, hc1, decV, d1, hid', hba', d2, d3, hl2, hr0, hl3, hl4, hl5, hy0, hy1, hl6, hl7, h, h2, h3, zSh, ↓reduceIte, beq_self_eq_true, bne_self_eq_false, Int.reduceAdd, Int.reduceSub, Int.reduceMul, Int.reduceNeg, Int.reduceEq, Int.reduceNe, Int.cast_ofNat_Int, Int.lt_irrefl, Int.le_refl, Nat.reduceEqDiff, Nat.reduceLeDiff, Nat.reduceLT, Int.reducePow, IntKind.bits, Nat.reduceAdd, Nat.reduceMul, Nat.reduceSub, Int.reduceBNe, Int.reduceBEq, Int.reduceLE, Int.reduceLT, Int.reduceToNat, reduceCtorEq, Nat.zero_ne_one, Nat.one_ne_zero, and_self, and_true, true_and, Option.getD_some, Option.isSome_some]
    exact Ends.pure rfl
end Go.Proofs.Pic
