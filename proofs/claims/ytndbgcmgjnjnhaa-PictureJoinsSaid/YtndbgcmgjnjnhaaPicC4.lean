/- Contracts of chapter 40: Put and Edit.Of. -/
import Derived.Test.YtndbgcmgjnjnhaaPicC3
namespace Go.Proofs.Pic
open Go.Ab
set_option maxRecDepth 100000
set_option maxHeartbeats 2000000
set_option linter.unusedSimpArgs false
set_option linter.unusedVariables false
def editS (a l : Int) (tx s : List UInt8) : List UInt8 := s.take a.toNat ++ tx.take 20 ++ s.drop (a + l).toNat
theorem edit_len {a l : Int} {tx s : List UInt8} : (editS a l tx s).length ≤ 2 * s.length + 20 := by
 simp only [editS, List.length_append, List.length_take, List.length_drop]; omega
theorem w19 (a l : Int) (tx s : List UInt8) (ha : 0 ≤ a ∧ a ≤ 65535) (hl : 0 ≤ l ∧ l ≤ 255) (hs : s.length ≤ 1000000) : FTL Try.prog 19 [.agg [.i .u16 a, .i .u8 l, .s tx], .s s] [] 0 (.s (editS a l tx s)) [] 0 := by
 refine FTL.of_iw Sound.nil mo Try.func19 i19_eq (by simp [i19]) (iw_of_jw ?_)
 dsimp only [i19]
 have e1 : IntKind.i64.wrap a = a := wrap64 _ (by omega) (by omega)
 have e2 : IntKind.i64.wrap l = l := wrap64 _ (by omega) (by omega)
 have e3 : IntKind.i64.wrap (min a s.length + l) = min a s.length + l := wrap64 _ (by omega) (by omega)
 simp only [go_sem, e1, e2, e3, ↓reduceIte, beq_self_eq_true, bne_self_eq_false, Int.reduceAdd, Int.reduceSub, Int.reduceMul, Int.reduceNeg, Int.reduceEq, Int.reduceNe, Int.cast_ofNat_Int, Int.lt_irrefl, Int.le_refl, Nat.reduceEqDiff, Nat.reduceLeDiff, Nat.reduceLT, Int.reducePow, IntKind.bits, Nat.reduceAdd, Nat.reduceMul, Nat.reduceSub, Int.reduceBNe, Int.reduceBEq, Int.reduceLE, Int.reduceLT, Int.reduceToNat, reduceCtorEq, Nat.zero_ne_one, Nat.one_ne_zero, and_self, and_true, true_and, Option.getD_some, Option.isSome_some]
 repeat' (first | refine spB_i (fun _ => ?_) (fun _ => ?_) | refine andB_i ?_ ?_)
 all_goals first
  | (refine Ends.pureE rfl (congrArg _ ?_)
     unfold editS
     congr 1
     · congr 1
       · by_cases h : a ≤ s.length
         · rw [Int.min_eq_left h]
         · rw [Int.min_eq_right (by omega), Int.toNat_natCast, List.take_of_length_le (i := a.toNat) (by omega), List.take_length]
       · by_cases h : tx.length ≤ 20
         · rw [Int.min_eq_left (by omega), Int.toNat_natCast, List.take_length, List.take_of_length_le h]
         · rw [Int.min_eq_right (by omega)]; rfl
     · by_cases h : a + l ≤ s.length
       · congr 1; omega
       · rw [List.drop_of_length_le (by omega), List.drop_of_length_le (by omega)])
  | (simp only [decide_eq_true_eq, List.length_append, List.length_take, List.length_drop]; omega)
def k19 : Ct
 | [.agg [.i .u16 a, .i .u8 l, .s tx], .s s], _, n => some (decide ((0 ≤ a ∧ a ≤ 65535) ∧ (0 ≤ l ∧ l ≤ 255) ∧ s.length ≤ 1000000), { v := .s (editS a l tx s), n })
 | _, _, _ => none
theorem s19 : SoundAt Try.prog 19 k19 := fun args h n c E hc ht => by
 unfold k19 at hc
 split at hc
 · cases hc
   simp only [decide_eq_true_eq] at ht
   exact CallOK.pure (by kernel_rfl) rfl rfl (w19 _ _ _ _ ht.1 ht.2.1 ht.2.2) _ _
 · cases hc
def inR (i b : Int) : Bool := decide (0 ≤ i) && decide (i ≤ 32767) && (decide (0 ≤ b) && decide (b ≤ 255))
end Go.Proofs.Pic
