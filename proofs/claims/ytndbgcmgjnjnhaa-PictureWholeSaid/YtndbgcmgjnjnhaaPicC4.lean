/- Contracts of chapter 40: Put and Edit.Of. -/
import Derived.Test.YtndbgcmgjnjnhaaPicC3
namespace Go.Proofs.Pic
open Go.Ab
set_option maxRecDepth 100000
set_option maxHeartbeats 2000000
set_option linter.unusedSimpArgs false
set_option linter.unusedVariables false

def editS (a l : Int) (tx s : List UInt8) : List UInt8 := s.take a.toNat ++ tx.take 20 ++ s.drop (a + l).toNat
theorem edit_len {a l : Int} {tx s : List UInt8} : (editS a l tx s).length ≤ 2 * s.length + 20 := by
  simp only [editS, List.length_append, List.length_take, List.length_drop]; omega
theorem w19 (a l : Int) (tx s : List UInt8) (ha : 0 ≤ a ∧ a ≤ 65535) (hl : 0 ≤ l ∧ l ≤ 255) (hs : s.length ≤ 1000000) : FTL Try.prog 19 [.agg [.i .u16 a, .i .u8 l, .s tx], .s s] [] 0 (.s (editS a l tx s)) [] 0 := by
  refine FTL.of_iw Sound.nil mo Try.func19 i19_eq (by simp [i19]) (iw_of_jw ?_)
  dsimp only [i19]
  have e1 : IntKind.i64.wrap a = a := wrap64 _ (by omega) (by omega)
  have e2 : IntKind.i64.wrap l = l := wrap64 _ (by omega) (by omega)
  have e3 : IntKind.i64.wrap (min a s.length + l) = min a s.length + l := wrap64 _ (by omega) (by omega)
  simp only [go_sem, e1, e2, e3, ↓reduceIte, beq_self_eq_true, bne_self_eq_false, Int.reduceAdd, Int.reduceSub, Int.reduceMul, Int.reduceNeg, Int.reduceEq, Int.reduceNe, Int.cast_ofNat_Int, Int.lt_irrefl, Int.le_refl, Nat.reduceEqDiff, Nat.reduceLeDiff, Nat.reduceLT, Int.reducePow, IntKind.bits, Nat.reduceAdd, Nat.reduceMul, Nat.reduceSub, Int.reduceBNe, Int.reduceBEq, Int.reduceLE, Int.reduceLT, Int.reduceToNat, reduceCtorEq, Nat.zero_ne_one, Nat.one_ne_zero, and_self, and_true, true_and, Option.getD_some, Option.isSome_some]
  repeat' (first | refine spB_i (fun _ => ?_) (fun _ => ?_) | refine andB_i ?_ ?_)
  all_goals first
    | (refine Ends.pureE rfl (congrArg _ ?_)
       unfold editS
       congr 1
       · congr 1
         · by_cases h : a ≤ s.length
           · rw [Int.min_eq_left h]
           · rw [Int.min_eq_right (by omega), Int.toNat_natCast, List.take_of_length_le (i := a.toNat) (by omega), List.take_length]
         · by_cases h : tx.length ≤ 20
           · rw [Int.min_eq_left (by omega), Int.toNat_natCast, List.take_length, List.take_of_length_le h]
           · rw [Int.min_eq_right (by omega)]; rfl
       · by_cases h : a + l ≤ s.length
         · congr 1; omega
         · rw [List.drop_of_length_le (by omega), List.drop_of_length_le (by omega)])
    | (simp only [decide_eq_true_eq, List.length_append, List.length_take, List.length_drop]; omega)
def k19 : Ct
  | [.agg [.i .u16 a, .i .u8 l, .s tx], .s s], _, n => some (decide ((0 ≤ a ∧ a ≤ 65535) ∧ (0 ≤ l ∧ l ≤ 255) ∧ s.length ≤ 1000000), { v := .s (editS a l tx s), n })
  | _, _, _ => none
theorem s19 : SoundAt Try.prog 19 k19 := fun args h n c E hc ht => by
  unfold k19 at hc
  split at hc
  · cases hc
    simp only [decide_eq_true_eq] at ht
    exact CallOK.pure (by kernel_rfl) rfl rfl (w19 _ _ _ _ ht.1 ht.2.1 ht.2.2) _ _
  · cases hc
def T5 : List (Nat × Ct) := [(20, k20), (44, k44), (45, k45)]
theorem hT5 : Sound Try.prog (cxT T5) := Sound.cons s20 <| Sound.cons s44 <| Sound.cons s45 Sound.nil
def T6 : List (Nat × Ct) := [(21, k20), (17, k45)]
theorem hT6 : Sound Try.prog (cxT T6) := Sound.cons s21 <| Sound.cons s17 Sound.nil
def inR (i b : Int) : Bool := decide (0 ≤ i) && decide (i ≤ 32767) && (decide (0 ≤ b) && decide (b ≤ 255))
def putS (l : List UInt8) (i b : Int) : List UInt8 × Int :=
  if (dec l).2.2 != 0 then ([], (dec l).2.2) else if inR i b then ({ (dec l).1 with id := i, ba := b : Sh }.enc ++ (dec l).2.1, 0) else ([], 2)
theorem dec_ok {l : List UInt8} (h : (dec l).2.2 = 0) : (dec l).1.good = true ∧ (dec l).2.1.length ≤ l.length := by
  unfold dec at h ⊢
  split at h
  · split at h
    · rename_i hf
      simp only [fine, Bool.and_eq_true] at hf
      rw [if_pos (by simp only [fine, Bool.and_eq_true]; exact hf)]
      exact ⟨hf.2.2.2, by simp; omega⟩
    · cases h
  · cases h
theorem put_good {s : Sh} {i b : Int} (hs : s.good = true) (h : inR i b = true) : ({ s with id := i, ba := b : Sh }).good = true := by
  simp only [inR, Bool.and_eq_true, decide_eq_true_eq] at h
  rw [Sh.good_iff] at hs ⊢
  exact ⟨h.1.1, h.1.2, h.2.1, h.2.2, hs.2.2.2.2⟩
theorem enc_len {s : Sh} : s.enc.length = 5 := rfl
theorem w22 (l : List UInt8) (i b : Int) (hl : l.length ≤ 1000000000) : FTL Try.prog 22 [.s l, .i .i64 i, .i .i64 b] [] 0 (.tup [.s (putS l i b).1, .i .i64 (putS l i b).2]) [] 0 := by
  refine FTL.of_iw hT5 mo Try.func22 i22_eq (by simp [i22]) (iw_of_jw ?_)
  dsimp only [i22, T5]
  have hd := @dec_ok l
  have hg := @put_good (dec l).1 i b
  simp only [go_sem, k20, k44, k45, decV, Sh.l, ↓reduceIte, beq_self_eq_true, bne_self_eq_false, Int.reduceAdd, Int.reduceSub, Int.reduceMul, Int.reduceNeg, Int.reduceEq, Int.reduceNe, Int.cast_ofNat_Int, Int.lt_irrefl, Int.le_refl, Nat.reduceEqDiff, Nat.reduceLeDiff, Nat.reduceLT, Int.reducePow, IntKind.bits, Nat.reduceAdd, Nat.reduceMul, Nat.reduceSub, Int.reduceBNe, Int.reduceBEq, Int.reduceLE, Int.reduceLT, Int.reduceToNat, reduceCtorEq, Nat.zero_ne_one, Nat.one_ne_zero, and_self, and_true, true_and, Option.getD_some, Option.isSome_some]
  repeat' (first | refine spB_i (fun _ => ?_) (fun _ => ?_) | refine andB_i ?_ ?_)
  all_goals first
    | (refine Ends.pureE rfl ?_
       simp only [putS, inR]
       grind)
    | (simp only [inR, Sh.eta, enc_len] at *
       grind)
theorem w23 (l : List UInt8) (i b : Int) (hl : l.length ≤ 1000000000) : FTL Try.prog 23 [.s l, .i .i64 i, .i .i64 b] [] 0 (.tup [.s (putS l i b).1, .i .i64 (putS l i b).2]) [] 0 := by
  refine FTL.of_iw hT6 mo Try.func23 i23_eq (by simp [i23]) (iw_of_jw ?_)
  dsimp only [i23, T6]
  have hd := @dec_ok l
  have hg := @put_good (dec l).1 i b
  simp only [go_sem, k20, k44, k45, decV, Sh.l, ↓reduceIte, beq_self_eq_true, bne_self_eq_false, Int.reduceAdd, Int.reduceSub, Int.reduceMul, Int.reduceNeg, Int.reduceEq, Int.reduceNe, Int.cast_ofNat_Int, Int.lt_irrefl, Int.le_refl, Nat.reduceEqDiff, Nat.reduceLeDiff, Nat.reduceLT, Int.reducePow, IntKind.bits, Nat.reduceAdd, Nat.reduceMul, Nat.reduceSub, Int.reduceBNe, Int.reduceBEq, Int.reduceLE, Int.reduceLT, Int.reduceToNat, reduceCtorEq, Nat.zero_ne_one, Nat.one_ne_zero, and_self, and_true, true_and, Option.getD_some, Option.isSome_some]
  repeat' (first | refine spB_i (fun _ => ?_) (fun _ => ?_) | refine andB_i ?_ ?_)
  all_goals first
    | (refine Ends.pureE rfl ?_
       simp only [putS, inR]
       grind)
    | (simp only [inR, Sh.eta, enc_len] at *
       grind)
def k22 : Ct
  | [.s l, .i .i64 i, .i .i64 b], _, n => some (decide (l.length ≤ 1000000000), { v := .tup [.s (putS l i b).1, .i .i64 (putS l i b).2], n })
  | _, _, _ => none
theorem s22 : SoundAt Try.prog 22 k22 := fun args h n c E hc ht => by
  unfold k22 at hc
  split at hc
  · cases hc
    exact CallOK.pure (by kernel_rfl) rfl rfl (w22 _ _ _ (of_decide_eq_true ht)) _ _
  · cases hc
theorem s23 : SoundAt Try.prog 23 k22 := fun args h n c E hc ht => by
  unfold k22 at hc
  split at hc
  · cases hc
    exact CallOK.pure (by kernel_rfl) rfl rfl (w23 _ _ _ (of_decide_eq_true ht)) _ _
  · cases hc
end Go.Proofs.Pic
