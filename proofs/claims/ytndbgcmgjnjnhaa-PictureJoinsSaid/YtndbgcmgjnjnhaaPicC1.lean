/- Contracts of small functions of chapter 40. -/
import Derived.Test.YtndbgcmgjnjnhaaPicWorks
import Derived.Test.YtndbgcmgjnjnhaaAbExecs
namespace Go.Proofs.Pic
open Go.Ab
set_option maxRecDepth 100000
set_option maxHeartbeats 2000000
set_option linter.unusedSimpArgs false
set_option linter.unusedVariables false
structure Sh where
 st : Bool
 ky : Bool
 sy : Bool
 la : Bool
 id : Int
 ba : Int
 te : Int
 sp : Int
def Sh.l (s : Sh) : List AV := [.b s.st, .b s.ky, .b s.sy, .b s.la, .i .i64 s.id, .i .i64 s.ba, .i .i64 s.te, .i .i64 s.sp]
def Sh.good (s : Sh) : Bool := decide (0 ≤ s.id) && decide (s.id ≤ 32767) && decide (0 ≤ s.ba) && decide (s.ba ≤ 255) && decide (0 ≤ s.te) && decide (s.te ≤ 3) && decide (0 ≤ s.sp) && decide (s.sp ≤ 2) && !(s.ky && decide (s.te > 0)) && !(s.sy && (s.te == 0))
theorem w44 (a b : Int) : FTL Try.prog 44 [.i .i64 a, .i .i64 b] [] 0 (.b (decide (0 ≤ b) && decide (b ≤ a))) [] 0 := by
 refine FTL.of_iw Sound.nil mo Try.func44 i44_eq (by simp [i44]) (iw_of_jw ?_)
 dsimp only [i44]
 simp only [go_sem, ↓reduceIte, Nat.reduceEqDiff, Nat.reduceLeDiff, Nat.reduceLT, Int.reducePow, IntKind.bits, Nat.reduceAdd, Nat.reduceMul, Nat.reduceSub, Int.reduceBNe, Int.reduceBEq, Int.reduceLE, Int.reduceLT, Int.reduceToNat, reduceCtorEq, Nat.zero_ne_one, Nat.one_ne_zero, and_self, and_true, true_and]
 repeat' (first | refine spB_i (fun _ => ?_) (fun _ => ?_) | refine andB_i ?_ ?_)
 all_goals (refine Ends.pureE rfl (congrArg _ ?_); simp at *; omega)
def k44 : Ct
 | [.i .i64 a, .i .i64 b], _, n => some (true, { v := .b (decide (0 ≤ b) && decide (b ≤ a)), n })
 | _, _, _ => none
theorem s44 : SoundAt Try.prog 44 k44 := fun args h n c E hc _ => by
 unfold k44 at hc
 split at hc
 · cases hc; exact CallOK.pure (by kernel_rfl) rfl rfl (w44 _ _) _ _
 · cases hc
def T1 : List (Nat × Ct) := [(44, k44)]
theorem hT1 : Sound Try.prog (cxT T1) := Sound.cons s44 Sound.nil
theorem w14 (st ky sy la : Bool) (id ba te sp : Int) : FTL Try.prog 14 [.agg [.b st, .b ky, .b sy, .b la, .i .i64 id, .i .i64 ba, .i .i64 te, .i .i64 sp]] [] 0
 (.i .i64 (if (Sh.mk st ky sy la id ba te sp).good then 0 else 400)) [] 0 := by
 refine FTL.of_iw hT1 mo Try.func14 i14_eq (by simp [i14]) (iw_of_jw ?_)
 dsimp only [i14, T1]
 simp only [go_sem, k44, ↓reduceIte, Nat.reduceEqDiff, Nat.reduceLeDiff, Nat.reduceLT, Int.reducePow, IntKind.bits, Nat.reduceAdd, Nat.reduceMul, Nat.reduceSub, Int.reduceBNe, Int.reduceBEq, Int.reduceLE, Int.reduceLT, Int.reduceToNat, reduceCtorEq, Nat.zero_ne_one, Nat.one_ne_zero, and_self, and_true, true_and]
 repeat' (first | refine spB_i (fun _ => ?_) (fun _ => ?_) | refine andB_i ?_ ?_)
 all_goals (refine Ends.pureE rfl (congrArg _ ?_); simp only [Sh.good]; grind)
theorem w16 (st ky sy la : Bool) (id ba te sp : Int) : FTL Try.prog 16 [.agg [.b st, .b ky, .b sy, .b la, .i .i64 id, .i .i64 ba, .i .i64 te, .i .i64 sp]] [] 0
 (.b (Sh.mk st ky sy la id ba te sp).good) [] 0 := by
 refine FTL.of_iw hT1 mo Try.func16 i16_eq (by simp [i16]) (iw_of_jw ?_)
 dsimp only [i16, T1]
 simp only [go_sem, k44, ↓reduceIte, Nat.reduceEqDiff, Nat.reduceLeDiff, Nat.reduceLT, Int.reducePow, IntKind.bits, Nat.reduceAdd, Nat.reduceMul, Nat.reduceSub, Int.reduceBNe, Int.reduceBEq, Int.reduceLE, Int.reduceLT, Int.reduceToNat, reduceCtorEq, Nat.zero_ne_one, Nat.one_ne_zero, and_self, and_true, true_and]
 repeat' (first | refine spB_i (fun _ => ?_) (fun _ => ?_) | refine andB_i ?_ ?_)
 all_goals (refine Ends.pureE rfl (congrArg _ ?_); simp only [Sh.good]; grind)
theorem bits_run (a b c d : Bool) : ∃ n', xFn (xrun [] 300) i66 [.sl 0 0 8 8] [(0, { cells := [.b true, .b a, .b b, .b c, .b d, .b false, .b false, .b false] })] 1 =
 some (.i .u8 (128 + (if a then 64 else 0) + (if b then 32 else 0) + (if c then 16 else 0) + (if d then 8 else 0)), [(0, { cells := [.b true, .b a, .b b, .b c, .b d, .b false, .b false, .b false] })], n') := by
 cases a <;> cases b <;> cases c <;> cases d <;> exact ⟨1, by kernel_rfl⟩
def bit (m f : Int) : Bool := andI .u8 f m == m
def draftS (f i b t s : Int) : Sh where
 st := bit 1 f
 ky := if IntKind.i64.wrap (t.tmod 4) == 0 then bit 4 f else false
 sy := if IntKind.i64.wrap (t.tmod 4) == 0 then false else bit 8 f
 la := bit 2 f
 id := IntKind.i64.wrap (i.tmod 32768)
 ba := IntKind.i64.wrap b
 te := IntKind.i64.wrap (t.tmod 4)
 sp := IntKind.i64.wrap (s.tmod 3)
theorem w12 (f i b t s : Int) : FTL Try.prog 12 [.agg [.i .u8 f, .i .u16 i, .i .u8 b, .i .u8 t, .i .u8 s]] [] 0 (.agg (draftS f i b t s).l) [] 0 := by
 refine FTL.of_iw hT1 mo Try.func12 i12_eq (by simp [i12]) (iw_of_jw ?_)
 dsimp only [i12, T1]
 simp only [go_sem, k44, ↓reduceIte, Nat.reduceEqDiff, Nat.reduceLeDiff, Nat.reduceLT, Int.reducePow, IntKind.bits, Nat.reduceAdd, Nat.reduceMul, Nat.reduceSub, Int.reduceBNe, Int.reduceBEq, Int.reduceLE, Int.reduceLT, Int.reduceToNat, reduceCtorEq, Nat.zero_ne_one, Nat.one_ne_zero, and_self, and_true, true_and]
 repeat' (first | refine spB_i (fun _ => ?_) (fun _ => ?_) | refine andB_i ?_ ?_)
 all_goals (refine Ends.pureE rfl (congrArg _ ?_); simp only [draftS, bit, Sh.l, *, if_true, if_false, Bool.false_eq_true])
def k12 : Ct
 | [.agg [.i .u8 f, .i .u16 i, .i .u8 b, .i .u8 t, .i .u8 s]], _, n => some (true, { v := .agg (draftS f i b t s).l, n })
 | _, _, _ => none
theorem s12 : SoundAt Try.prog 12 k12 := fun args h n c E hc _ => by
 unfold k12 at hc
 split at hc
 · cases hc; exact CallOK.pure (by kernel_rfl) rfl rfl (w12 _ _ _ _ _) _ _
 · cases hc
def k14 : Ct
 | [.agg [.b st, .b ky, .b sy, .b la, .i .i64 id, .i .i64 ba, .i .i64 te, .i .i64 sp]], _, n => some (true, { v := .i .i64 (if (Sh.mk st ky sy la id ba te sp).good then 0 else 400), n })
 | _, _, _ => none
theorem s14 : SoundAt Try.prog 14 k14 := fun args h n c E hc _ => by
 unfold k14 at hc
 split at hc
 · cases hc; exact CallOK.pure (by kernel_rfl) rfl rfl (w14 _ _ _ _ _ _ _ _) _ _
 · cases hc
def k16 : Ct
 | [.agg [.b st, .b ky, .b sy, .b la, .i .i64 id, .i .i64 ba, .i .i64 te, .i .i64 sp]], _, n => some (true, { v := .b (Sh.mk st ky sy la id ba te sp).good, n })
 | _, _, _ => none
theorem s16 : SoundAt Try.prog 16 k16 := fun args h n c E hc _ => by
 unfold k16 at hc
 split at hc
 · cases hc; exact CallOK.pure (by kernel_rfl) rfl rfl (w16 _ _ _ _ _ _ _ _) _ _
 · cases hc
def bits4 (a b c d : Bool) : Int := 128 + (if a then 64 else 0) + (if b then 32 else 0) + (if c then 16 else 0) + (if d then 8 else 0)
def bitsB : Blk → Option Int
 | ⟨[.b true, .b a, .b b, .b c, .b d, .b false, .b false, .b false], false, none, none⟩ => some (bits4 a b c d)
 | _ => none
def k66 : Ct
 | [.sl b 0 8 8], h, n => (hget h b).bind fun k => (bitsB k).bind fun m => some (true, { v := .i .u8 m, n, rd := [b] })
 | _, _, _ => none
theorem w66 (a b c d : Bool) : FTL Try.prog 66 [.sl 0 0 8 8] [(0, { cells := [.b true, .b a, .b b, .b c, .b d, .b false, .b false, .b false] })] 1 (.i .u8 (bits4 a b c d)) [(0, { cells := [.b true, .b a, .b b, .b c, .b d, .b false, .b false, .b false] })] 1 := by
 obtain ⟨n', h⟩ := bits_run a b c d
 refine FTL.shrink (FTL.of_run 300 mo Valid.nil Try.func66 i66_eq h) rfl (fun x k hx => ?_)
 simp only [hget] at hx
 by_cases hc : x = 0
 · subst hc; simp at hx; subst hx; exact ⟨rfl, by omega, rfl⟩
 · rw [beq_ne hc] at hx; simp at hx
theorem s66 : SoundAt Try.prog 66 k66 := fun args h n c E hc _ => by
 unfold k66 at hc
 split at hc
 · rename_i b
   simp only [Option.bind_eq_some_iff] at hc
   obtain ⟨k, hk, m, hm, he⟩ := hc
   cases he
   unfold bitsB at hm
   split at hm
   · cases hm
     exact CallOK.read1 (argsL := [.sl 0 0 8 8]) (by kernel_rfl) rfl rfl rfl hk (w66 _ _ _ _)
   · cases hm
 · cases hc
def T2 : List (Nat × Ct) := [(44, k44), (14, k14), (66, k66)]
theorem hT2 : Sound Try.prog (cxT T2) := Sound.cons s44 (Sound.cons s14 (Sound.cons s66 Sound.nil))
end Go.Proofs.Pic
