/- Contracts of chapter 40: the descriptor. -/
import Derived.Test.YtndbgcmgjnjnhaaPicC1
namespace Go.Proofs.Pic
open Go.Ab
set_option maxRecDepth 100000
set_option maxHeartbeats 2000000
set_option linter.unusedSimpArgs false
set_option linter.unusedVariables false
def Sh.enc (s : Sh) : List UInt8 := [UInt8.ofNat (bits4 s.st s.ky s.sy s.la).toNat, UInt8.ofNat (128 + s.id / 256).toNat, UInt8.ofNat (s.id % 256).toNat, UInt8.ofNat s.ba.toNat, UInt8.ofNat (64 * s.te + 16 * s.sp).toNat]
theorem Sh.good_iff (s : Sh) : s.good = true ↔ (0 ≤ s.id ∧ s.id ≤ 32767 ∧ 0 ≤ s.ba ∧ s.ba ≤ 255 ∧ 0 ≤ s.te ∧ s.te ≤ 3 ∧ 0 ≤ s.sp ∧ s.sp ≤ 2 ∧ (s.ky = true → s.te = 0) ∧ (s.sy = true → s.te ≠ 0)) := by
 unfold Sh.good
 simp
 grind
theorem wrapId (n : Int) : IntKind.u8.wrap n = n % 256 := by
 simp [IntKind.wrap, IntKind.bits, IntKind.signed]
theorem wrap64 (n : Int) (h : -9223372036854775808 ≤ n) (h' : n ≤ 9223372036854775807) : IntKind.i64.wrap n = n := by
 simp only [IntKind.wrap, IntKind.bits, IntKind.signed]
 simp
 split <;> omega
theorem w17 (st ky sy la : Bool) (id ba te sp : Int) (hg : (Sh.mk st ky sy la id ba te sp).good = true) : FTL Try.prog 17 [.agg [.b st, .b ky, .b sy, .b la, .i .i64 id, .i .i64 ba, .i .i64 te, .i .i64 sp]] [] 0 (.s (Sh.mk st ky sy la id ba te sp).enc) [] 0 := by
 rw [Sh.good_iff] at hg
 simp only at hg
 obtain ⟨h1, h2, h3, h4, h5, h6, h7, h8, -⟩ := hg
 refine FTL.of_iw hT2 mo Try.func17 i17_eq (by simp [i17]) (iw_of_jw ?_)
 dsimp only [i17, T2]
 simp only [go_sem, k44, k66, bitsB, ↓reduceIte, Nat.reduceEqDiff, Nat.reduceLeDiff, Nat.reduceLT, Int.reducePow, IntKind.bits, Nat.reduceAdd, Nat.reduceMul, Nat.reduceSub, Int.reduceBNe, Int.reduceBEq, Int.reduceLE, Int.reduceLT, Int.reduceToNat, reduceCtorEq, Nat.zero_ne_one, Nat.one_ne_zero, and_self, and_true, true_and]
 repeat' (first | refine spB_i (fun _ => ?_) (fun _ => ?_) | refine andB_i ?_ ?_)
 all_goals (
  refine Ends.pureE rfl (congrArg _ ?_)
  simp only [Sh.enc, *]
  rw [Int.tdiv_eq_ediv_of_nonneg h1, wrap64 (id / 256) (by omega) (by omega), wrap64 (128 + id / 256) (by omega) (by omega), wrap64 (64 * te) (by omega) (by omega), wrap64 (16 * sp) (by omega) (by omega), wrap64 (64 * te + 16 * sp) (by omega) (by omega)]
  simp only [wrapId]
  rw [Int.emod_eq_of_lt h3 (by omega), Int.tmod_eq_emod_of_nonneg h1, Int.emod_eq_of_lt (a := 128 + id / 256) (by omega) (by omega), Int.emod_eq_of_lt (a := 64 * te + 16 * sp) (by omega) (by omega), Int.emod_emod]
  rfl)
def k45 : Ct
 | [.agg [.b st, .b ky, .b sy, .b la, .i .i64 id, .i .i64 ba, .i .i64 te, .i .i64 sp]], _, n => some ((Sh.mk st ky sy la id ba te sp).good, { v := .s (Sh.mk st ky sy la id ba te sp).enc, n })
 | _, _, _ => none
theorem s17 : SoundAt Try.prog 17 k45 := fun args h n c E hc ht => by
 unfold k45 at hc
 split at hc
 · cases hc; exact CallOK.pure (by kernel_rfl) rfl rfl (w17 _ _ _ _ _ _ _ _ ht) _ _
 · cases hc
attribute [local congr] spB_congrC andB_congrC
theorem w18 : FTL Try.prog 18 [] [] 0 (.b true) [] 0 := FTL.of_val 2000 mo TW_valid Try.func18 i18_eq tw rfl
def k18 : Ct
 | [], _, n => some (true, { v := .b true, n })
 | _, _, _ => none
theorem s18 : SoundAt Try.prog 18 k18 := fun args h n c E hc ht => by
 unfold k18 at hc
 split at hc
 · cases hc; exact CallOK.pure (by kernel_rfl) rfl rfl w18 _ _
 · cases hc
end Go.Proofs.Pic
