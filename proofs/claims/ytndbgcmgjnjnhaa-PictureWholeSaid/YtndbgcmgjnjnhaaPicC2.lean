/- Contracts of chapter 40: the descriptor. -/
import Derived.Test.YtndbgcmgjnjnhaaPicC1
namespace Go.Proofs.Pic
open Go.Ab
set_option maxRecDepth 100000
set_option maxHeartbeats 2000000
set_option linter.unusedSimpArgs false
set_option linter.unusedVariables false

/-- The five octets of a shape. -/
def Sh.enc (s : Sh) : List UInt8 := [UInt8.ofNat (bits4 s.st s.ky s.sy s.la).toNat, UInt8.ofNat (128 + s.id / 256).toNat, UInt8.ofNat (s.id % 256).toNat, UInt8.ofNat s.ba.toNat, UInt8.ofNat (64 * s.te + 16 * s.sp).toNat]

theorem Sh.good_iff (s : Sh) : s.good = true ↔ (0 ≤ s.id ∧ s.id ≤ 32767 ∧ 0 ≤ s.ba ∧ s.ba ≤ 255 ∧ 0 ≤ s.te ∧ s.te ≤ 3 ∧ 0 ≤ s.sp ∧ s.sp ≤ 2 ∧ (s.ky = true → s.te = 0) ∧ (s.sy = true → s.te ≠ 0)) := by
  unfold Sh.good
  simp
  grind

theorem or128 : ∀ d : Fin 128, orI .u8 128 ((d.val : Nat) : Int) = 128 + ((d.val : Nat) : Int) := by decide +kernel
theorem orL : ∀ (t : Fin 4) (p : Fin 3), IntKind.u8.wrap (orI .i64 (IntKind.i64.wrap (((t.val : Nat) : Int) * 64)) (IntKind.i64.wrap (((p.val : Nat) : Int) * 16))) = 64 * ((t.val : Nat) : Int) + 16 * ((p.val : Nat) : Int) := by decide +kernel
theorem wrapId (n : Int) : IntKind.u8.wrap n = n % 256 := by
  simp [IntKind.wrap, IntKind.bits, IntKind.signed]

theorem w45 (st ky sy la : Bool) (id ba te sp : Int) (hg : (Sh.mk st ky sy la id ba te sp).good = true) : FTL Try.prog 45 [.agg [.b st, .b ky, .b sy, .b la, .i .i64 id, .i .i64 ba, .i .i64 te, .i .i64 sp]] [] 0 (.s (Sh.mk st ky sy la id ba te sp).enc) [] 0 := by
  rw [Sh.good_iff] at hg
  simp only at hg
  obtain ⟨h1, h2, h3, h4, h5, h6, h7, h8, -⟩ := hg
  refine FTL.of_iw hT2 mo Try.func45 i45_eq (by simp [i45]) (iw_of_jw ?_)
  dsimp only [i45, T2]
  simp only [go_sem, k44, k66, bitsB, ↓reduceIte, Nat.reduceEqDiff, Nat.reduceLeDiff, Nat.reduceLT, Int.reducePow, IntKind.bits, Nat.reduceAdd, Nat.reduceMul, Nat.reduceSub, Int.reduceBNe, Int.reduceBEq, Int.reduceLE, Int.reduceLT, Int.reduceToNat, reduceCtorEq, Nat.zero_ne_one, Nat.one_ne_zero, and_self, and_true, true_and]
  refine Ends.pureE rfl (congrArg _ ?_)
  have e1 := or128 ⟨(id / 256).toNat, by omega⟩
  have e2 := orL ⟨te.toNat, by omega⟩ ⟨sp.toNat, by omega⟩
  have f1 : id.fdiv 256 = (((id / 256).toNat : Nat) : Int) := by rw [Int.fdiv_eq_ediv_of_nonneg _ (by omega)]; omega
  have f2 : te = ((te.toNat : Nat) : Int) := by omega
  have f3 : sp = ((sp.toNat : Nat) : Int) := by omega
  simp only at e1 e2
  rw [← f1] at e1
  rw [← f2, ← f3] at e2
  have f4 : IntKind.u8.wrap (id.fdiv 256) = id.fdiv 256 := by rw [wrapId, f1]; omega
  simp only [Sh.enc]
  rw [f4, e1, e2, wrapId, wrapId, Int.fdiv_eq_ediv_of_nonneg _ (by omega), Int.emod_eq_of_lt h3 (by omega)]
theorem wrap64 (n : Int) (h : -9223372036854775808 ≤ n) (h' : n ≤ 9223372036854775807) : IntKind.i64.wrap n = n := by
  simp only [IntKind.wrap, IntKind.bits, IntKind.signed]
  simp
  split <;> omega
theorem w17 (st ky sy la : Bool) (id ba te sp : Int) (hg : (Sh.mk st ky sy la id ba te sp).good = true) : FTL Try.prog 17 [.agg [.b st, .b ky, .b sy, .b la, .i .i64 id, .i .i64 ba, .i .i64 te, .i .i64 sp]] [] 0 (.s (Sh.mk st ky sy la id ba te sp).enc) [] 0 := by
  rw [Sh.good_iff] at hg
  simp only at hg
  obtain ⟨h1, h2, h3, h4, h5, h6, h7, h8, -⟩ := hg
  refine FTL.of_iw hT2 mo Try.func17 i17_eq (by simp [i17]) (iw_of_jw ?_)
  dsimp only [i17, T2]
  simp only [go_sem, k44, k66, bitsB, ↓reduceIte, Nat.reduceEqDiff, Nat.reduceLeDiff, Nat.reduceLT, Int.reducePow, IntKind.bits, Nat.reduceAdd, Nat.reduceMul, Nat.reduceSub, Int.reduceBNe, Int.reduceBEq, Int.reduceLE, Int.reduceLT, Int.reduceToNat, reduceCtorEq, Nat.zero_ne_one, Nat.one_ne_zero, and_self, and_true, true_and]
  repeat' (first | refine spB_i (fun _ => ?_) (fun _ => ?_) | refine andB_i ?_ ?_)
  all_goals (
    refine Ends.pureE rfl (congrArg _ ?_)
    simp only [Sh.enc, *]
    rw [Int.tdiv_eq_ediv_of_nonneg h1, wrap64 (id / 256) (by omega) (by omega), wrap64 (128 + id / 256) (by omega) (by omega), wrap64 (64 * te) (by omega) (by omega), wrap64 (16 * sp) (by omega) (by omega), wrap64 (64 * te + 16 * sp) (by omega) (by omega)]
    simp only [wrapId]
    rw [Int.emod_eq_of_lt h3 (by omega), Int.tmod_eq_emod_of_nonneg h1, Int.emod_eq_of_lt (a := 128 + id / 256) (by omega) (by omega), Int.emod_eq_of_lt (a := 64 * te + 16 * sp) (by omega) (by omega), Int.emod_emod]
    rfl)

def k45 : Ct
  | [.agg [.b st, .b ky, .b sy, .b la, .i .i64 id, .i .i64 ba, .i .i64 te, .i .i64 sp]], _, n => some ((Sh.mk st ky sy la id ba te sp).good, { v := .s (Sh.mk st ky sy la id ba te sp).enc, n })
  | _, _, _ => none
theorem s45 : SoundAt Try.prog 45 k45 := fun args h n c E hc ht => by
  unfold k45 at hc
  split at hc
  · cases hc; exact CallOK.pure (by kernel_rfl) rfl rfl (w45 _ _ _ _ _ _ _ _ ht) _ _
  · cases hc
theorem s17 : SoundAt Try.prog 17 k45 := fun args h n c E hc ht => by
  unfold k45 at hc
  split at hc
  · cases hc; exact CallOK.pure (by kernel_rfl) rfl rfl (w17 _ _ _ _ _ _ _ _ ht) _ _
  · cases hc
theorem Sh.eta (s : Sh) : Sh.mk s.st s.ky s.sy s.la s.id s.ba s.te s.sp = s := rfl
def T3 : List (Nat × Ct) := [(14, k14), (45, k45)]
theorem hT3 : Sound Try.prog (cxT T3) := Sound.cons s14 (Sound.cons s45 Sound.nil)
attribute [local congr] spB_congrC andB_congrC
theorem w15 (st ky sy la : Bool) (id ba te sp : Int) : FTL Try.prog 15 [.agg [.b st, .b ky, .b sy, .b la, .i .i64 id, .i .i64 ba, .i .i64 te, .i .i64 sp]] [] 0
    (.tup [.s (if (Sh.mk st ky sy la id ba te sp).good then (Sh.mk st ky sy la id ba te sp).enc else []), .i .i64 (if (Sh.mk st ky sy la id ba te sp).good then 0 else 400)]) [] 0 := by
  refine FTL.of_iw hT3 mo Try.func15 i15_eq (by simp [i15]) (iw_of_jw ?_)
  dsimp only [i15, T3]
  cases hg : (Sh.mk st ky sy la id ba te sp).good
  · simp only [go_sem, k14, k45, hg, Bool.false_eq_true, ↓reduceIte, Nat.reduceEqDiff, Nat.reduceLeDiff, Nat.reduceLT, Int.reducePow, IntKind.bits, Nat.reduceAdd, Nat.reduceMul, Nat.reduceSub, Int.reduceBNe, Int.reduceBEq, Int.reduceLE, Int.reduceLT, Int.reduceToNat, reduceCtorEq, Nat.zero_ne_one, Nat.one_ne_zero, and_self, and_true, true_and]
    exact Ends.pureE rfl rfl
  · simp only [go_sem, k14, k45, hg, ↓reduceIte, Nat.reduceEqDiff, Nat.reduceLeDiff, Nat.reduceLT, Int.reducePow, IntKind.bits, Nat.reduceAdd, Nat.reduceMul, Nat.reduceSub, Int.reduceBNe, Int.reduceBEq, Int.reduceLE, Int.reduceLT, Int.reduceToNat, reduceCtorEq, Nat.zero_ne_one, Nat.one_ne_zero, and_self, and_true, true_and]
    exact Ends.pureE rfl rfl
def k15 : Ct
  | [.agg [.b st, .b ky, .b sy, .b la, .i .i64 id, .i .i64 ba, .i .i64 te, .i .i64 sp]], _, n => some (true, { v := .tup [.s (if (Sh.mk st ky sy la id ba te sp).good then (Sh.mk st ky sy la id ba te sp).enc else []), .i .i64 (if (Sh.mk st ky sy la id ba te sp).good then 0 else 400)], n })
  | _, _, _ => none
theorem s15 : SoundAt Try.prog 15 k15 := fun args h n c E hc ht => by
  unfold k15 at hc
  split at hc
  · cases hc; exact CallOK.pure (by kernel_rfl) rfl rfl (w15 _ _ _ _ _ _ _ _) _ _
  · cases hc
theorem w18 : FTL Try.prog 18 [] [] 0 (.b true) [] 0 := FTL.of_val 2000 mo TW_valid Try.func18 i18_eq tw rfl
def k18 : Ct
  | [], _, n => some (true, { v := .b true, n })
  | _, _, _ => none
theorem s18 : SoundAt Try.prog 18 k18 := fun args h n c E hc ht => by
  unfold k18 at hc
  split at hc
  · cases hc; exact CallOK.pure (by kernel_rfl) rfl rfl w18 _ _
  · cases hc
end Go.Proofs.Pic
