/- Contracts of chapter 26's small functions. -/
import Derived.Test.YtcpgamgkbbckoaaJitIR
import Derived.Test.YtcpgamgkbbckoaaAbRead
import Derived.Test.YtcpgamgkbbckoaaAbLoops
namespace Go.Proofs.Jit
open Go.Ab
set_option maxRecDepth 100000
set_option maxHeartbeats 4000000
set_option linter.unusedSimpArgs false
set_option linter.unusedVariables false
theorem mo : Try.prog.follows .mixedOrders = true := by kernel_rfl
def inI (lo hi x : Int) : Bool := decide (lo ≤ x) && decide (x ≤ hi)
theorem w34 (lo hi x : Int) : FTL Try.prog 34 [.i .i64 lo, .i .i64 hi, .i .i64 x] [] 0 (.b (inI lo hi x)) [] 0 := by
 refine FTL.of_iw Sound.nil mo Try.func34 i34_eq (by simp [i34]) (iw_of_jw ?_)
 dsimp only [i34]
 simp (maxSteps := 400000) only [go_sem, simprocAttr]
 repeat' (first | refine spB_i (fun _ => ?_) (fun _ => ?_) | refine andB_i ?_ ?_)
 all_goals (refine Ends.pureE rfl (congrArg _ ?_); simp [inI] at *; try omega)
def k34 : Ct
 | [.i .i64 lo, .i .i64 hi, .i .i64 x], _, n => some (true, { v := .b (inI lo hi x), n })
 | _, _, _ => none
theorem s34 : SoundAt Try.prog 34 k34 := fun args h n c E hc ht => by
 unfold k34 at hc
 split at hc
 · cases hc; exact CallOK.pure (by kernel_rfl) rfl rfl (w34 _ _ _) _ _
 · cases hc
def lead (a b : Int) : Int := if (a - b) % 65536 ≥ 32768 then (a - b) % 65536 - 65536 else (a - b) % 65536
theorem lead_rng (a b : Int) : -32768 ≤ lead a b ∧ lead a b ≤ 32767 := by unfold lead; split <;> omega
def lead32 (a b : Int) : Int := if (a - b) % 4294967296 ≥ 2147483648 then (a - b) % 4294967296 - 4294967296 else (a - b) % 4294967296
theorem lead32_rng (a b : Int) : -2147483648 ≤ lead32 a b ∧ lead32 a b ≤ 2147483647 := by unfold lead32; split <;> omega
theorem w57 (x y : Int) (hx : 0 ≤ x ∧ x ≤ 65535) (hy : 0 ≤ y ∧ y ≤ 65535) : FTL Try.prog 57 [.i .i64 x, .i .i64 y, .i .i64 16] [] 0 (.tup [.i .i64 (lead x y), .i .i64 0]) [] 0 := by
 refine FTL.of_iw Sound.nil mo Try.func57 i57_eq (by simp [i57]) (iw_of_jw ?_)
 dsimp only [i57]
 have f1 : x.fdiv 65536 = 0 := by rw [Int.fdiv_eq_ediv_of_nonneg _ (by omega)]; omega
 have f2 : y.fdiv 65536 = 0 := by rw [Int.fdiv_eq_ediv_of_nonneg _ (by omega)]; omega
 have c1 : decide (x < 0) = false := decide_eq_false (by omega)
 have c2 : decide (y < 0) = false := decide_eq_false (by omega)
 have g1 : IntKind.i64.wrap (x - y) = x - y := wrapL (by omega) (by omega)
 have g2 : IntKind.i64.wrap 65536 = 65536 := rfl
 have g3 : IntKind.i64.wrap 65535 = 65535 := rfl
 have g4 : ((x - y) % 65536).fdiv 32768 = (x - y) % 65536 / 32768 := Int.fdiv_eq_ediv_of_nonneg _ (by omega)
 have g5 : IntKind.i64.wrap ((x - y) % 65536 - 65536) = (x - y) % 65536 - 65536 := wrapL (by omega) (by omega)
 simp (maxSteps := 400000) only [go_sem, f1, f2, c1, c2, g1, g2, g3, and16, g4, g5, simprocAttr]
 repeat' (first | refine spB_i (fun _ => ?_) (fun _ => ?_) | refine andB_i ?_ ?_)
 all_goals first
  | (refine Ends.pureE rfl ?_
     simp only [lead]
     grind)
  | rfl
theorem w57_32 (x y : Int) (hx : 0 ≤ x ∧ x ≤ 4294967295) (hy : 0 ≤ y ∧ y ≤ 4294967295) : FTL Try.prog 57 [.i .i64 x, .i .i64 y, .i .i64 32] [] 0 (.tup [.i .i64 (lead32 x y), .i .i64 0]) [] 0 := by
 refine FTL.of_iw Sound.nil mo Try.func57 i57_eq (by simp [i57]) (iw_of_jw ?_)
 dsimp only [i57]
 have f1 : x.fdiv 4294967296 = 0 := by rw [Int.fdiv_eq_ediv_of_nonneg _ (by omega)]; omega
 have f2 : y.fdiv 4294967296 = 0 := by rw [Int.fdiv_eq_ediv_of_nonneg _ (by omega)]; omega
 have c1 : decide (x < 0) = false := decide_eq_false (by omega)
 have c2 : decide (y < 0) = false := decide_eq_false (by omega)
 have g1 : IntKind.i64.wrap (x - y) = x - y := wrapL (by omega) (by omega)
 have g2 : IntKind.i64.wrap 4294967296 = 4294967296 := rfl
 have g3 : IntKind.i64.wrap 4294967295 = 4294967295 := rfl
 have g4 : ((x - y) % 4294967296).fdiv 2147483648 = (x - y) % 4294967296 / 2147483648 := Int.fdiv_eq_ediv_of_nonneg _ (by omega)
 have g5 : IntKind.i64.wrap ((x - y) % 4294967296 - 4294967296) = (x - y) % 4294967296 - 4294967296 := wrapL (by omega) (by omega)
 simp (maxSteps := 400000) only [go_sem, f1, f2, c1, c2, g1, g2, g3, and32, g4, g5, simprocAttr]
 repeat' (first | refine spB_i (fun _ => ?_) (fun _ => ?_) | refine andB_i ?_ ?_)
 all_goals first
  | (refine Ends.pureE rfl ?_
     simp only [lead32]
     grind)
  | rfl
def k57 : Ct
 | [.i .i64 x, .i .i64 y, .i .i64 16], _, n => some (inI 0 65535 x && inI 0 65535 y, { v := .tup [.i .i64 (lead x y), .i .i64 0], n })
 | [.i .i64 x, .i .i64 y, .i .i64 32], _, n => some (inI 0 4294967295 x && inI 0 4294967295 y, { v := .tup [.i .i64 (lead32 x y), .i .i64 0], n })
 | _, _, _ => none
theorem inI_t {lo hi x : Int} (h : inI lo hi x = true) : lo ≤ x ∧ x ≤ hi := by simpa [inI] using h
theorem inI_of {lo hi x : Int} (h : lo ≤ x ∧ x ≤ hi) : inI lo hi x = true := by simpa [inI] using h
theorem s57 : SoundAt Try.prog 57 k57 := fun args h n c E hc ht => by
 unfold k57 at hc
 split at hc
 · cases hc
   simp only [Bool.and_eq_true] at ht
   exact CallOK.pure (by kernel_rfl) rfl rfl (w57 _ _ (inI_t ht.1) (inI_t ht.2)) _ _
 · cases hc
   simp only [Bool.and_eq_true] at ht
   exact CallOK.pure (by kernel_rfl) rfl rfl (w57_32 _ _ (inI_t ht.1) (inI_t ht.2)) _ _
 · cases hc
def T1 : List (Nat × Ct) := [(57, k57)]
theorem hT1 : Sound Try.prog (cxT T1) := Sound.cons s57 Sound.nil
theorem w43 (x y : Int) (hx : inI 0 65535 x = true) (hy : inI 0 65535 y = true) : FTL Try.prog 43 [.i .i64 x, .i .i64 y, .i .i64 16] [] 0 (.i .i64 (lead x y)) [] 0 := by
 refine FTL.of_iw hT1 mo Try.func43 i43_eq (by simp [i43]) (iw_of_jw ?_)
 dsimp only [i43, T1]
 simp (maxSteps := 400000) only [go_sem, k57, hx, hy, simprocAttr]
 exact Ends.pureE rfl rfl
theorem w43_32 (x y : Int) (hx : inI 0 4294967295 x = true) (hy : inI 0 4294967295 y = true) : FTL Try.prog 43 [.i .i64 x, .i .i64 y, .i .i64 32] [] 0 (.i .i64 (lead32 x y)) [] 0 := by
 refine FTL.of_iw hT1 mo Try.func43 i43_eq (by simp [i43]) (iw_of_jw ?_)
 dsimp only [i43, T1]
 simp (maxSteps := 400000) only [go_sem, k57, hx, hy, simprocAttr]
 exact Ends.pureE rfl rfl
def k43 : Ct
 | [.i .i64 x, .i .i64 y, .i .i64 16], _, n => some (inI 0 65535 x && inI 0 65535 y, { v := .i .i64 (lead x y), n })
 | [.i .i64 x, .i .i64 y, .i .i64 32], _, n => some (inI 0 4294967295 x && inI 0 4294967295 y, { v := .i .i64 (lead32 x y), n })
 | _, _, _ => none
theorem s43 : SoundAt Try.prog 43 k43 := fun args h n c E hc ht => by
 unfold k43 at hc
 split at hc
 · cases hc
   simp only [Bool.and_eq_true] at ht
   exact CallOK.pure (by kernel_rfl) rfl rfl (w43 _ _ ht.1 ht.2) _ _
 · cases hc
   simp only [Bool.and_eq_true] at ht
   exact CallOK.pure (by kernel_rfl) rfl rfl (w43_32 _ _ ht.1 ht.2) _ _
 · cases hc
/-! the reference's -/
theorem w54_15 : FTL Try.prog 54 [.i .i64 15] [] 0 (.i .i64 32768) [] 0 :=
 FTL.of_val (T := []) 100 mo .nil Try.func54 i54_eq (by kernel_rfl) rfl
theorem w54_16 : FTL Try.prog 54 [.i .i64 16] [] 0 (.i .i64 65536) [] 0 :=
 FTL.of_val (T := []) 100 mo .nil Try.func54 i54_eq (by kernel_rfl) rfl
theorem w54_31 : FTL Try.prog 54 [.i .i64 31] [] 0 (.i .i64 2147483648) [] 0 :=
 FTL.of_val (T := []) 100 mo .nil Try.func54 i54_eq (by kernel_rfl) rfl
theorem w54_32 : FTL Try.prog 54 [.i .i64 32] [] 0 (.i .i64 4294967296) [] 0 :=
 FTL.of_val (T := []) 100 mo .nil Try.func54 i54_eq (by kernel_rfl) rfl
def k54 : Ct
 | [.i .i64 15], _, n => some (true, { v := .i .i64 32768, n })
 | [.i .i64 16], _, n => some (true, { v := .i .i64 65536, n })
 | [.i .i64 31], _, n => some (true, { v := .i .i64 2147483648, n })
 | [.i .i64 32], _, n => some (true, { v := .i .i64 4294967296, n })
 | _, _, _ => none
theorem s54 : SoundAt Try.prog 54 k54 := fun args h n c E hc ht => by
 unfold k54 at hc
 split at hc
 · cases hc; exact CallOK.pure (by kernel_rfl) rfl rfl w54_15 _ _
 · cases hc; exact CallOK.pure (by kernel_rfl) rfl rfl w54_16 _ _
 · cases hc; exact CallOK.pure (by kernel_rfl) rfl rfl w54_31 _ _
 · cases hc; exact CallOK.pure (by kernel_rfl) rfl rfl w54_32 _ _
 · cases hc
def T2 : List (Nat × Ct) := [(54, k54)]
theorem hT2 : Sound Try.prog (cxT T2) := Sound.cons s54 Sound.nil
end Go.Proofs.Jit
