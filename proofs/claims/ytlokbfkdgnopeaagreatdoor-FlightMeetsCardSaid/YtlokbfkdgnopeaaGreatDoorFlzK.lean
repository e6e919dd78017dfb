/- works, walked over its calls' values. -/
import Derived.Test.YtlokbfkdgnopeaaGreatDoorFlzKa
import Derived.Test.YtlokbfkdgnopeaaGreatDoorFlzI5
namespace Go.Proofs.Flz
open Go.Ab Go.Proofs.Flt
set_option maxRecDepth 100000
set_option maxHeartbeats 4000000
set_option linter.unusedSimpArgs false
set_option linter.unusedVariables false
/- value .b true; none; facts 28; ops 255 -/
theorem q0 (h : Hp) (n : Nat) : k10 [.agg [.i .i64 1, .i .i64 2, .s [97, 98, 99, 100, 101]], .i .i64 2] h n = some (true, { v := .tup [.fz [.s [1, 0, 0, 5, 0, 2, 0, 0, 0, 0, 0, 2, 97, 98], .s [1, 0, 0, 5, 0, 2, 0, 0, 2, 0, 0, 2, 99, 100], .s [1, 0, 0, 5, 0, 2, 0, 0, 4, 0, 0, 1, 101]] 3, .i .i64 0], n }) := by kernel_rfl
theorem q1 (h : Hp) (n : Nat) : k10 [.agg [.i .i64 1, .i .i64 2, .s []], .i .i64 9] h n = some (true, { v := .tup [.fz [.s [1, 0, 0, 0, 0, 2, 0, 0, 0, 0, 0, 0]] 1, .i .i64 0], n }) := by kernel_rfl
theorem q2 (h : Hp) (n : Nat) : k39 [.i .u8 1, .i .u8 5, .i .u8 2, .i .u8 0, .s [97, 98]] h n = some (true, { v := .s [1, 0, 0, 5, 0, 2, 0, 0, 0, 0, 0, 2, 97, 98], n }) := by kernel_rfl
theorem q3 (h : Hp) (n : Nat) : k39 [.i .u8 1, .i .u8 5, .i .u8 2, .i .u8 2, .s [99, 100]] h n = some (true, { v := .s [1, 0, 0, 5, 0, 2, 0, 0, 2, 0, 0, 2, 99, 100], n }) := by kernel_rfl
theorem q4 (h : Hp) (n : Nat) : k39 [.i .u8 1, .i .u8 5, .i .u8 2, .i .u8 4, .s [101]] h n = some (true, { v := .s [1, 0, 0, 5, 0, 2, 0, 0, 4, 0, 0, 1, 101], n }) := by kernel_rfl
theorem q5 (h : Hp) (n b0 : Nat) (hb0 : hget h b0 = some { cells := [.s [1, 0, 0, 5, 0, 2, 0, 0, 0, 0, 0, 2, 97, 98], .s [1, 0, 0, 5, 0, 2, 0, 0, 2, 0, 0, 2, 99, 100], .s [1, 0, 0, 5, 0, 2, 0, 0, 4, 0, 0, 1, 101]] }) : k14 [.fz [.s [1, 0, 0, 5, 0, 2, 0, 0, 0, 0, 0, 2, 97, 98], .s [1, 0, 0, 5, 0, 2, 0, 0, 2, 0, 0, 2, 99, 100], .s [1, 0, 0, 5, 0, 2, 0, 0, 4, 0, 0, 1, 101]] 3, .sl b0 0 3 3] h n = some (true, { v := .b true, n, rd := [b0] }) := by
 simp only [k14, vwK_s, vwK_g, hb0]
 rfl
theorem q6 (h : Hp) (n : Nat) : k39 [.i .u8 1, .i .u8 0, .i .u8 2, .i .u8 0, .s []] h n = some (true, { v := .s [1, 0, 0, 0, 0, 2, 0, 0, 0, 0, 0, 0], n }) := by kernel_rfl
theorem q7 (h : Hp) (n b0 : Nat) (hb0 : hget h b0 = some { cells := [.s [1, 0, 0, 0, 0, 2, 0, 0, 0, 0, 0, 0]] }) : k14 [.fz [.s [1, 0, 0, 0, 0, 2, 0, 0, 0, 0, 0, 0]] 1, .sl b0 0 1 1] h n = some (true, { v := .b true, n, rd := [b0] }) := by
 simp only [k14, vwK_s, vwK_g, hb0]
 rfl
theorem q8 (h : Hp) (n : Nat) : k39 [.i .u8 1, .i .u8 2, .i .u8 0, .i .u8 1, .s [98]] h n = some (true, { v := .s [1, 0, 0, 2, 0, 0, 0, 0, 1, 0, 0, 1, 98], n }) := by kernel_rfl
theorem q9 (h : Hp) (n : Nat) : k23n [.agg [.i .i64 0, .ns], .s [1, 0, 0, 2, 0, 0, 0, 0, 1, 0, 0, 1, 98]] h n = some (true, { v := .tup [.agg [.i .i64 0, .fz [.i .i64 1, .i .i64 2, .i .i64 0, .s [0, 98], .fz [.i .i64 1, .i .i64 2] 1] 1], .fz [] 0, .i .i64 0], n }) := by kernel_rfl
theorem q10 (h : Hp) (n : Nat) : k39 [.i .u8 2, .i .u8 1, .i .u8 1, .i .u8 0, .s [99]] h n = some (true, { v := .s [2, 0, 0, 1, 0, 1, 0, 0, 0, 0, 0, 1, 99], n }) := by kernel_rfl
theorem q11 (h : Hp) (n : Nat) : k23n [.agg [.i .i64 0, .fz [.i .i64 1, .i .i64 2, .i .i64 0, .s [0, 98], .fz [.i .i64 1, .i .i64 2] 1] 1], .s [2, 0, 0, 1, 0, 1, 0, 0, 0, 0, 0, 1, 99]] h n = some (true, { v := .tup [.agg [.i .i64 0, .fz [.i .i64 1, .i .i64 2, .i .i64 0, .s [0, 98], .fz [.i .i64 1, .i .i64 2] 1, .i .i64 2, .i .i64 1, .i .i64 1, .s [99], .fz [.i .i64 0, .i .i64 1] 1] 2], .fz [] 0, .i .i64 0], n }) := by kernel_rfl
theorem q12 (h : Hp) (n : Nat) : k39 [.i .u8 1, .i .u8 2, .i .u8 0, .i .u8 0, .s [97]] h n = some (true, { v := .s [1, 0, 0, 2, 0, 0, 0, 0, 0, 0, 0, 1, 97], n }) := by kernel_rfl
theorem q13 (h : Hp) (n : Nat) : k23n [.agg [.i .i64 0, .fz [.i .i64 1, .i .i64 2, .i .i64 0, .s [0, 98], .fz [.i .i64 1, .i .i64 2] 1, .i .i64 2, .i .i64 1, .i .i64 1, .s [99], .fz [.i .i64 0, .i .i64 1] 1] 2], .s [1, 0, 0, 2, 0, 0, 0, 0, 0, 0, 0, 1, 97]] h n = some (true, { v := .tup [.agg [.i .i64 2, .fz [] 0], .fz [.i .i64 1, .i .i64 0, .s [97, 98], .i .i64 2, .i .i64 1, .s [99]] 2, .i .i64 0], n }) := by kernel_rfl
theorem q14 (h : Hp) (n : Nat) : k39 [.i .u8 1, .i .u8 1, .i .u8 4, .i .u8 0, .s [120]] h n = some (true, { v := .s [1, 0, 0, 1, 0, 4, 0, 0, 0, 0, 0, 1, 120], n }) := by kernel_rfl
theorem q15 (h : Hp) (n : Nat) : k23n [.agg [.i .i64 0, .ns], .s [1, 0, 0, 1, 0, 4, 0, 0, 0, 0, 0, 1, 120]] h n = some (true, { v := .tup [.agg [.i .i64 0, .fz [] 0], .fz [] 0, .i .i64 3], n }) := by kernel_rfl
theorem q16 (h : Hp) (n : Nat) : k39 [.i .u8 1, .i .u8 3, .i .u8 0, .i .u8 0, .s [97]] h n = some (true, { v := .s [1, 0, 0, 3, 0, 0, 0, 0, 0, 0, 0, 1, 97], n }) := by kernel_rfl
theorem q17 (h : Hp) (n : Nat) : k23n [.agg [.i .i64 0, .fz [.i .i64 1, .i .i64 2, .i .i64 0, .s [0, 98], .fz [.i .i64 1, .i .i64 2] 1] 1], .s [1, 0, 0, 3, 0, 0, 0, 0, 0, 0, 0, 1, 97]] h n = some (true, { v := .tup [.agg [.i .i64 0, .fz [] 0], .fz [] 0, .i .i64 5], n }) := by kernel_rfl
theorem q18 (h : Hp) (n b0 : Nat) (hb0 : hget h b0 = some { cells := [.i .i64 1, .i .i64 0, .s [97, 98], .i .i64 2, .i .i64 1, .s [99]] }) : k26 [.fz [.i .i64 1, .i .i64 0, .s [97, 98], .i .i64 2, .i .i64 1, .s [99]] 2, .sl b0 0 2 2] h n = some (true, { v := .b true, n, rd := [b0] }) := by
 simp only [k26, vwK_s, vwK_g, hb0]
 rfl
theorem q19 (h : Hp) (n : Nat) : k25 [.agg [.i .i64 2, .fz [] 0], .agg [.i .i64 2, .ns]] h n = some (true, { v := .b true, n }) := by kernel_rfl
theorem q20 (h : Hp) (n : Nat) : k39 [.i .u8 1, .i .u8 0, .i .u8 0, .i .u8 0, .s []] h n = some (true, { v := .s [1, 0, 0, 0, 0, 0, 0, 0, 0, 0, 0, 0], n }) := by kernel_rfl
theorem q21 (h : Hp) (n : Nat) : k15 [.s [1, 0, 0, 0, 0, 0, 0, 0, 0, 0, 0]] h n = some (true, { v := .tup [.agg [.i .i64 0, .i .i64 0, .i .i64 0, .i .i64 0, .s []], .i .i64 7], n }) := by kernel_rfl
theorem q22 (h : Hp) (n : Nat) : k39 [.i .u8 1, .i .u8 1, .i .u8 0, .i .u8 0, .s []] h n = some (true, { v := .s [1, 0, 0, 1, 0, 0, 0, 0, 0, 0, 0, 0], n }) := by kernel_rfl
theorem q23 (h : Hp) (n : Nat) : k15 [.s [1, 0, 0, 1, 0, 0, 0, 0, 0, 0, 0, 0]] h n = some (true, { v := .tup [.agg [.i .i64 0, .i .i64 0, .i .i64 0, .i .i64 0, .s []], .i .i64 5], n }) := by kernel_rfl
theorem q24 (h : Hp) (n : Nat) : k29 [.i .i64 1000] h n = some (true, { v := .tup [.agg [.i .i64 1400, .i .i64 400, .i .i64 1], .i .i64 0], n }) := by kernel_rfl
theorem q25 (h : Hp) (n : Nat) : k33 [.agg [.i .i64 1400, .i .i64 400, .i .i64 1], .i .i64 1399] h n = some (true, { v := .tup [.b false, .i .i64 0], n }) := by kernel_rfl
theorem q26 (h : Hp) (n : Nat) : k35 [.agg [.i .i64 1400, .i .i64 400, .i .i64 1], .i .i64 1500] h n = some (true, { v := .tup [.agg [.i .i64 2300, .i .i64 800, .i .i64 2], .i .i64 0], n }) := by kernel_rfl
theorem q27 (h : Hp) (n : Nat) : k35 [.agg [.i .i64 9, .i .i64 6400, .i .i64 8], .i .i64 9] h n = some (true, { v := .tup [.agg [.i .i64 0, .i .i64 0, .i .i64 0], .i .i64 4], n }) := by kernel_rfl
def TW : List (Nat × Ct) := [(10, k10), (15, k15), (29, k29), (33, k33), (35, k35), (14, k14), (39, k39), (23, k23n), (26, k26), (25, k25)]
theorem hTW : Sound Tryz.prog (cxT TW) := Sound.cons s10 <| Sound.cons s15 <| Sound.cons s29 <| Sound.cons s33 <| Sound.cons s35 <| Sound.cons s14 <| Sound.cons s39 <| Sound.cons s23n <| Sound.cons s26 <| Sound.cons s25 Sound.nil
theorem w17 : FTL Tryz.prog 17 [] [] 0 (.b true) [] 0 := by
 refine FTL.of_iw hTW mo Tryz.func17 i17_eq (by simp [i17]) (iw_of_jw ?_)
 dsimp only [i17, TW]
 simp (maxSteps := 400000) only [go_sem, q0, q1, q2, q3, q4, q5, q6, q7, q8, q9, q10, q11, q12, q13, q14, q15, q16, q17, q18, q19, q20, q21, q22, q23, q24, q25, q26, q27, simprocAttr]
 exact Ends.pureE rfl rfl
def k17 : Ct
 | [], _, n => some (true, { v := .b true, n })
 | _, _, _ => none
theorem s17 : SoundAt Tryz.prog 17 k17 := fun args h n c E hc ht => by
 unfold k17 at hc
 split at hc
 · cases hc
   exact CallOK.pure (by kernel_rfl) rfl rfl w17 _ _
 · cases hc
end Go.Proofs.Flz
