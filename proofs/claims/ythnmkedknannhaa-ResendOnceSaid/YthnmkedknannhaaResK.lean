/- works, computed: calls that are known, and the whole. -/
import Derived.Test.YthnmkedknannhaaResKT
namespace Go.Proofs.Res
open Go.Ab
/- value .b true; none; entries 13; ops left 6770; costs [0, 0, 0, 0, 0, 0, 0, 0, 0, 0, 0, 0, 0] -/
def kM0 : List MEnt := []
theorem kM0_ok : MOK Try.prog kM0 := MOK.nil
def kE0 : MEnt := ⟨13, [.agg [.i .i64 0, .b false, .i .i64 0, .ns], .i .i64 0, .i .i64 10], [], 0, .tup [.agg [.i .i64 0, .b true, .i .i64 10, .fz [] 0], .i .i64 0], [], 0⟩
theorem kE0_ok : kE0.ok Try.prog := MEnt.ok_ext (by kernel_rfl) (f13 (by kernel_rfl))
def kM1 : List MEnt := kE0 :: kM0
theorem kM1_ok : MOK Try.prog kM1 := MOK.cons kE0_ok kM0_ok
def kE1 : MEnt := ⟨13, [.agg [.i .i64 0, .b true, .i .i64 10, .fz [] 0], .i .i64 5, .i .i64 13], [], 0, .tup [.agg [.i .i64 5, .b true, .i .i64 13, .fz [.i .i64 11, .i .i64 5, .i .i64 0, .i .i64 0, .i .i64 12, .i .i64 5, .i .i64 0, .i .i64 0] 2], .i .i64 0], [], 0⟩
theorem kE1_ok : kE1.ok Try.prog := MEnt.ok_ext (by kernel_rfl) (f13 (by kernel_rfl))
def kM2 : List MEnt := kE1 :: kM1
theorem kM2_ok : MOK Try.prog kM2 := MOK.cons kE1_ok kM1_ok
def kE2 : MEnt := ⟨20, [.agg [.i .i64 5, .b true, .i .i64 13, .fz [.i .i64 11, .i .i64 5, .i .i64 0, .i .i64 0, .i .i64 12, .i .i64 5, .i .i64 0, .i .i64 0] 2], .i .i64 5, .i .i64 100], [], 0, .tup [.agg [.i .i64 5, .b true, .i .i64 13, .fz [.i .i64 11, .i .i64 5, .i .i64 5, .i .i64 1, .i .i64 12, .i .i64 5, .i .i64 5, .i .i64 1] 2], .fz [.i .i64 11, .i .i64 12] 2, .b false, .i .i64 0], [], 0⟩
theorem kE2_ok : kE2.ok Try.prog := MEnt.ok_ext (by kernel_rfl) (f20 (by kernel_rfl))
def kM3 : List MEnt := kE2 :: kM2
theorem kM3_ok : MOK Try.prog kM3 := MOK.cons kE2_ok kM2_ok
def kE3 : MEnt := ⟨20, [.agg [.i .i64 5, .b true, .i .i64 13, .fz [.i .i64 11, .i .i64 5, .i .i64 5, .i .i64 1, .i .i64 12, .i .i64 5, .i .i64 5, .i .i64 1] 2], .i .i64 104, .i .i64 100], [], 0, .tup [.agg [.i .i64 104, .b true, .i .i64 13, .fz [.i .i64 11, .i .i64 5, .i .i64 5, .i .i64 1, .i .i64 12, .i .i64 5, .i .i64 5, .i .i64 1] 2], .fz [] 0, .b false, .i .i64 0], [], 0⟩
theorem kE3_ok : kE3.ok Try.prog := MEnt.ok_ext (by kernel_rfl) (f20 (by kernel_rfl))
def kM4 : List MEnt := kE3 :: kM3
theorem kM4_ok : MOK Try.prog kM4 := MOK.cons kE3_ok kM3_ok
def kE4 : MEnt := ⟨20, [.agg [.i .i64 5, .b true, .i .i64 13, .fz [.i .i64 11, .i .i64 5, .i .i64 5, .i .i64 1, .i .i64 12, .i .i64 5, .i .i64 5, .i .i64 1] 2], .i .i64 105, .i .i64 100], [], 0, .tup [.agg [.i .i64 105, .b true, .i .i64 13, .fz [.i .i64 11, .i .i64 5, .i .i64 105, .i .i64 2, .i .i64 12, .i .i64 5, .i .i64 105, .i .i64 2] 2], .fz [.i .i64 11, .i .i64 12] 2, .b false, .i .i64 0], [], 0⟩
theorem kE4_ok : kE4.ok Try.prog := MEnt.ok_ext (by kernel_rfl) (f20 (by kernel_rfl))
def kM5 : List MEnt := kE4 :: kM4
theorem kM5_ok : MOK Try.prog kM5 := MOK.cons kE4_ok kM4_ok
def kE5 : MEnt := ⟨20, [.agg [.i .i64 105, .b true, .i .i64 13, .fz [.i .i64 11, .i .i64 5, .i .i64 105, .i .i64 2, .i .i64 12, .i .i64 5, .i .i64 105, .i .i64 2] 2], .i .i64 304, .i .i64 100], [], 0, .tup [.agg [.i .i64 304, .b true, .i .i64 13, .fz [.i .i64 11, .i .i64 5, .i .i64 105, .i .i64 2, .i .i64 12, .i .i64 5, .i .i64 105, .i .i64 2] 2], .fz [] 0, .b false, .i .i64 0], [], 0⟩
theorem kE5_ok : kE5.ok Try.prog := MEnt.ok_ext (by kernel_rfl) (f20 (by kernel_rfl))
def kM6 : List MEnt := kE5 :: kM5
theorem kM6_ok : MOK Try.prog kM6 := MOK.cons kE5_ok kM5_ok
def kE6 : MEnt := ⟨20, [.agg [.i .i64 105, .b true, .i .i64 13, .fz [.i .i64 11, .i .i64 5, .i .i64 105, .i .i64 2, .i .i64 12, .i .i64 5, .i .i64 105, .i .i64 2] 2], .i .i64 305, .i .i64 100], [], 0, .tup [.agg [.i .i64 305, .b true, .i .i64 13, .fz [.i .i64 11, .i .i64 5, .i .i64 305, .i .i64 3, .i .i64 12, .i .i64 5, .i .i64 305, .i .i64 3] 2], .fz [.i .i64 11, .i .i64 12] 2, .b false, .i .i64 0], [], 0⟩
theorem kE6_ok : kE6.ok Try.prog := MEnt.ok_ext (by kernel_rfl) (f20 (by kernel_rfl))
def kM7 : List MEnt := kE6 :: kM6
theorem kM7_ok : MOK Try.prog kM7 := MOK.cons kE6_ok kM6_ok
def kE7 : MEnt := ⟨13, [.agg [.i .i64 5, .b true, .i .i64 13, .fz [.i .i64 11, .i .i64 5, .i .i64 5, .i .i64 1, .i .i64 12, .i .i64 5, .i .i64 5, .i .i64 1] 2], .i .i64 50, .i .i64 11], [], 0, .tup [.agg [.i .i64 50, .b true, .i .i64 13, .fz [.i .i64 12, .i .i64 5, .i .i64 5, .i .i64 1] 1], .i .i64 0], [], 0⟩
theorem kE7_ok : kE7.ok Try.prog := MEnt.ok_ext (by kernel_rfl) (f13 (by kernel_rfl))
def kM8 : List MEnt := kE7 :: kM7
theorem kM8_ok : MOK Try.prog kM8 := MOK.cons kE7_ok kM7_ok
def kE8 : MEnt := ⟨20, [.agg [.i .i64 50, .b true, .i .i64 13, .fz [.i .i64 12, .i .i64 5, .i .i64 5, .i .i64 1] 1], .i .i64 105, .i .i64 100], [], 0, .tup [.agg [.i .i64 105, .b true, .i .i64 13, .fz [.i .i64 12, .i .i64 5, .i .i64 105, .i .i64 2] 1], .fz [.i .i64 12] 1, .b false, .i .i64 0], [], 0⟩
theorem kE8_ok : kE8.ok Try.prog := MEnt.ok_ext (by kernel_rfl) (f20 (by kernel_rfl))
def kM9 : List MEnt := kE8 :: kM8
theorem kM9_ok : MOK Try.prog kM9 := MOK.cons kE8_ok kM8_ok
def kE9 : MEnt := ⟨20, [.agg [.i .i64 5, .b true, .i .i64 13, .fz [.i .i64 11, .i .i64 5, .i .i64 0, .i .i64 0, .i .i64 12, .i .i64 5, .i .i64 0, .i .i64 0] 2], .i .i64 2004, .i .i64 100], [], 0, .tup [.agg [.i .i64 2004, .b true, .i .i64 13, .fz [.i .i64 11, .i .i64 5, .i .i64 2004, .i .i64 1, .i .i64 12, .i .i64 5, .i .i64 2004, .i .i64 1] 2], .fz [.i .i64 11, .i .i64 12] 2, .b false, .i .i64 0], [], 0⟩
theorem kE9_ok : kE9.ok Try.prog := MEnt.ok_ext (by kernel_rfl) (f20 (by kernel_rfl))
def kM10 : List MEnt := kE9 :: kM9
theorem kM10_ok : MOK Try.prog kM10 := MOK.cons kE9_ok kM9_ok
def kE10 : MEnt := ⟨20, [.agg [.i .i64 5, .b true, .i .i64 13, .fz [.i .i64 11, .i .i64 5, .i .i64 0, .i .i64 0, .i .i64 12, .i .i64 5, .i .i64 0, .i .i64 0] 2], .i .i64 2005, .i .i64 100], [], 0, .tup [.agg [.i .i64 2005, .b true, .i .i64 13, .fz [] 0], .fz [] 0, .b true, .i .i64 0], [], 0⟩
theorem kE10_ok : kE10.ok Try.prog := MEnt.ok_ext (by kernel_rfl) (f20 (by kernel_rfl))
def kM11 : List MEnt := kE10 :: kM10
theorem kM11_ok : MOK Try.prog kM11 := MOK.cons kE10_ok kM10_ok
def kE11 : MEnt := ⟨13, [.agg [.i .i64 0, .b true, .i .i64 10, .fz [] 0], .i .i64 0, .i .i64 75], [], 0, .tup [.agg [.i .i64 0, .b false, .i .i64 0, .fz [] 0], .i .i64 6], [], 0⟩
theorem kE11_ok : kE11.ok Try.prog := MEnt.ok_ext (by kernel_rfl) (f13 (by kernel_rfl))
def kM12 : List MEnt := kE11 :: kM11
theorem kM12_ok : MOK Try.prog kM12 := MOK.cons kE11_ok kM11_ok
def kE12 : MEnt := ⟨13, [.agg [.i .i64 0, .b true, .i .i64 10, .fz [] 0], .i .i64 0, .i .i64 74], [], 0, .tup [.agg [.i .i64 0, .b true, .i .i64 74, .fz [.i .i64 11, .i .i64 0, .i .i64 0, .i .i64 0, .i .i64 12, .i .i64 0, .i .i64 0, .i .i64 0, .i .i64 13, .i .i64 0, .i .i64 0, .i .i64 0, .i .i64 14, .i .i64 0, .i .i64 0, .i .i64 0, .i .i64 15, .i .i64 0, .i .i64 0, .i .i64 0, .i .i64 16, .i .i64 0, .i .i64 0, .i .i64 0, .i .i64 17, .i .i64 0, .i .i64 0, .i .i64 0, .i .i64 18, .i .i64 0, .i .i64 0, .i .i64 0, .i .i64 19, .i .i64 0, .i .i64 0, .i .i64 0, .i .i64 20, .i .i64 0, .i .i64 0, .i .i64 0, .i .i64 21, .i .i64 0, .i .i64 0, .i .i64 0, .i .i64 22, .i .i64 0, .i .i64 0, .i .i64 0, .i .i64 23, .i .i64 0, .i .i64 0, .i .i64 0, .i .i64 24, .i .i64 0, .i .i64 0, .i .i64 0, .i .i64 25, .i .i64 0, .i .i64 0, .i .i64 0, .i .i64 26, .i .i64 0, .i .i64 0, .i .i64 0, .i .i64 27, .i .i64 0, .i .i64 0, .i .i64 0, .i .i64 28, .i .i64 0, .i .i64 0, .i .i64 0, .i .i64 29, .i .i64 0, .i .i64 0, .i .i64 0, .i .i64 30, .i .i64 0, .i .i64 0, .i .i64 0, .i .i64 31, .i .i64 0, .i .i64 0, .i .i64 0, .i .i64 32, .i .i64 0, .i .i64 0, .i .i64 0, .i .i64 33, .i .i64 0, .i .i64 0, .i .i64 0, .i .i64 34, .i .i64 0, .i .i64 0, .i .i64 0, .i .i64 35, .i .i64 0, .i .i64 0, .i .i64 0, .i .i64 36, .i .i64 0, .i .i64 0, .i .i64 0, .i .i64 37, .i .i64 0, .i .i64 0, .i .i64 0, .i .i64 38, .i .i64 0, .i .i64 0, .i .i64 0, .i .i64 39, .i .i64 0, .i .i64 0, .i .i64 0, .i .i64 40, .i .i64 0, .i .i64 0, .i .i64 0, .i .i64 41, .i .i64 0, .i .i64 0, .i .i64 0, .i .i64 42, .i .i64 0, .i .i64 0, .i .i64 0, .i .i64 43, .i .i64 0, .i .i64 0, .i .i64 0, .i .i64 44, .i .i64 0, .i .i64 0, .i .i64 0, .i .i64 45, .i .i64 0, .i .i64 0, .i .i64 0, .i .i64 46, .i .i64 0, .i .i64 0, .i .i64 0, .i .i64 47, .i .i64 0, .i .i64 0, .i .i64 0, .i .i64 48, .i .i64 0, .i .i64 0, .i .i64 0, .i .i64 49, .i .i64 0, .i .i64 0, .i .i64 0, .i .i64 50, .i .i64 0, .i .i64 0, .i .i64 0, .i .i64 51, .i .i64 0, .i .i64 0, .i .i64 0, .i .i64 52, .i .i64 0, .i .i64 0, .i .i64 0, .i .i64 53, .i .i64 0, .i .i64 0, .i .i64 0, .i .i64 54, .i .i64 0, .i .i64 0, .i .i64 0, .i .i64 55, .i .i64 0, .i .i64 0, .i .i64 0, .i .i64 56, .i .i64 0, .i .i64 0, .i .i64 0, .i .i64 57, .i .i64 0, .i .i64 0, .i .i64 0, .i .i64 58, .i .i64 0, .i .i64 0, .i .i64 0, .i .i64 59, .i .i64 0, .i .i64 0, .i .i64 0, .i .i64 60, .i .i64 0, .i .i64 0, .i .i64 0, .i .i64 61, .i .i64 0, .i .i64 0, .i .i64 0, .i .i64 62, .i .i64 0, .i .i64 0, .i .i64 0, .i .i64 63, .i .i64 0, .i .i64 0, .i .i64 0, .i .i64 64, .i .i64 0, .i .i64 0, .i .i64 0, .i .i64 65, .i .i64 0, .i .i64 0, .i .i64 0, .i .i64 66, .i .i64 0, .i .i64 0, .i .i64 0, .i .i64 67, .i .i64 0, .i .i64 0, .i .i64 0, .i .i64 68, .i .i64 0, .i .i64 0, .i .i64 0, .i .i64 69, .i .i64 0, .i .i64 0, .i .i64 0, .i .i64 70, .i .i64 0, .i .i64 0, .i .i64 0, .i .i64 71, .i .i64 0, .i .i64 0, .i .i64 0, .i .i64 72, .i .i64 0, .i .i64 0, .i .i64 0, .i .i64 73, .i .i64 0, .i .i64 0, .i .i64 0] 63], .i .i64 0], [], 0⟩
theorem kE12_ok : kE12.ok Try.prog := MEnt.ok_ext (by kernel_rfl) (f13 (by kernel_rfl))
def kM13 : List MEnt := kE12 :: kM12
theorem kM13_ok : MOK Try.prog kM13 := MOK.cons kE12_ok kM12_ok
theorem tk : (xFn (runM kM13 TK 10000) i16 [] [] 0).map (·.1) = some (.b true) := by kernel_rfl
theorem w16 : FTL Try.prog 16 [] [] 0 (.b true) [] 0 := FTL.of_runM 10000 mo kM13_ok TK_valid Try.func16 i16_eq tk rfl
def k16 : Ct
 | [], _, n => some (true, { v := .b true, n })
 | _, _, _ => none
theorem s16 : SoundAt Try.prog 16 k16 := fun args h n c E hc ht => by
 unfold k16 at hc
 split at hc
 · cases hc
   exact CallOK.pure (by kernel_rfl) rfl rfl w16 _ _
 · cases hc
end Go.Proofs.Res
