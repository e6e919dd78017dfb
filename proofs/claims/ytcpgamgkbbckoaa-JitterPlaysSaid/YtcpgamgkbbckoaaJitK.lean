/- works, computed. -/
import Derived.Test.YtcpgamgkbbckoaaJitKa
namespace Go.Proofs.Jit
open Go.Ab
/- value .b true; none; entries 16; ops left 543; costs [0, 0, 0, 0, 0, 0, 0, 0, 0, 0, 0, 0, 0, 0, 0, 0] -/
def kM0 : List MEnt := []
theorem kM0_ok : MOK Try.prog kM0 := MOK.nil
def kE0 : MEnt := ⟨18, [.i .i64 8], [], 0, .tup [.agg [.i .i64 8, .i .i64 0, .b false, .b false, .i .i64 0, .i .i64 0, .i .i64 0, .i .i64 0, .i .i64 0, .i .i64 0, .fz [] 0], .i .i64 0], [], 0⟩
theorem kE0_ok : kE0.ok Try.prog := MEnt.ok_ext (by kernel_rfl) (f18 (by kernel_rfl))
def kM1 : List MEnt := kE0 :: kM0
theorem kM1_ok : MOK Try.prog kM1 := MOK.cons kE0_ok kM0_ok
def kE1 : MEnt := ⟨15, [.agg [.i .i64 8, .i .i64 0, .b false, .b false, .i .i64 0, .i .i64 0, .i .i64 0, .i .i64 0, .i .i64 0, .i .i64 0, .fz [] 0], .i .i64 100, .agg [.b true, .i .i64 0, .i .i64 5, .i .i64 800, .i .i64 0, .ns, .ns, .i .i64 0, .s []]], [], 0, .tup [.agg [.i .i64 8, .i .i64 100, .b true, .b true, .i .i64 5, .i .i64 1099511628576, .i .i64 (-1099511627776), .i .i64 (-1099511627776), .i .i64 0, .i .i64 0, .fz [.b true, .i .i64 0, .i .i64 5, .i .i64 800, .i .i64 0, .fz [] 0, .fz [] 0, .i .i64 0, .s [], .i .i64 1099511628576] 1], .i .i64 0], [], 0⟩
theorem kE1_ok : kE1.ok Try.prog := MEnt.ok_ext (by kernel_rfl) (f15 (by kernel_rfl))
def kM2 : List MEnt := kE1 :: kM1
theorem kM2_ok : MOK Try.prog kM2 := MOK.cons kE1_ok kM1_ok
def kE2 : MEnt := ⟨23, [.agg [.i .i64 8, .i .i64 100, .b true, .b true, .i .i64 5, .i .i64 1099511628576, .i .i64 (-1099511627776), .i .i64 (-1099511627776), .i .i64 0, .i .i64 0, .fz [.b true, .i .i64 0, .i .i64 5, .i .i64 800, .i .i64 0, .fz [] 0, .fz [] 0, .i .i64 0, .s [], .i .i64 1099511628576] 1], .i .i64 109], [], 0, .tup [.agg [.i .i64 0, .i .i64 0, .b false, .b false, .i .i64 0, .i .i64 0, .i .i64 0, .i .i64 0, .i .i64 0, .i .i64 0, .fz [] 0], .fz [] 0, .i .i64 4], [], 0⟩
theorem kE2_ok : kE2.ok Try.prog := MEnt.ok_ext (by kernel_rfl) (f23 (by kernel_rfl))
def kM3 : List MEnt := kE2 :: kM2
theorem kM3_ok : MOK Try.prog kM3 := MOK.cons kE2_ok kM2_ok
def kE3 : MEnt := ⟨23, [.agg [.i .i64 8, .i .i64 100, .b true, .b true, .i .i64 5, .i .i64 1099511628576, .i .i64 (-1099511627776), .i .i64 (-1099511627776), .i .i64 0, .i .i64 0, .fz [.b true, .i .i64 0, .i .i64 5, .i .i64 800, .i .i64 0, .fz [] 0, .fz [] 0, .i .i64 0, .s [], .i .i64 1099511628576] 1], .i .i64 110], [], 0, .tup [.agg [.i .i64 8, .i .i64 110, .b true, .b true, .i .i64 6, .i .i64 1099511628576, .i .i64 (-1099511627776), .i .i64 (-1099511627776), .i .i64 0, .i .i64 0, .fz [] 0], .fz [.b true, .i .i64 0, .i .i64 5, .i .i64 800, .i .i64 0, .fz [] 0, .fz [] 0, .i .i64 0, .s []] 1, .i .i64 0], [], 0⟩
theorem kE3_ok : kE3.ok Try.prog := MEnt.ok_ext (by kernel_rfl) (f23 (by kernel_rfl))
def kM4 : List MEnt := kE3 :: kM3
theorem kM4_ok : MOK Try.prog kM4 := MOK.cons kE3_ok kM3_ok
def kE4 : MEnt := ⟨15, [.agg [.i .i64 8, .i .i64 110, .b true, .b true, .i .i64 6, .i .i64 1099511628576, .i .i64 (-1099511627776), .i .i64 (-1099511627776), .i .i64 0, .i .i64 0, .fz [] 0], .i .i64 125, .agg [.b true, .i .i64 0, .i .i64 6, .i .i64 960, .i .i64 0, .ns, .ns, .i .i64 0, .s []]], [], 0, .tup [.agg [.i .i64 8, .i .i64 125, .b true, .b true, .i .i64 6, .i .i64 1099511628736, .i .i64 (-1099511627776), .i .i64 (-1099511627736), .i .i64 40, .i .i64 0, .fz [.b true, .i .i64 0, .i .i64 6, .i .i64 960, .i .i64 0, .fz [] 0, .fz [] 0, .i .i64 0, .s [], .i .i64 1099511628736] 1], .i .i64 0], [], 0⟩
theorem kE4_ok : kE4.ok Try.prog := MEnt.ok_ext (by kernel_rfl) (f15 (by kernel_rfl))
def kM5 : List MEnt := kE4 :: kM4
theorem kM5_ok : MOK Try.prog kM5 := MOK.cons kE4_ok kM4_ok
def kE5 : MEnt := ⟨15, [.agg [.i .i64 8, .i .i64 100, .b true, .b true, .i .i64 5, .i .i64 1099511628576, .i .i64 (-1099511627776), .i .i64 (-1099511627776), .i .i64 0, .i .i64 0, .fz [.b true, .i .i64 0, .i .i64 5, .i .i64 800, .i .i64 0, .fz [] 0, .fz [] 0, .i .i64 0, .s [], .i .i64 1099511628576] 1], .i .i64 120, .agg [.b true, .i .i64 0, .i .i64 5, .i .i64 800, .i .i64 0, .ns, .ns, .i .i64 0, .s []]], [], 0, .tup [.agg [.i .i64 0, .i .i64 0, .b false, .b false, .i .i64 0, .i .i64 0, .i .i64 0, .i .i64 0, .i .i64 0, .i .i64 0, .fz [] 0], .i .i64 10], [], 0⟩
theorem kE5_ok : kE5.ok Try.prog := MEnt.ok_ext (by kernel_rfl) (f15 (by kernel_rfl))
def kM6 : List MEnt := kE5 :: kM5
theorem kM6_ok : MOK Try.prog kM6 := MOK.cons kE5_ok kM5_ok
def kE6 : MEnt := ⟨15, [.agg [.i .i64 8, .i .i64 100, .b true, .b true, .i .i64 5, .i .i64 1099511628576, .i .i64 (-1099511627776), .i .i64 (-1099511627776), .i .i64 0, .i .i64 0, .fz [.b true, .i .i64 0, .i .i64 5, .i .i64 800, .i .i64 0, .fz [] 0, .fz [] 0, .i .i64 0, .s [], .i .i64 1099511628576] 1], .i .i64 100, .agg [.b true, .i .i64 0, .i .i64 4, .i .i64 800, .i .i64 0, .ns, .ns, .i .i64 0, .s []]], [], 0, .tup [.agg [.i .i64 0, .i .i64 0, .b false, .b false, .i .i64 0, .i .i64 0, .i .i64 0, .i .i64 0, .i .i64 0, .i .i64 0, .fz [] 0], .i .i64 10], [], 0⟩
theorem kE6_ok : kE6.ok Try.prog := MEnt.ok_ext (by kernel_rfl) (f15 (by kernel_rfl))
def kM7 : List MEnt := kE6 :: kM6
theorem kM7_ok : MOK Try.prog kM7 := MOK.cons kE6_ok kM6_ok
def kE7 : MEnt := ⟨15, [.agg [.i .i64 8, .i .i64 0, .b false, .b false, .i .i64 0, .i .i64 0, .i .i64 0, .i .i64 0, .i .i64 0, .i .i64 0, .fz [] 0], .i .i64 100, .agg [.b false, .i .i64 0, .i .i64 5, .i .i64 800, .i .i64 0, .ns, .ns, .i .i64 0, .s []]], [], 0, .tup [.agg [.i .i64 8, .i .i64 100, .b true, .b true, .i .i64 5, .i .i64 1099511628576, .i .i64 (-1099511627776), .i .i64 (-1099511627776), .i .i64 0, .i .i64 0, .fz [.b false, .i .i64 0, .i .i64 5, .i .i64 800, .i .i64 0, .fz [] 0, .fz [] 0, .i .i64 0, .s [], .i .i64 1099511628576] 1], .i .i64 0], [], 0⟩
theorem kE7_ok : kE7.ok Try.prog := MEnt.ok_ext (by kernel_rfl) (f15 (by kernel_rfl))
def kM8 : List MEnt := kE7 :: kM7
theorem kM8_ok : MOK Try.prog kM8 := MOK.cons kE7_ok kM7_ok
def kE8 : MEnt := ⟨23, [.agg [.i .i64 8, .i .i64 100, .b true, .b true, .i .i64 5, .i .i64 1099511628576, .i .i64 (-1099511627776), .i .i64 (-1099511627776), .i .i64 0, .i .i64 0, .fz [.b false, .i .i64 0, .i .i64 5, .i .i64 800, .i .i64 0, .fz [] 0, .fz [] 0, .i .i64 0, .s [], .i .i64 1099511628576] 1], .i .i64 110], [], 0, .tup [.agg [.i .i64 8, .i .i64 110, .b true, .b false, .i .i64 6, .i .i64 1099511628576, .i .i64 (-1099511627776), .i .i64 (-1099511627776), .i .i64 0, .i .i64 1, .fz [] 0], .fz [] 0, .i .i64 0], [], 0⟩
theorem kE8_ok : kE8.ok Try.prog := MEnt.ok_ext (by kernel_rfl) (f23 (by kernel_rfl))
def kM9 : List MEnt := kE8 :: kM8
theorem kM9_ok : MOK Try.prog kM9 := MOK.cons kE8_ok kM8_ok
def kE9 : MEnt := ⟨15, [.agg [.i .i64 8, .i .i64 100, .b true, .b true, .i .i64 5, .i .i64 1099511628576, .i .i64 (-1099511627776), .i .i64 (-1099511627776), .i .i64 0, .i .i64 0, .fz [.b true, .i .i64 0, .i .i64 5, .i .i64 800, .i .i64 0, .fz [] 0, .fz [] 0, .i .i64 0, .s [], .i .i64 1099511628576] 1], .i .i64 100, .agg [.b true, .i .i64 0, .i .i64 7, .i .i64 960, .i .i64 0, .ns, .ns, .i .i64 0, .s []]], [], 0, .tup [.agg [.i .i64 8, .i .i64 100, .b true, .b true, .i .i64 5, .i .i64 1099511628736, .i .i64 (-1099511627936), .i .i64 (-1099511627936), .i .i64 160, .i .i64 0, .fz [.b true, .i .i64 0, .i .i64 5, .i .i64 800, .i .i64 0, .fz [] 0, .fz [] 0, .i .i64 0, .s [], .i .i64 1099511628576, .b true, .i .i64 0, .i .i64 7, .i .i64 960, .i .i64 0, .fz [] 0, .fz [] 0, .i .i64 0, .s [], .i .i64 1099511628736] 2], .i .i64 0], [], 0⟩
theorem kE9_ok : kE9.ok Try.prog := MEnt.ok_ext (by kernel_rfl) (f15 (by kernel_rfl))
def kM10 : List MEnt := kE9 :: kM9
theorem kM10_ok : MOK Try.prog kM10 := MOK.cons kE9_ok kM9_ok
def kE10 : MEnt := ⟨23, [.agg [.i .i64 8, .i .i64 100, .b true, .b true, .i .i64 5, .i .i64 1099511628736, .i .i64 (-1099511627936), .i .i64 (-1099511627936), .i .i64 160, .i .i64 0, .fz [.b true, .i .i64 0, .i .i64 5, .i .i64 800, .i .i64 0, .fz [] 0, .fz [] 0, .i .i64 0, .s [], .i .i64 1099511628576, .b true, .i .i64 0, .i .i64 7, .i .i64 960, .i .i64 0, .fz [] 0, .fz [] 0, .i .i64 0, .s [], .i .i64 1099511628736] 2], .i .i64 110], [], 0, .tup [.agg [.i .i64 8, .i .i64 110, .b true, .b true, .i .i64 6, .i .i64 1099511628736, .i .i64 (-1099511627936), .i .i64 (-1099511627936), .i .i64 160, .i .i64 0, .fz [.b true, .i .i64 0, .i .i64 7, .i .i64 960, .i .i64 0, .fz [] 0, .fz [] 0, .i .i64 0, .s [], .i .i64 1099511628736] 1], .fz [.b true, .i .i64 0, .i .i64 5, .i .i64 800, .i .i64 0, .fz [] 0, .fz [] 0, .i .i64 0, .s []] 1, .i .i64 0], [], 0⟩
theorem kE10_ok : kE10.ok Try.prog := MEnt.ok_ext (by kernel_rfl) (f23 (by kernel_rfl))
def kM11 : List MEnt := kE10 :: kM10
theorem kM11_ok : MOK Try.prog kM11 := MOK.cons kE10_ok kM10_ok
def kE11 : MEnt := ⟨23, [.agg [.i .i64 8, .i .i64 110, .b true, .b true, .i .i64 6, .i .i64 1099511628736, .i .i64 (-1099511627936), .i .i64 (-1099511627936), .i .i64 160, .i .i64 0, .fz [.b true, .i .i64 0, .i .i64 7, .i .i64 960, .i .i64 0, .fz [] 0, .fz [] 0, .i .i64 0, .s [], .i .i64 1099511628736] 1], .i .i64 130], [], 0, .tup [.agg [.i .i64 8, .i .i64 130, .b true, .b true, .i .i64 8, .i .i64 1099511628736, .i .i64 (-1099511627936), .i .i64 (-1099511627936), .i .i64 160, .i .i64 2, .fz [] 0], .fz [] 0, .i .i64 0], [], 0⟩
theorem kE11_ok : kE11.ok Try.prog := MEnt.ok_ext (by kernel_rfl) (f23 (by kernel_rfl))
def kM12 : List MEnt := kE11 :: kM11
theorem kM12_ok : MOK Try.prog kM12 := MOK.cons kE11_ok kM11_ok
def kE12 : MEnt := ⟨18, [.i .i64 97], [], 0, .tup [.agg [.i .i64 0, .i .i64 0, .b false, .b false, .i .i64 0, .i .i64 0, .i .i64 0, .i .i64 0, .i .i64 0, .i .i64 0, .fz [] 0], .i .i64 2], [], 0⟩
theorem kE12_ok : kE12.ok Try.prog := MEnt.ok_ext (by kernel_rfl) (f18 (by kernel_rfl))
def kM13 : List MEnt := kE12 :: kM12
theorem kM13_ok : MOK Try.prog kM13 := MOK.cons kE12_ok kM12_ok
def kE13 : MEnt := ⟨21, [.agg [.i .i64 8, .i .i64 0, .b false, .b false, .i .i64 0, .i .i64 0, .i .i64 0, .i .i64 0, .i .i64 0, .i .i64 0, .fz [] 0]], [], 0, .tup [.i .i64 0, .i .i64 4], [], 0⟩
theorem kE13_ok : kE13.ok Try.prog := MEnt.ok_ext (by kernel_rfl) (f21 (by kernel_rfl))
def kM14 : List MEnt := kE13 :: kM13
theorem kM14_ok : MOK Try.prog kM14 := MOK.cons kE13_ok kM13_ok
def kE14 : MEnt := ⟨21, [.agg [.i .i64 8, .i .i64 100, .b true, .b true, .i .i64 5, .i .i64 1099511628576, .i .i64 (-1099511627776), .i .i64 (-1099511627776), .i .i64 0, .i .i64 0, .fz [.b true, .i .i64 0, .i .i64 5, .i .i64 800, .i .i64 0, .fz [] 0, .fz [] 0, .i .i64 0, .s [], .i .i64 1099511628576] 1]], [], 0, .tup [.i .i64 110, .i .i64 0], [], 0⟩
theorem kE14_ok : kE14.ok Try.prog := MEnt.ok_ext (by kernel_rfl) (f21 (by kernel_rfl))
def kM15 : List MEnt := kE14 :: kM14
theorem kM15_ok : MOK Try.prog kM15 := MOK.cons kE14_ok kM14_ok
def kE15 : MEnt := ⟨21, [.agg [.i .i64 8, .i .i64 125, .b true, .b true, .i .i64 6, .i .i64 1099511628736, .i .i64 (-1099511627776), .i .i64 (-1099511627736), .i .i64 40, .i .i64 0, .fz [.b true, .i .i64 0, .i .i64 6, .i .i64 960, .i .i64 0, .fz [] 0, .fz [] 0, .i .i64 0, .s [], .i .i64 1099511628736] 1]], [], 0, .tup [.i .i64 130, .i .i64 0], [], 0⟩
theorem kE15_ok : kE15.ok Try.prog := MEnt.ok_ext (by kernel_rfl) (f21 (by kernel_rfl))
def kM16 : List MEnt := kE15 :: kM15
theorem kM16_ok : MOK Try.prog kM16 := MOK.cons kE15_ok kM15_ok
theorem tk : (xFn (runM kM16 TK 10000) i20 [] [] 0).map (·.1) = some (.b true) := by kernel_rfl
theorem w20 : FTL Try.prog 20 [] [] 0 (.b true) [] 0 := FTL.of_runM 10000 mo kM16_ok TK_valid Try.func20 i20_eq tk rfl
theorem s20 : SoundAt Try.prog 20 k20 := fun args h n c E hc ht => by
 unfold k20 at hc
 split at hc
 · cases hc
   exact CallOK.pure (by kernel_rfl) rfl rfl w20 _ _
 · cases hc
end Go.Proofs.Jit
