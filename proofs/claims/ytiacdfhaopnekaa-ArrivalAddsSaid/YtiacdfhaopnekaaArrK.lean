/- ArrivalKnown, computed: calls that are known, and the law. -/
import Derived.Test.YtiacdfhaopnekaaArrT
namespace Go.Proofs.Arr
open Go.Ab
/- value .b true; none; entries 3; ops left 24306; costs [7695, 8264, 13887] -/
def kM0 : List MEnt := []
theorem kM0_ok : MOK Try.prog kM0 := MOK.nil
def kE0 : MEnt := ⟨24, [.agg [.i .i64 0, .b false, .b false, .i .i64 0, .i .i64 0, .i .i64 0, .i .i64 0, .i .i64 0, .i .i64 0, .i .i64 0, .i .i64 0, .i .i64 12800, .i .i64 0, .i .i64 0, .i .i64 0, .i .i64 0, .ns], .sl 0 0 4 4], [(0, { cells := [.i .i64 0, .i .i64 10, .i .i64 10, .i .i64 25, .i .i64 20, .i .i64 40, .i .i64 30, .i .i64 55] })], 1, .tup [.agg [.i .i64 55, .b true, .b true, .i .i64 30, .i .i64 30, .i .i64 55, .i .i64 20, .i .i64 40, .i .i64 2, .i .i64 10, .i .i64 1484, .i .i64 6144, .i .i64 0, .i .i64 0, .i .i64 518, .i .i64 0, .sg 223 0 2], .b true], [(223, { cells := [.i .i64 25, .i .i64 512, .i .i64 40, .i .i64 1484], gr := some 2 }), (0, { cells := [.i .i64 0, .i .i64 10, .i .i64 10, .i .i64 25, .i .i64 20, .i .i64 40, .i .i64 30, .i .i64 55] })], 305⟩
theorem kE0_ok : kE0.ok Try.prog := MEnt.ok_of_run 3000 mo kM0_ok TK_valid Try.func24 i24_eq (by kernel_rfl) (by kernel_rfl)
def kM1 : List MEnt := kE0 :: kM0
theorem kM1_ok : MOK Try.prog kM1 := MOK.cons kE0_ok kM0_ok
def kE1 : MEnt := ⟨24, [.agg [.i .i64 55, .b true, .b true, .i .i64 30, .i .i64 30, .i .i64 55, .i .i64 20, .i .i64 40, .i .i64 2, .i .i64 10, .i .i64 1484, .i .i64 6144, .i .i64 0, .i .i64 0, .i .i64 518, .i .i64 0, .sg 1 0 2], .sl 0 0 2 2], [(0, { cells := [.i .i64 2030, .i .i64 2055, .i .i64 2040, .i .i64 2065] }), (1, { cells := [.i .i64 25, .i .i64 512, .i .i64 40, .i .i64 1484], gr := some 2 })], 2, .tup [.agg [.i .i64 2065, .b true, .b true, .i .i64 2040, .i .i64 2040, .i .i64 2065, .i .i64 2030, .i .i64 2055, .i .i64 4, .i .i64 15, .i .i64 4119, .i .i64 6144, .i .i64 0, .i .i64 0, .i .i64 20, .i .i64 0, .sg 239 0 4], .b true], [(239, { cells := [.i .i64 25, .i .i64 512, .i .i64 40, .i .i64 1484, .i .i64 55, .i .i64 2871, .i .i64 2055, .i .i64 4119], gr := some 2 }), (0, { cells := [.i .i64 2030, .i .i64 2055, .i .i64 2040, .i .i64 2065] }), (1, { cells := [.i .i64 25, .i .i64 512, .i .i64 40, .i .i64 1484], gr := some 2 })], 381⟩
theorem kE1_ok : kE1.ok Try.prog := MEnt.ok_of_run 3000 mo kM1_ok TK_valid Try.func24 i24_eq (by kernel_rfl) (by kernel_rfl)
def kM2 : List MEnt := kE1 :: kM1
theorem kM2_ok : MOK Try.prog kM2 := MOK.cons kE1_ok kM1_ok
def kE2 : MEnt := ⟨20, [], [], 0, .b true, [], 577⟩
theorem kE2_ok : kE2.ok Try.prog := MEnt.ok_of_run 3000 mo kM2_ok TK_valid Try.func20 i20_eq (by kernel_rfl) (by kernel_rfl)
def kM3 : List MEnt := kE2 :: kM2
theorem kM3_ok : MOK Try.prog kM3 := MOK.cons kE2_ok kM2_ok


theorem tk : (xFn (runM kM3 TK 3000) i10 [] ([]) 0).map (·.1) = some (.b true) := by kernel_rfl
theorem wK : FTL Try.prog 10 [] ([]) 0 (.b true) [] 0 := FTL.of_runM 3000 mo kM3_ok TK_valid Try.func10 i10_eq tk rfl
end Go.Proofs.Arr
