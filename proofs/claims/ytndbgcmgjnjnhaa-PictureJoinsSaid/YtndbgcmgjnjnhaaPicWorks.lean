/- The closed function 'works', computed. -/
import Derived.Test.YtndbgcmgjnjnhaaPicIR
import Derived.Test.YtndbgcmgjnjnhaaAbExecs
namespace Go.Proofs.Pic
open Go.Ab
theorem mo : Try.prog.follows .mixedOrders = true := by kernel_rfl
def TW : List (Nat × IFn) := [(14, i14), (15, i15), (20, i20), (22, i22), (26, i26), (28, i28), (34, i34), (37, i37), (44, i44), (45, i45), (46, i46), (47, i47), (48, i48), (49, i49), (50, i50), (52, i52), (66, i66), (69, i69), (70, i70), (71, i71)]
theorem TW_valid : Valid Try.prog TW :=
 .cons Try.func14 i14_eq (by kernel_rfl) <| .cons Try.func15 i15_eq (by kernel_rfl) <| .cons Try.func20 i20_eq (by kernel_rfl) <| .cons Try.func22 i22_eq (by kernel_rfl) <| .cons Try.func26 i26_eq (by kernel_rfl) <|
 .cons Try.func28 i28_eq (by kernel_rfl) <| .cons Try.func34 i34_eq (by kernel_rfl) <| .cons Try.func37 i37_eq (by kernel_rfl) <| .cons Try.func44 i44_eq (by kernel_rfl) <| .cons Try.func45 i45_eq (by kernel_rfl) <|
 .cons Try.func46 i46_eq (by kernel_rfl) <| .cons Try.func47 i47_eq (by kernel_rfl) <| .cons Try.func48 i48_eq (by kernel_rfl) <| .cons Try.func49 i49_eq (by kernel_rfl) <| .cons Try.func50 i50_eq (by kernel_rfl) <|
 .cons Try.func52 i52_eq (by kernel_rfl) <| .cons Try.func66 i66_eq (by kernel_rfl) <| .cons Try.func69 i69_eq (by kernel_rfl) <| .cons Try.func70 i70_eq (by kernel_rfl) <| .cons Try.func71 i71_eq (by kernel_rfl) .nil
theorem tw : (xFn (xrun TW 2000) i18 [] [] 0).map (·.1) = some (.b true) := by kernel_rfl
end Go.Proofs.Pic
