/- The table of the functions that ArrivalKnown reaches. -/
import Derived.Test.YtiacdfhaopnekaaArrKIR
import Derived.Test.YtiacdfhaopnekaaAbFast
namespace Go.Proofs.Arr
open Go.Ab
theorem mo : Try.prog.follows .mixedOrders = true := by kernel_rfl
def TK : List (Nat × IFn) := [(13, i13), (15, i15), (18, i18), (20, i20), (22, i22), (24, i24), (25, i25), (26, i26), (27, i27), (28, i28), (33, i33), (34, i34), (35, i35), (38, i38), (40, i40), (41, i41), (42, i42), (43, i43), (44, i44), (45, i45), (46, i46), (50, i50), (51, i51), (52, i52), (53, i53), (54, i54), (55, i55)]
theorem TK_valid : Valid Try.prog TK :=
  .cons Try.func13 i13_eq (by kernel_rfl) <|
  .cons Try.func15 i15_eq (by kernel_rfl) <|
  .cons Try.func18 i18_eq (by kernel_rfl) <|
  .cons Try.func20 i20_eq (by kernel_rfl) <|
  .cons Try.func22 i22_eq (by kernel_rfl) <|
  .cons Try.func24 i24_eq (by kernel_rfl) <|
  .cons Try.func25 i25_eq (by kernel_rfl) <|
  .cons Try.func26 i26_eq (by kernel_rfl) <|
  .cons Try.func27 i27_eq (by kernel_rfl) <|
  .cons Try.func28 i28_eq (by kernel_rfl) <|
  .cons Try.func33 i33_eq (by kernel_rfl) <|
  .cons Try.func34 i34_eq (by kernel_rfl) <|
  .cons Try.func35 i35_eq (by kernel_rfl) <|
  .cons Try.func38 i38_eq (by kernel_rfl) <|
  .cons Try.func40 i40_eq (by kernel_rfl) <|
  .cons Try.func41 i41_eq (by kernel_rfl) <|
  .cons Try.func42 i42_eq (by kernel_rfl) <|
  .cons Try.func43 i43_eq (by kernel_rfl) <|
  .cons Try.func44 i44_eq (by kernel_rfl) <|
  .cons Try.func45 i45_eq (by kernel_rfl) <|
  .cons Try.func46 i46_eq (by kernel_rfl) <|
  .cons Try.func50 i50_eq (by kernel_rfl) <|
  .cons Try.func51 i51_eq (by kernel_rfl) <|
  .cons Try.func52 i52_eq (by kernel_rfl) <|
  .cons Try.func53 i53_eq (by kernel_rfl) <|
  .cons Try.func54 i54_eq (by kernel_rfl) <|
  .cons Try.func55 i55_eq (by kernel_rfl) .nil
end Go.Proofs.Arr
