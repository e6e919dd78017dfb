/- The table of the functions that PictureKnown reaches, but for strings.Repeat, which is met by the shelf's contract. -/
import Derived.Test.YtndbgcmgjnjnhaaPicKIR
import Derived.Test.YtndbgcmgjnjnhaaAbFast
import Derived.Test.YtndbgcmgjnjnhaaAbShelf
import Derived.Test.YtndbgcmgjnjnhaaPicShelf
namespace Go.Proofs.Pic
open Go.Ab
theorem mo : Try.prog.follows .mixedOrders = true := by kernel_rfl
def TK : List (Nat × IFn) := [(14, i14), (15, i15), (18, i18), (20, i20), (22, i22), (26, i26), (28, i28), (33, i33), (34, i34), (36, i36), (37, i37), (44, i44), (45, i45), (46, i46), (47, i47), (48, i48), (49, i49), (50, i50), (52, i52), (53, i53), (54, i54), (55, i55), (66, i66), (69, i69), (70, i70), (71, i71), (72, i72), (73, i73), (81, i81), (82, i82), (86, i86)]
theorem TK_valid : Valid Try.prog TK :=
  .cons Try.func14 i14_eq (by kernel_rfl) <|
  .cons Try.func15 i15_eq (by kernel_rfl) <|
  .cons Try.func18 i18_eq (by kernel_rfl) <|
  .cons Try.func20 i20_eq (by kernel_rfl) <|
  .cons Try.func22 i22_eq (by kernel_rfl) <|
  .cons Try.func26 i26_eq (by kernel_rfl) <|
  .cons Try.func28 i28_eq (by kernel_rfl) <|
  .cons Try.func33 i33_eq (by kernel_rfl) <|
  .cons Try.func34 i34_eq (by kernel_rfl) <|
  .cons Try.func36 i36_eq (by kernel_rfl) <|
  .cons Try.func37 i37_eq (by kernel_rfl) <|
  .cons Try.func44 i44_eq (by kernel_rfl) <|
  .cons Try.func45 i45_eq (by kernel_rfl) <|
  .cons Try.func46 i46_eq (by kernel_rfl) <|
  .cons Try.func47 i47_eq (by kernel_rfl) <|
  .cons Try.func48 i48_eq (by kernel_rfl) <|
  .cons Try.func49 i49_eq (by kernel_rfl) <|
  .cons Try.func50 i50_eq (by kernel_rfl) <|
  .cons Try.func52 i52_eq (by kernel_rfl) <|
  .cons Try.func53 i53_eq (by kernel_rfl) <|
  .cons Try.func54 i54_eq (by kernel_rfl) <|
  .cons Try.func55 i55_eq (by kernel_rfl) <|
  .cons Try.func66 i66_eq (by kernel_rfl) <|
  .cons Try.func69 i69_eq (by kernel_rfl) <|
  .cons Try.func70 i70_eq (by kernel_rfl) <|
  .cons Try.func71 i71_eq (by kernel_rfl) <|
  .cons Try.func72 i72_eq (by kernel_rfl) <|
  .cons Try.func73 i73_eq (by kernel_rfl) <|
  .cons Try.func81 i81_eq (by kernel_rfl) <|
  .cons Try.func82 i82_eq (by kernel_rfl) <|
  .cons Try.func86 i86_eq (by kernel_rfl) .nil
theorem fRep : FTL Try.prog 35 [.s [120], .i .i64 3] [] 0 (.s [120, 120, 120]) [] 0 := FTL.of_below fun D φ us ha => by
  obtain ⟨u, m, rfl, h1, h2⟩ := ha.uncons
  obtain ⟨u', m', rfl, h3, h4⟩ := h2.uncons
  obtain rfl := h4.unnil
  cases h1
  cases h3
  refine ⟨_, .s [120, 120, 120], fun w => ?_⟩
  refine (Try.strings_Repeat ⟨#[120]⟩ 3 w (by decide) (by decide)).mono fun e w' he => ⟨?_, he.2⟩
  rw [he.1]
  rfl
end Go.Proofs.Pic
