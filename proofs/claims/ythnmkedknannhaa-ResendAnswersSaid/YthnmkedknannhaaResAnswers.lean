/- ResendAnswers, joined; printed by joinlib.py. It holds for every input. -/
import Derived.Test.YthnmkedknannhaaRows
import Derived.Test.YthnmkedknannhaaAbFzs
import Derived.Test.YthnmkedknannhaaResJ
import Derived.Test.YthnmkedknannhaaResJ8
import Derived.Test.YthnmkedknannhaaResL8
namespace Go.Proofs.Ythnmkedknannhaa
open Go.Ab Go.ChangeShapes Go.WideShapes Go.ChangeAt Go.RowKit
set_option linter.unusedVariables false
theorem own : ownKnob Try.prog.godebug = none := by kernel_rfl
theorem laid : laidOutB Try.prog = true := by kernel_rfl
def aTys : List TyF := [.st [.f (.i .u16), .f (.i .u16), .sl (.f (.st [.i .u8, .i .u16, .i .i8]))], .f (.ar 2 (.st [.i .u8, .i .u8, .i .i64])), .f (.ar 2 (.i .i64)), .f (.i .u16), .sl (.f (.i .i64)), .f (.st [.i .u8, .i .u8, .i .i64])]
set_option maxRecDepth 100000 in
theorem core : ∀ avs, ArgsF aTys avs → FTL Try.prog 8 avs (glH 0 []) 0 (.b true) [] 0 := by
 intro avs h
 show FTL Try.prog 8 avs [] 0 (.b true) [] 0
 obtain ⟨l1, vs1, rfl, d1, l2, vs2, rfl, d2, l4, vs4, rfl, d4, l5, vs5, rfl, d5, l6, vs6, rfl, d6, l7, vs7, rfl, d7, rfl⟩ := h
 obtain ⟨d, rfl, hd⟩ := Res.dr_shp d1
 obtain ⟨x0, x1, rfl, hx0, hx1⟩ := Res.b2_shp d2
 obtain ⟨n0, n1, rfl⟩ := Res.n2_shp d4
 obtain ⟨wt, rfl, hwt⟩ := d5
 obtain ⟨raw, rfl⟩ := Res.raw_shp d6
 obtain ⟨y, rfl, hy⟩ := Res.bm_shp d7
 exact Res.body8 d x0 x1 n0 n1 wt raw y hd hx0 hx1 hwt hy
set_option maxRecDepth 100000 in
theorem lifted (os : Os) (started : os.Started) (H : Type) (enc : TypeId × Value → H) :
 ReturnsInHanded {} Try.checked os 8 .any (Rows.resendAnswersSpec.pre6 enc Try.prog Try.f8 Rows.resendAnswersRow.domain false) (Rows.resendAnswersSpec.post enc Try.prog Try.f8 false true false false) := by
 refine returnsInHanded_of_change (C := Try.checked) own started (by kernel_rfl) Try.func8
  (ChangeSpec.witness6 (enc := enc) (C := Try.checked) false ⟨#[], #[.agg #[.int .u16 0, .int .u16 0, .slice none 0 0], .agg #[.int .u8 0, .int .u8 0, .int .i64 0, .int .u8 0, .int .u8 0, .int .i64 0], .agg #[.int .i64 0, .int .i64 0], .int .u16 0, .slice none 0 0, .agg #[.int .u8 0, .int .u8 0, .int .i64 0]], []⟩ 8 (by kernel_rfl) (by kernel_rfl) (by kernel_rfl) (by kernel_rfl)) ?_
 intro W base args ds gs before hval0 hW hcnd _
 exact law_postF (P := Try.prog) (Ts := aTys) [] (fun x hx => by cases hx) (by kernel_rfl) laid (by kernel_rfl) (by kernel_rfl) Try.underlying4 rfl (fun l hl => by
  match l, hl with
  | [_, _, _, _, _, _], _ => rfl) hval0 hW core
theorem proved : Rows.ResendAnswersSaid :=
 OpenClaim.holds_of_wide 8 Try.f8 rfl rfl rfl rfl rfl rfl rfl ⟨rfl, rfl, rfl, rfl, rfl⟩ rfl rfl rfl rfl rfl (by kernel_rfl) Try.func8 (by kernel_rfl)
  (of_decide_eq_true (by kernel_rfl)) (by unfold Func.isWrapper; first | (rw [if_pos (by decide +kernel)]; kernel_rfl) | (rw [if_neg (by decide +kernel)]; exact ⟨rfl, rfl⟩))
  (fun os started H enc _ => lifted os started H enc)
end Go.Proofs.Ythnmkedknannhaa
