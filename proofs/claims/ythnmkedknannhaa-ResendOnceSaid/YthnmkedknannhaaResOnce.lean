/- ResendOnce, joined; printed by joinlib.py. It holds for every input. -/
import Derived.Test.YthnmkedknannhaaRows
import Derived.Test.YthnmkedknannhaaAbFzs
import Derived.Test.YthnmkedknannhaaResJ
import Derived.Test.YthnmkedknannhaaResL6b
namespace Go.Proofs.Ythnmkedknannhaa
open Go.Ab Go.ChangeShapes Go.WideShapes Go.ChangeAt Go.RowKit
set_option linter.unusedVariables false
theorem own : ownKnob Try.prog.godebug = none := by kernel_rfl
theorem laid : laidOutB Try.prog = true := by kernel_rfl
def aTys : List TyF := [.st [.f (.i .u16), .f (.i .u16), .sl (.f (.st [.i .u8, .i .u16, .i .i8]))]]
set_option maxRecDepth 100000 in
theorem core : ∀ avs, ArgsF aTys avs → FTL Try.prog 6 avs (glH 0 []) 0 (.b true) [] 0 := by
 intro avs h
 show FTL Try.prog 6 avs [] 0 (.b true) [] 0
 obtain ⟨l1, vs1, rfl, d1, rfl⟩ := h
 obtain ⟨d, rfl, hd⟩ := Res.dr_shp d1
 exact Res.w6 d hd
set_option maxRecDepth 100000 in
theorem lifted (os : Os) (started : os.Started) (H : Type) (enc : TypeId × Value → H) :
 ReturnsInHanded {} Try.checked os 6 .any (Rows.resendOnceSpec.pre6 enc Try.prog Try.f6 Rows.resendOnceRow.domain false) (Rows.resendOnceSpec.post enc Try.prog Try.f6 false true false false) := by
 refine returnsInHanded_of_change (C := Try.checked) own started (by kernel_rfl) Try.func6
  (ChangeSpec.witness6 (enc := enc) (C := Try.checked) false ⟨#[], #[.agg #[.int .u16 0, .int .u16 0, .slice none 0 0]], []⟩ 8 (by kernel_rfl) (by kernel_rfl) (by kernel_rfl) (by kernel_rfl)) ?_
 intro W base args ds gs before hval0 hW hcnd _
 exact law_postF (P := Try.prog) (Ts := aTys) [] (fun x hx => by cases hx) (by kernel_rfl) laid (by kernel_rfl) (by kernel_rfl) Try.underlying4 rfl (fun l hl => by
  match l, hl with
  | [_], _ => rfl) hval0 hW core
theorem proved : Rows.ResendOnceSaid :=
 OpenClaim.holds_of_wide 6 Try.f6 rfl rfl rfl rfl rfl rfl rfl ⟨rfl, rfl, rfl, rfl, rfl⟩ rfl rfl rfl rfl rfl (by kernel_rfl) Try.func6 (by kernel_rfl)
  (of_decide_eq_true (by kernel_rfl)) (by unfold Func.isWrapper; first | (rw [if_pos (by decide +kernel)]; kernel_rfl) | (rw [if_neg (by decide +kernel)]; exact ⟨rfl, rfl⟩))
  (fun os started H enc _ => lifted os started H enc)
end Go.Proofs.Ythnmkedknannhaa
