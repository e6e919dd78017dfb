/- PictureKnown, joined. It is a closed statement. -/
import Derived.Test.YtndbgcmgjnjnhaaRows
import Derived.Test.YtndbgcmgjnjnhaaAbOpens
import Derived.Test.YtndbgcmgjnjnhaaPicK
namespace Go.Proofs.Ytndbgcmgjnjnhaa
open Go.Ab Go.ChangeShapes Go.WideShapes Go.ChangeAt Go.RowKit
set_option linter.unusedVariables false
theorem own : ownKnob Try.prog.godebug = none := by kernel_rfl
theorem laid : laidOutB Try.prog = true := by kernel_rfl
def aTys : List Ty2 := []
theorem core : ∀ avs hp, ArgsShp aTys 0 avs hp → FTL Try.prog 10 avs hp 0 (.b true) [] 0 := by
  intro avs hp h
  obtain ⟨rfl, rfl⟩ := h
  exact Pic.wK
set_option maxRecDepth 100000 in
theorem lifted (os : Os) (started : os.Started) (H : Type) (enc : TypeId × Value → H) :
    ReturnsInHanded {} Try.checked os 10 .any (Rows.pictureKnownSpec.pre6 enc Try.prog Try.f10 Rows.pictureKnownRow.domain false) (Rows.pictureKnownSpec.post enc Try.prog Try.f10 false true false false) := by
  refine returnsInHanded_of_change (C := Try.checked) own started (by kernel_rfl) Try.func10
    (ChangeSpec.witness6 (enc := enc) (C := Try.checked) false ⟨#[], #[], []⟩ 8 (by kernel_rfl) (by kernel_rfl) (by kernel_rfl) (by kernel_rfl)) ?_
  intro W base args ds gs before hval0 hW hcnd _
  exact law_post (P := Try.prog) (Ts := aTys) (by kernel_rfl) laid (by kernel_rfl) (by kernel_rfl) Try.underlying4 rfl (fun l hl => by
    match l, hl with
    | [], _ => rfl) hval0 hW core
theorem proved : Rows.PictureKnownSaid :=
  OpenClaim.holds_of_wide 10 Try.f10 rfl rfl rfl rfl rfl rfl rfl ⟨rfl, rfl, rfl, rfl, rfl⟩ rfl rfl rfl rfl rfl (by kernel_rfl) Try.func10 (by kernel_rfl)
    (of_decide_eq_true (by kernel_rfl)) (by unfold Func.isWrapper; first | (rw [if_pos (by decide +kernel)]; kernel_rfl) | (rw [if_neg (by decide +kernel)]; exact ⟨rfl, rfl⟩))
    (fun os started H enc _ => lifted os started H enc)
end Go.Proofs.Ytndbgcmgjnjnhaa
