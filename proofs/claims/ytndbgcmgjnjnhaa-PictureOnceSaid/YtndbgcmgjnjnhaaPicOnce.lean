/- PictureOnce, joined. It holds for every input. -/
import Derived.Test.YtndbgcmgjnjnhaaRows
import Derived.Test.YtndbgcmgjnjnhaaAbLaw
import Derived.Test.YtndbgcmgjnjnhaaAbLen
import Derived.Test.YtndbgcmgjnjnhaaPicLaw8b
namespace Go.Proofs.Ytndbgcmgjnjnhaa
open Go.Ab Go.ChangeShapes Go.WideShapes Go.ChangeAt Go.RowKit
set_option linter.unusedVariables false
theorem own : ownKnob Try.prog.godebug = none := by kernel_rfl
theorem laid : laidOutB Try.prog = true := by kernel_rfl
def aTys : List Ty2 := [.sl (.st [.i .u8, .i .u16, .i .u8, .i .u8, .i .u8])]
set_option maxRecDepth 100000 in
theorem core : ∀ avs hp, ArgsShp aTys 0 avs hp → FTL Try.prog 8 avs hp 1 (.b true) [] 1 := by
  intro avs hp h
  obtain ⟨av1, avs2, hp3, hp4, rfl, rfl, a5, r6⟩ := h
  obtain ⟨rfl, rfl⟩ := r6
  simp only [List.append_nil, List.nil_append, List.cons_append, mkArg, Ty.wide]
  apply Pic.w8 <;> assumption
set_option maxRecDepth 100000 in
theorem lifted (os : Os) (started : os.Started) (H : Type) (enc : TypeId × Value → H) :
    ReturnsInHanded {} Try.checked os 8 .any (Rows.pictureOnceSpec.pre6 enc Try.prog Try.f8 Rows.pictureOnceRow.domain false) (Rows.pictureOnceSpec.post enc Try.prog Try.f8 false true false false) := by
  refine returnsInHanded_of_change (C := Try.checked) own started (by kernel_rfl) Try.func8
    (ChangeSpec.witness6 (enc := enc) (C := Try.checked) false ⟨#[], #[.slice none 0 0], []⟩ 8 (by kernel_rfl) (by kernel_rfl) (by kernel_rfl) (by kernel_rfl)) ?_
  intro W base args ds gs before hval0 hW hcnd _
  exact law_post (P := Try.prog) (Ts := aTys) (by kernel_rfl) laid (by kernel_rfl) (by kernel_rfl) Try.underlying4 rfl (fun l hl => by
    match l, hl with
    | [_], _ => rfl) hval0 hW core
theorem proved : Rows.PictureOnceSaid :=
  OpenClaim.holds_of_wide 8 Try.f8 rfl rfl rfl rfl rfl rfl rfl ⟨rfl, rfl, rfl, rfl, rfl⟩ rfl rfl rfl rfl rfl (by kernel_rfl) Try.func8 (by kernel_rfl)
    (of_decide_eq_true (by kernel_rfl)) (by unfold Func.isWrapper; first | (rw [if_pos (by decide +kernel)]; kernel_rfl) | (rw [if_neg (by decide +kernel)]; exact ⟨rfl, rfl⟩))
    (fun os started H enc _ => lifted os started H enc)
end Go.Proofs.Ytndbgcmgjnjnhaa
