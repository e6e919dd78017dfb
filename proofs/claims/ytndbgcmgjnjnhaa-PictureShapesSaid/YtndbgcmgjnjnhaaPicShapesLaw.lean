/- PictureShapes, joined. -/
import Derived.Test.YtndbgcmgjnjnhaaRows
import Derived.Test.YtndbgcmgjnjnhaaAbLaw
import Derived.Test.YtndbgcmgjnjnhaaPicLaw3
namespace Go.Proofs.Ytndbgcmgjnjnhaa
open Go.Ab Go.ChangeShapes Go.WideShapes Go.ChangeAt Go.RowKit
theorem own : ownKnob Try.prog.godebug = none := by kernel_rfl
theorem laid : laidOutB Try.prog = true := by kernel_rfl
def tDraft : Ty := .st [.i .u8, .i .u16, .i .u8, .i .u8, .i .u8]
def tBend : Ty := .st [.i .u8, .i .u8, .i .i64]
def tShape : Ty := .st [.b, .b, .b, .b, .i .i64, .i .i64, .i .i64, .i .i64]
def aShapes : List Ty2 := [.f tDraft, .f (.ar 2 tBend), .f tShape]
theorem core3 : ∀ avs hp, ArgsShp aShapes 0 avs hp → FTL Try.prog 3 avs hp 3 (.b true) [] 3 := by
  intro avs hp h
  obtain ⟨_, _, _, _, rfl, rfl, ⟨l0, f0, rfl, rfl⟩, _, _, _, _, rfl, rfl, ⟨l1, f1, rfl, rfl⟩, _, _, _, _, rfl, rfl, ⟨l2, f2, rfl, rfl⟩, rfl, rfl⟩ := h
  obtain ⟨_, _, rfl, ⟨a0, rfl, _⟩, _, _, rfl, ⟨a1, rfl, _⟩, _, _, rfl, ⟨a2, rfl, _⟩, _, _, rfl, ⟨a3, rfl, _⟩, _, _, rfl, ⟨a4, rfl, _⟩, rfl⟩ := f0
  obtain ⟨ls, hls, rfl, hall⟩ := f1
  match ls, hls, hall with
  | [p, q], _, hall =>
    obtain ⟨_, _, rfl, ⟨b0, rfl, _⟩, _, _, rfl, ⟨b1, rfl, _⟩, _, _, rfl, ⟨b2, rfl, _⟩, rfl⟩ := hall p (by simp)
    obtain ⟨_, _, rfl, ⟨c0, rfl, _⟩, _, _, rfl, ⟨c1, rfl, _⟩, _, _, rfl, ⟨c2, rfl, _⟩, rfl⟩ := hall q (by simp)
    obtain ⟨_, _, rfl, ⟨d0, rfl⟩, _, _, rfl, ⟨d1, rfl⟩, _, _, rfl, ⟨d2, rfl⟩, _, _, rfl, ⟨d3, rfl⟩, _, _, rfl, ⟨d4, rfl, _⟩, _, _, rfl, ⟨d5, rfl, _⟩, _, _, rfl, ⟨d6, rfl, _⟩, _, _, rfl, ⟨d7, rfl, _⟩, rfl⟩ := f2
    exact Pic.w3 _ _ _ _ _ _ _ _ _ _ _ _ _ _ _ _ _ _ _
set_option maxRecDepth 100000 in
theorem lifted3 (os : Os) (started : os.Started) (H : Type) (enc : TypeId × Value → H) :
    ReturnsInHanded {} Try.checked os 3 .any (Rows.pictureShapesSpec.pre6 enc Try.prog Try.f3 Rows.pictureShapesRow.domain false) (Rows.pictureShapesSpec.post enc Try.prog Try.f3 false true false false) := by
  refine returnsInHanded_of_change (C := Try.checked) own started (by kernel_rfl) Try.func3
    (ChangeSpec.witness6 (enc := enc) (C := Try.checked) false ⟨#[], #[.agg #[.int .u8 0, .int .u16 0, .int .u8 0, .int .u8 0, .int .u8 0], .agg #[.int .u8 0, .int .u8 0, .int .i64 0, .int .u8 0, .int .u8 0, .int .i64 0], .agg #[.bool false, .bool false, .bool false, .bool false, .int .i64 0, .int .i64 0, .int .i64 0, .int .i64 0]], []⟩ 8 (by kernel_rfl) (by kernel_rfl) (by kernel_rfl) (by kernel_rfl)) ?_
  intro W base args ds gs before hval0 hW hcnd _
  exact law_post (P := Try.prog) (Ts := aShapes) (by kernel_rfl) laid (by kernel_rfl) (by kernel_rfl) Try.underlying4 rfl (fun l hl => by
    match l, hl with
    | [_, _, _], _ => rfl) hval0 hW core3
theorem proved3 : Rows.PictureShapesSaid :=
  OpenClaim.holds_of_wide 3 Try.f3 rfl rfl rfl rfl rfl rfl rfl ⟨rfl, rfl, rfl, rfl, rfl⟩ rfl rfl rfl rfl rfl (by kernel_rfl) Try.func3 (by kernel_rfl)
    (of_decide_eq_true (by kernel_rfl)) (by unfold Func.isWrapper; first | (rw [if_pos (by decide +kernel)]; kernel_rfl) | (rw [if_neg (by decide +kernel)]; exact ⟨rfl, rfl⟩))
    (fun os started H enc _ => lifted3 os started H enc)
end Go.Proofs.Ytndbgcmgjnjnhaa
