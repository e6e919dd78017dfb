/- PictureReads, joined. It holds for every input. -/
import Derived.Test.YtndbgcmgjnjnhaaRows
import Derived.Test.YtndbgcmgjnjnhaaAbLaw
import Derived.Test.YtndbgcmgjnjnhaaAbLen
import Derived.Test.YtndbgcmgjnjnhaaPicLaw4
namespace Go.Proofs.Ytndbgcmgjnjnhaa
open Go.Ab Go.ChangeShapes Go.WideShapes Go.ChangeAt Go.RowKit
set_option linter.unusedVariables false
theorem own : ownKnob Try.prog.godebug = none := by kernel_rfl
theorem laid : laidOutB Try.prog = true := by kernel_rfl
def aTys : List Ty2 := [.f (.st [.i .u8, .i .u16, .i .u8, .i .u8, .i .u8]), .f (.s), .f (.st [.i .u16, .i .u8, .s]), .f (.st [.i .u16, .i .u8, .s]), .f (.s), .f (.ar 2 (.i .i64))]
set_option maxRecDepth 100000 in
theorem core : ∀ avs hp, ArgsShp aTys 0 avs hp → FTL Try.prog 4 avs hp 6 (.b true) [] 6 := by
  intro avs hp h
  obtain ⟨av1, avs2, hp3, hp4, rfl, rfl, a5, r6⟩ := h
  obtain ⟨l7, f8, rfl, rfl⟩ := a5
  obtain ⟨c9, c10, rfl, f11, r12⟩ := f8
  obtain ⟨x13, rfl, g14⟩ := f11
  obtain ⟨c15, c16, rfl, f17, r18⟩ := r12
  obtain ⟨x19, rfl, g20⟩ := f17
  obtain ⟨c21, c22, rfl, f23, r24⟩ := r18
  obtain ⟨x25, rfl, g26⟩ := f23
  obtain ⟨c27, c28, rfl, f29, r30⟩ := r24
  obtain ⟨x31, rfl, g32⟩ := f29
  obtain ⟨c33, c34, rfl, f35, r36⟩ := r30
  obtain ⟨x37, rfl, g38⟩ := f35
  cases r36
  obtain ⟨av39, avs40, hp41, hp42, rfl, rfl, a43, r44⟩ := r6
  obtain ⟨l45, f46, rfl, rfl⟩ := a43
  obtain ⟨x47, rfl, g48⟩ := f46
  obtain ⟨av49, avs50, hp51, hp52, rfl, rfl, a53, r54⟩ := r44
  obtain ⟨l55, f56, rfl, rfl⟩ := a53
  obtain ⟨c57, c58, rfl, f59, r60⟩ := f56
  obtain ⟨x61, rfl, g62⟩ := f59
  obtain ⟨c63, c64, rfl, f65, r66⟩ := r60
  obtain ⟨x67, rfl, g68⟩ := f65
  obtain ⟨c69, c70, rfl, f71, r72⟩ := r66
  obtain ⟨x73, rfl, g74⟩ := f71
  cases r72
  obtain ⟨av75, avs76, hp77, hp78, rfl, rfl, a79, r80⟩ := r54
  obtain ⟨l81, f82, rfl, rfl⟩ := a79
  obtain ⟨c83, c84, rfl, f85, r86⟩ := f82
  obtain ⟨x87, rfl, g88⟩ := f85
  obtain ⟨c89, c90, rfl, f91, r92⟩ := r86
  obtain ⟨x93, rfl, g94⟩ := f91
  obtain ⟨c95, c96, rfl, f97, r98⟩ := r92
  obtain ⟨x99, rfl, g100⟩ := f97
  cases r98
  obtain ⟨av101, avs102, hp103, hp104, rfl, rfl, a105, r106⟩ := r80
  obtain ⟨l107, f108, rfl, rfl⟩ := a105
  obtain ⟨x109, rfl, g110⟩ := f108
  obtain ⟨av111, avs112, hp113, hp114, rfl, rfl, a115, r116⟩ := r106
  obtain ⟨l117, f118, rfl, rfl⟩ := a115
  obtain ⟨ls119, hl120, rfl, ha121⟩ := f118
  obtain ⟨e122, e123, rfl⟩ := len2 hl120
  have f124 := ha121 e122 (by simp)
  obtain ⟨x125, rfl, g126⟩ := f124
  have f127 := ha121 e123 (by simp)
  obtain ⟨x128, rfl, g129⟩ := f127
  obtain ⟨rfl, rfl⟩ := r116
  replace g14 : (0 : Int) ≤ x13 ∧ x13 ≤ (255 : Int) := g14
  replace g20 : (0 : Int) ≤ x19 ∧ x19 ≤ (65535 : Int) := g20
  replace g26 : (0 : Int) ≤ x25 ∧ x25 ≤ (255 : Int) := g26
  replace g32 : (0 : Int) ≤ x31 ∧ x31 ≤ (255 : Int) := g32
  replace g38 : (0 : Int) ≤ x37 ∧ x37 ≤ (255 : Int) := g38
  replace g62 : (0 : Int) ≤ x61 ∧ x61 ≤ (65535 : Int) := g62
  replace g68 : (0 : Int) ≤ x67 ∧ x67 ≤ (255 : Int) := g68
  replace g88 : (0 : Int) ≤ x87 ∧ x87 ≤ (65535 : Int) := g88
  replace g94 : (0 : Int) ≤ x93 ∧ x93 ≤ (255 : Int) := g94
  replace g126 : (-9223372036854775808 : Int) ≤ x125 ∧ x125 ≤ (9223372036854775807 : Int) := g126
  replace g129 : (-9223372036854775808 : Int) ≤ x128 ∧ x128 ≤ (9223372036854775807 : Int) := g129
  apply Pic.w4 <;> assumption
set_option maxRecDepth 100000 in
theorem lifted (os : Os) (started : os.Started) (H : Type) (enc : TypeId × Value → H) :
    ReturnsInHanded {} Try.checked os 4 .any (Rows.pictureReadsSpec.pre6 enc Try.prog Try.f4 Rows.pictureReadsRow.domain false) (Rows.pictureReadsSpec.post enc Try.prog Try.f4 false true false false) := by
  refine returnsInHanded_of_change (C := Try.checked) own started (by kernel_rfl) Try.func4
    (ChangeSpec.witness6 (enc := enc) (C := Try.checked) false ⟨#[], #[.agg #[.int .u8 0, .int .u16 0, .int .u8 0, .int .u8 0, .int .u8 0], .string ⟨#[]⟩, .agg #[.int .u16 0, .int .u8 0, .string ⟨#[]⟩], .agg #[.int .u16 0, .int .u8 0, .string ⟨#[]⟩], .string ⟨#[]⟩, .agg #[.int .i64 0, .int .i64 0]], []⟩ 8 (by kernel_rfl) (by kernel_rfl) (by kernel_rfl) (by kernel_rfl)) ?_
  intro W base args ds gs before hval0 hW hcnd _
  exact law_post (P := Try.prog) (Ts := aTys) (by kernel_rfl) laid (by kernel_rfl) (by kernel_rfl) Try.underlying4 rfl (fun l hl => by
    match l, hl with
    | [_, _, _, _, _, _], _ => rfl) hval0 hW core
theorem proved : Rows.PictureReadsSaid :=
  OpenClaim.holds_of_wide 4 Try.f4 rfl rfl rfl rfl rfl rfl rfl ⟨rfl, rfl, rfl, rfl, rfl⟩ rfl rfl rfl rfl rfl (by kernel_rfl) Try.func4 (by kernel_rfl)
    (of_decide_eq_true (by kernel_rfl)) (by unfold Func.isWrapper; first | (rw [if_pos (by decide +kernel)]; kernel_rfl) | (rw [if_neg (by decide +kernel)]; exact ⟨rfl, rfl⟩))
    (fun os started H enc _ => lifted os started H enc)
end Go.Proofs.Ytndbgcmgjnjnhaa
