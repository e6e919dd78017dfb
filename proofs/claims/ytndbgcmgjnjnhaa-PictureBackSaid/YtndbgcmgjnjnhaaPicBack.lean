/- PictureBack, joined. It holds for every input. -/
import Derived.Test.YtndbgcmgjnjnhaaRows
import Derived.Test.YtndbgcmgjnjnhaaAbLaw
import Derived.Test.YtndbgcmgjnjnhaaAbLen
import Derived.Test.YtndbgcmgjnjnhaaPicLaw7
namespace Go.Proofs.Ytndbgcmgjnjnhaa
open Go.Ab Go.ChangeShapes Go.WideShapes Go.ChangeAt Go.RowKit
set_option linter.unusedVariables false
theorem own : ownKnob Try.prog.godebug = none := by kernel_rfl
theorem laid : laidOutB Try.prog = true := by kernel_rfl
def aTys : List Ty2 := [.f (.st [.i .u8, .i .u16, .i .u8, .i .u8, .i .u8]), .f (.s), .f (.st [.i .u16, .i .u8, .s]), .f (.i .u16), .f (.i .u8)]
set_option maxRecDepth 100000 in
theorem core : ∀ avs hp, ArgsShp aTys 0 avs hp → FTL Try.prog 7 avs hp 5 (.b true) [] 5 := by
  intro avs hp h
  obtain ⟨av1, avs2, hp3, hp4, rfl, rfl, a5, r6⟩ := h
  obtain ⟨l7, f8, rfl, rfl⟩ := a5
  obtain ⟨c9, c10, rfl, f11, r12⟩ := f8
  obtain ⟨x13, rfl, g14⟩ := f11
  obtain ⟨c15, c16, rfl, f17, r18⟩ := r12
  obtain ⟨x19, rfl, g20⟩ := f17
  obtain ⟨c21, c22, rfl, f23, r24⟩ := r18
  obtain ⟨x25, rfl, g26⟩ := f23
  obtain ⟨c27, c28, rfl, f29, r30⟩ := r24
  obtain ⟨x31, rfl, g32⟩ := f29
  obtain ⟨c33, c34, rfl, f35, r36⟩ := r30
  obtain ⟨x37, rfl, g38⟩ := f35
  cases r36
  obtain ⟨av39, avs40, hp41, hp42, rfl, rfl, a43, r44⟩ := r6
  obtain ⟨l45, f46, rfl, rfl⟩ := a43
  obtain ⟨x47, rfl, g48⟩ := f46
  obtain ⟨av49, avs50, hp51, hp52, rfl, rfl, a53, r54⟩ := r44
  obtain ⟨l55, f56, rfl, rfl⟩ := a53
  obtain ⟨c57, c58, rfl, f59, r60⟩ := f56
  obtain ⟨x61, rfl, g62⟩ := f59
  obtain ⟨c63, c64, rfl, f65, r66⟩ := r60
  obtain ⟨x67, rfl, g68⟩ := f65
  obtain ⟨c69, c70, rfl, f71, r72⟩ := r66
  obtain ⟨x73, rfl, g74⟩ := f71
  cases r72
  obtain ⟨av75, avs76, hp77, hp78, rfl, rfl, a79, r80⟩ := r54
  obtain ⟨l81, f82, rfl, rfl⟩ := a79
  obtain ⟨x83, rfl, g84⟩ := f82
  obtain ⟨av85, avs86, hp87, hp88, rfl, rfl, a89, r90⟩ := r80
  obtain ⟨l91, f92, rfl, rfl⟩ := a89
  obtain ⟨x93, rfl, g94⟩ := f92
  obtain ⟨rfl, rfl⟩ := r90
  replace g14 : (0 : Int) ≤ x13 ∧ x13 ≤ (255 : Int) := g14
  replace g20 : (0 : Int) ≤ x19 ∧ x19 ≤ (65535 : Int) := g20
  replace g26 : (0 : Int) ≤ x25 ∧ x25 ≤ (255 : Int) := g26
  replace g32 : (0 : Int) ≤ x31 ∧ x31 ≤ (255 : Int) := g32
  replace g38 : (0 : Int) ≤ x37 ∧ x37 ≤ (255 : Int) := g38
  replace g62 : (0 : Int) ≤ x61 ∧ x61 ≤ (65535 : Int) := g62
  replace g68 : (0 : Int) ≤ x67 ∧ x67 ≤ (255 : Int) := g68
  replace g84 : (0 : Int) ≤ x83 ∧ x83 ≤ (65535 : Int) := g84
  replace g94 : (0 : Int) ≤ x93 ∧ x93 ≤ (255 : Int) := g94
  apply Pic.w7 <;> assumption
set_option maxRecDepth 100000 in
theorem lifted (os : Os) (started : os.Started) (H : Type) (enc : TypeId × Value → H) :
    ReturnsInHanded {} Try.checked os 7 .any (Rows.pictureBackSpec.pre6 enc Try.prog Try.f7 Rows.pictureBackRow.domain false) (Rows.pictureBackSpec.post enc Try.prog Try.f7 false true false false) := by
  refine returnsInHanded_of_change (C := Try.checked) own started (by kernel_rfl) Try.func7
    (ChangeSpec.witness6 (enc := enc) (C := Try.checked) false ⟨#[], #[.agg #[.int .u8 0, .int .u16 0, .int .u8 0, .int .u8 0, .int .u8 0], .string ⟨#[]⟩, .agg #[.int .u16 0, .int .u8 0, .string ⟨#[]⟩], .int .u16 0, .int .u8 0], []⟩ 8 (by kernel_rfl) (by kernel_rfl) (by kernel_rfl) (by kernel_rfl)) ?_
  intro W base args ds gs before hval0 hW hcnd _
  exact law_post (P := Try.prog) (Ts := aTys) (by kernel_rfl) laid (by kernel_rfl) (by kernel_rfl) Try.underlying4 rfl (fun l hl => by
    match l, hl with
    | [_, _, _, _, _], _ => rfl) hval0 hW core
theorem proved : Rows.PictureBackSaid :=
  OpenClaim.holds_of_wide 7 Try.f7 rfl rfl rfl rfl rfl rfl rfl ⟨rfl, rfl, rfl, rfl, rfl⟩ rfl rfl rfl rfl rfl (by kernel_rfl) Try.func7 (by kernel_rfl)
    (of_decide_eq_true (by kernel_rfl)) (by unfold Func.isWrapper; first | (rw [if_pos (by decide +kernel)]; kernel_rfl) | (rw [if_neg (by decide +kernel)]; exact ⟨rfl, rfl⟩))
    (fun os started H enc _ => lifted os started H enc)
end Go.Proofs.Ytndbgcmgjnjnhaa
