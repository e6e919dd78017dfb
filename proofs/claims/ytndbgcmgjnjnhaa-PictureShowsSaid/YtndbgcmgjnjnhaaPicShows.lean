/- PictureShows, joined. It holds for every input. -/
import Derived.Test.YtndbgcmgjnjnhaaRows
import Derived.Test.YtndbgcmgjnjnhaaAbLaw
import Derived.Test.YtndbgcmgjnjnhaaAbLen
import Derived.Test.YtndbgcmgjnjnhaaPicLaw5b
namespace Go.Proofs.Ytndbgcmgjnjnhaa
open Go.Ab Go.ChangeShapes Go.WideShapes Go.ChangeAt Go.RowKit
set_option linter.unusedVariables false
theorem own : ownKnob Try.prog.godebug = none := by kernel_rfl
theorem laid : laidOutB Try.prog = true := by kernel_rfl
def aTys : List Ty2 := [.sl (.st [.i .u8, .i .u16, .i .u8, .i .u8, .i .u8]), .f (.st [.i .u8, .i .u16, .i .u8, .i .u8, .i .u8]), .f (.ar 2 (.st [.i .u8, .i .u8, .i .i64])), .f (.st [.i .u8, .i .u8, .i .i64])]
set_option maxRecDepth 100000 in
theorem core : ∀ avs hp, ArgsShp aTys 0 avs hp → FTL Try.prog 5 avs hp 4 (.b true) [] 4 := by
  intro avs hp h
  obtain ⟨av1, avs2, hp3, hp4, rfl, rfl, a5, r6⟩ := h
  obtain ⟨av7, avs8, hp9, hp10, rfl, rfl, a11, r12⟩ := r6
  obtain ⟨l13, f14, rfl, rfl⟩ := a11
  obtain ⟨c15, c16, rfl, f17, r18⟩ := f14
  obtain ⟨x19, rfl, g20⟩ := f17
  obtain ⟨c21, c22, rfl, f23, r24⟩ := r18
  obtain ⟨x25, rfl, g26⟩ := f23
  obtain ⟨c27, c28, rfl, f29, r30⟩ := r24
  obtain ⟨x31, rfl, g32⟩ := f29
  obtain ⟨c33, c34, rfl, f35, r36⟩ := r30
  obtain ⟨x37, rfl, g38⟩ := f35
  obtain ⟨c39, c40, rfl, f41, r42⟩ := r36
  obtain ⟨x43, rfl, g44⟩ := f41
  cases r42
  obtain ⟨av45, avs46, hp47, hp48, rfl, rfl, a49, r50⟩ := r12
  obtain ⟨l51, f52, rfl, rfl⟩ := a49
  obtain ⟨ls53, hl54, rfl, ha55⟩ := f52
  obtain ⟨e56, e57, rfl⟩ := len2 hl54
  have f58 := ha55 e56 (by simp)
  obtain ⟨c59, c60, rfl, f61, r62⟩ := f58
  obtain ⟨x63, rfl, g64⟩ := f61
  obtain ⟨c65, c66, rfl, f67, r68⟩ := r62
  obtain ⟨x69, rfl, g70⟩ := f67
  obtain ⟨c71, c72, rfl, f73, r74⟩ := r68
  obtain ⟨x75, rfl, g76⟩ := f73
  cases r74
  have f77 := ha55 e57 (by simp)
  obtain ⟨c78, c79, rfl, f80, r81⟩ := f77
  obtain ⟨x82, rfl, g83⟩ := f80
  obtain ⟨c84, c85, rfl, f86, r87⟩ := r81
  obtain ⟨x88, rfl, g89⟩ := f86
  obtain ⟨c90, c91, rfl, f92, r93⟩ := r87
  obtain ⟨x94, rfl, g95⟩ := f92
  cases r93
  obtain ⟨av96, avs97, hp98, hp99, rfl, rfl, a100, r101⟩ := r50
  obtain ⟨l102, f103, rfl, rfl⟩ := a100
  obtain ⟨c104, c105, rfl, f106, r107⟩ := f103
  obtain ⟨x108, rfl, g109⟩ := f106
  obtain ⟨c110, c111, rfl, f112, r113⟩ := r107
  obtain ⟨x114, rfl, g115⟩ := f112
  obtain ⟨c116, c117, rfl, f118, r119⟩ := r113
  obtain ⟨x120, rfl, g121⟩ := f118
  cases r119
  obtain ⟨rfl, rfl⟩ := r101
  replace g20 : (0 : Int) ≤ x19 ∧ x19 ≤ (255 : Int) := g20
  replace g26 : (0 : Int) ≤ x25 ∧ x25 ≤ (65535 : Int) := g26
  replace g32 : (0 : Int) ≤ x31 ∧ x31 ≤ (255 : Int) := g32
  replace g38 : (0 : Int) ≤ x37 ∧ x37 ≤ (255 : Int) := g38
  replace g44 : (0 : Int) ≤ x43 ∧ x43 ≤ (255 : Int) := g44
  replace g64 : (0 : Int) ≤ x63 ∧ x63 ≤ (255 : Int) := g64
  replace g70 : (0 : Int) ≤ x69 ∧ x69 ≤ (255 : Int) := g70
  replace g76 : (-9223372036854775808 : Int) ≤ x75 ∧ x75 ≤ (9223372036854775807 : Int) := g76
  replace g83 : (0 : Int) ≤ x82 ∧ x82 ≤ (255 : Int) := g83
  replace g89 : (0 : Int) ≤ x88 ∧ x88 ≤ (255 : Int) := g89
  replace g95 : (-9223372036854775808 : Int) ≤ x94 ∧ x94 ≤ (9223372036854775807 : Int) := g95
  replace g109 : (0 : Int) ≤ x108 ∧ x108 ≤ (255 : Int) := g109
  replace g115 : (0 : Int) ≤ x114 ∧ x114 ≤ (255 : Int) := g115
  replace g121 : (-9223372036854775808 : Int) ≤ x120 ∧ x120 ≤ (9223372036854775807 : Int) := g121
  simp only [List.append_nil, List.nil_append, List.cons_append, mkArg, Ty.wide]
  apply Pic.w5 <;> assumption
set_option maxRecDepth 100000 in
theorem lifted (os : Os) (started : os.Started) (H : Type) (enc : TypeId × Value → H) :
    ReturnsInHanded {} Try.checked os 5 .any (Rows.pictureShowsSpec.pre6 enc Try.prog Try.f5 Rows.pictureShowsRow.domain false) (Rows.pictureShowsSpec.post enc Try.prog Try.f5 false true false false) := by
  refine returnsInHanded_of_change (C := Try.checked) own started (by kernel_rfl) Try.func5
    (ChangeSpec.witness6 (enc := enc) (C := Try.checked) false ⟨#[], #[.slice none 0 0, .agg #[.int .u8 0, .int .u16 0, .int .u8 0, .int .u8 0, .int .u8 0], .agg #[.int .u8 0, .int .u8 0, .int .i64 0, .int .u8 0, .int .u8 0, .int .i64 0], .agg #[.int .u8 0, .int .u8 0, .int .i64 0]], []⟩ 8 (by kernel_rfl) (by kernel_rfl) (by kernel_rfl) (by kernel_rfl)) ?_
  intro W base args ds gs before hval0 hW hcnd _
  exact law_post (P := Try.prog) (Ts := aTys) (by kernel_rfl) laid (by kernel_rfl) (by kernel_rfl) Try.underlying4 rfl (fun l hl => by
    match l, hl with
    | [_, _, _, _], _ => rfl) hval0 hW core
theorem proved : Rows.PictureShowsSaid :=
  OpenClaim.holds_of_wide 5 Try.f5 rfl rfl rfl rfl rfl rfl rfl ⟨rfl, rfl, rfl, rfl, rfl⟩ rfl rfl rfl rfl rfl (by kernel_rfl) Try.func5 (by kernel_rfl)
    (of_decide_eq_true (by kernel_rfl)) (by unfold Func.isWrapper; first | (rw [if_pos (by decide +kernel)]; kernel_rfl) | (rw [if_neg (by decide +kernel)]; exact ⟨rfl, rfl⟩))
    (fun os started H enc _ => lifted os started H enc)
end Go.Proofs.Ytndbgcmgjnjnhaa
