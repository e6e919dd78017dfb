/- PictureStream, joined; printed by joinlib.py. It holds for every input. -/
import Derived.Test.YtndbgcmgjnjnhaaRows
import Derived.Test.YtndbgcmgjnjnhaaAbJoin
import Derived.Test.YtndbgcmgjnjnhaaPicLaw6
namespace Go.Proofs.Ytndbgcmgjnjnhaa
open Go.Ab Go.ChangeShapes Go.WideShapes Go.ChangeAt Go.RowKit
set_option linter.unusedVariables false
theorem own : ownKnob Try.prog.godebug = none := by kernel_rfl
theorem laid : laidOutB Try.prog = true := by kernel_rfl
def aTys : List TyD := [.f (.i .u16), .sl .b, .f (.i .u8)]
set_option maxRecDepth 100000 in
theorem core : ∀ avs hp, ArgsD aTys 0 avs hp → FTL Try.prog 6 avs (hp ++ glH 1 []) 1 (.b true) [] 1 := by
  intro avs hp h
  show FTL Try.prog 6 avs (hp ++ []) 1 (.b true) [] 1
  rw [List.append_nil]
  obtain ⟨l1, vs1, hp1, hq1, rfl, rfl, d1, l2, vs2, hp2, hq2, rfl, rfl, d2, l3, vs3, hp3, hq3, rfl, rfl, d3, rfl, rfl⟩ := h
  obtain ⟨d1, rfl⟩ := d1
  obtain ⟨d3, rfl⟩ := d3
  obtain ⟨f, rfl, hf⟩ := d1
  obtain ⟨y, rfl, hy⟩ := d3
  obtain ⟨s, ks, _, k2, _, rfl, rfl⟩ := sl_shpS (f := Pic.b1) (ok := fun _ => true) (z := 1) (fun _ => rfl) (fun _ => rfl) (fun x h => by obtain ⟨b, rfl⟩ := h; exact ⟨b, rfl, rfl⟩) d2
  have := Pic.w6 f s ks y k2 hf hy
  simp only [List.append_nil, List.nil_append]
  exact this
set_option maxRecDepth 100000 in
theorem lifted (os : Os) (started : os.Started) (H : Type) (enc : TypeId × Value → H) :
    ReturnsInHanded {} Try.checked os 6 .any (Rows.pictureStreamSpec.pre6 enc Try.prog Try.f6 Rows.pictureStreamRow.domain false) (Rows.pictureStreamSpec.post enc Try.prog Try.f6 false true false false) := by
  refine returnsInHanded_of_change (C := Try.checked) own started (by kernel_rfl) Try.func6
    (ChangeSpec.witness6 (enc := enc) (C := Try.checked) false ⟨#[], #[.int .u16 0, .slice none 0 0, .int .u8 0], []⟩ 8 (by kernel_rfl) (by kernel_rfl) (by kernel_rfl) (by kernel_rfl)) ?_
  intro W base args ds gs before hval0 hW hcnd _
  exact law_postD (P := Try.prog) (Ts := aTys) [] (fun x hx => by cases hx) (by kernel_rfl) laid (by kernel_rfl) (by kernel_rfl) Try.underlying4 rfl (fun l hl => by
    match l, hl with
    | [_, _, _], _ => rfl) hval0 hW core
theorem proved : Rows.PictureStreamSaid :=
  OpenClaim.holds_of_wide 6 Try.f6 rfl rfl rfl rfl rfl rfl rfl ⟨rfl, rfl, rfl, rfl, rfl⟩ rfl rfl rfl rfl rfl (by kernel_rfl) Try.func6 (by kernel_rfl)
    (of_decide_eq_true (by kernel_rfl)) (by unfold Func.isWrapper; first | (rw [if_pos (by decide +kernel)]; kernel_rfl) | (rw [if_neg (by decide +kernel)]; exact ⟨rfl, rfl⟩))
    (fun os started H enc _ => lifted os started H enc)
end Go.Proofs.Ytndbgcmgjnjnhaa
