/- ArrivalLater, joined; printed by arrjoin.py. It holds for every input. -/
import Derived.Test.YtiacdfhaopnekaaRows
import Derived.Test.YtiacdfhaopnekaaArrJ
import Derived.Test.YtiacdfhaopnekaaArrL7
namespace Go.Proofs.Ytiacdfhaopnekaa
open Go.Ab Go.ChangeShapes Go.WideShapes Go.ChangeAt Go.RowKit
set_option linter.unusedVariables false
theorem own : ownKnob Try.prog.godebug = none := by kernel_rfl
theorem laid : laidOutB Try.prog = true := by kernel_rfl
def aTys : List TyD := [.f (.i .u16), .f (.i .u8)]
set_option maxRecDepth 100000 in
theorem core : ∀ avs hp, ArgsD aTys 0 avs hp → FTL Try.prog 7 avs (hp ++ glH 0 []) 0 (.b true) [] 0 := by
  intro avs hp h
  show FTL Try.prog 7 avs (hp ++ []) 0 (.b true) [] 0
  rw [List.append_nil]
  obtain ⟨l1, vs1, hp1, hq1, rfl, rfl, d1, l2, vs2, hp2, hq2, rfl, rfl, d2, rfl, rfl⟩ := h
  obtain ⟨d1, rfl⟩ := d1
  obtain ⟨d2, rfl⟩ := d2
  obtain ⟨f, rfl, hf1, hf2⟩ := d1
  obtain ⟨y, rfl, hy1, hy2⟩ := d2
  exact Arr.w7 f y ⟨hf1, hf2⟩ ⟨hy1, hy2⟩
set_option maxRecDepth 100000 in
theorem lifted (os : Os) (started : os.Started) (H : Type) (enc : TypeId × Value → H) :
    ReturnsInHanded {} Try.checked os 7 .any (Rows.arrivalLaterSpec.pre6 enc Try.prog Try.f7 Rows.arrivalLaterRow.domain false) (Rows.arrivalLaterSpec.post enc Try.prog Try.f7 false true false false) := by
  refine returnsInHanded_of_change (C := Try.checked) own started (by kernel_rfl) Try.func7
    (ChangeSpec.witness6 (enc := enc) (C := Try.checked) false ⟨#[], #[.int .u16 0, .int .u8 0], []⟩ 8 (by kernel_rfl) (by kernel_rfl) (by kernel_rfl) (by kernel_rfl)) ?_
  intro W base args ds gs before hval0 hW hcnd _
  exact law_postD (P := Try.prog) (Ts := aTys) [] (fun x hx => by cases hx) (by kernel_rfl) laid (by kernel_rfl) (by kernel_rfl) Try.underlying4 rfl (fun l hl => by
    match l, hl with
    | [_, _], _ => rfl) hval0 hW core
theorem proved : Rows.ArrivalLaterSaid :=
  OpenClaim.holds_of_wide 7 Try.f7 rfl rfl rfl rfl rfl rfl rfl ⟨rfl, rfl, rfl, rfl, rfl⟩ rfl rfl rfl rfl rfl (by kernel_rfl) Try.func7 (by kernel_rfl)
    (of_decide_eq_true (by kernel_rfl)) (by unfold Func.isWrapper; first | (rw [if_pos (by decide +kernel)]; kernel_rfl) | (rw [if_neg (by decide +kernel)]; exact ⟨rfl, rfl⟩))
    (fun os started H enc _ => lifted os started H enc)
end Go.Proofs.Ytiacdfhaopnekaa
