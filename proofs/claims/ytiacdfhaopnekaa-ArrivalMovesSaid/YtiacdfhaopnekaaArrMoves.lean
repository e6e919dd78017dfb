/- ArrivalMoves, joined; printed by arrjoin.py. It holds for every input. -/
import Derived.Test.YtiacdfhaopnekaaRows
import Derived.Test.YtiacdfhaopnekaaArrJ
import Derived.Test.YtiacdfhaopnekaaArrL8
namespace Go.Proofs.Ytiacdfhaopnekaa
open Go.Ab Go.ChangeShapes Go.WideShapes Go.ChangeAt Go.RowKit
set_option linter.unusedVariables false
theorem own : ownKnob Try.prog.godebug = none := by kernel_rfl
theorem laid : laidOutB Try.prog = true := by kernel_rfl
def aTys : List TyD := [Arr.drT, .f (.ar 2 (.i .u16)), .f (.i .u8)]
set_option maxRecDepth 100000 in
theorem core : ∀ avs hp, ArgsD aTys 0 avs hp → FTL Try.prog 8 avs (hp ++ glH 1 []) 1 (.b true) [] 1 := by
  intro avs hp h
  show FTL Try.prog 8 avs (hp ++ []) 1 (.b true) [] 1
  rw [List.append_nil]
  obtain ⟨l1, vs1, hp1, hq1, rfl, rfl, d1, h⟩ := h
  obtain ⟨d, s, pk, hd, hk, hs, rfl, rfl⟩ := Arr.dr_shp d1
  obtain ⟨l2, vs2, hp2, hq2, rfl, rfl, d2, l3, vs3, hp3, hq3, rfl, rfl, d3, rfl, rfl⟩ := h
  obtain ⟨d2, rfl⟩ := d2
  obtain ⟨d3, rfl⟩ := d3
  obtain ⟨ls, hrl, rfl, hrf⟩ := d2
  obtain ⟨y, rfl, hy1, hy2⟩ := d3
  match ls, hrl, hrf with
  | [c, e], _, hrf =>
    obtain ⟨p, rfl, hp1, hp2⟩ := hrf c (by simp)
    obtain ⟨q, rfl, hq1, hq2⟩ := hrf e (by simp)
    have := Arr.w8 d s pk p q y hs hk hd ⟨hp1, hp2⟩ ⟨hq1, hq2⟩ ⟨hy1, hy2⟩
    simp only [List.append_nil, List.nil_append, List.flatten_cons, List.flatten_nil, List.cons_append]
    exact this
set_option maxRecDepth 100000 in
theorem lifted (os : Os) (started : os.Started) (H : Type) (enc : TypeId × Value → H) :
    ReturnsInHanded {} Try.checked os 8 .any (Rows.arrivalMovesSpec.pre6 enc Try.prog Try.f8 Rows.arrivalMovesRow.domain false) (Rows.arrivalMovesSpec.post enc Try.prog Try.f8 false true false false) := by
  refine returnsInHanded_of_change (C := Try.checked) own started (by kernel_rfl) Try.func8
    (ChangeSpec.witness6 (enc := enc) (C := Try.checked) false ⟨#[], #[.agg #[.int .u16 0, .int .u8 0, .int .u8 0, .slice none 0 0], .agg #[.int .u16 0, .int .u16 0], .int .u8 0], []⟩ 8 (by kernel_rfl) (by kernel_rfl) (by kernel_rfl) (by kernel_rfl)) ?_
  intro W base args ds gs before hval0 hW hcnd _
  exact law_postD (P := Try.prog) (Ts := aTys) [] (fun x hx => by cases hx) (by kernel_rfl) laid (by kernel_rfl) (by kernel_rfl) Try.underlying4 rfl (fun l hl => by
    match l, hl with
    | [_, _, _], _ => rfl) hval0 hW core
theorem proved : Rows.ArrivalMovesSaid :=
  OpenClaim.holds_of_wide 8 Try.f8 rfl rfl rfl rfl rfl rfl rfl ⟨rfl, rfl, rfl, rfl, rfl⟩ rfl rfl rfl rfl rfl (by kernel_rfl) Try.func8 (by kernel_rfl)
    (of_decide_eq_true (by kernel_rfl)) (by unfold Func.isWrapper; first | (rw [if_pos (by decide +kernel)]; kernel_rfl) | (rw [if_neg (by decide +kernel)]; exact ⟨rfl, rfl⟩))
    (fun os started H enc _ => lifted os started H enc)
end Go.Proofs.Ytiacdfhaopnekaa
