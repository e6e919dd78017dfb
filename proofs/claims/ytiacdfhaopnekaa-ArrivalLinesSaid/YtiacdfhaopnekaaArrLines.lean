/- ArrivalLines, joined; printed by arrjoin.py. It holds for every input. -/
import Derived.Test.YtiacdfhaopnekaaRows
import Derived.Test.YtiacdfhaopnekaaArrJ
import Derived.Test.YtiacdfhaopnekaaArrL5
namespace Go.Proofs.Ytiacdfhaopnekaa
open Go.Ab Go.ChangeShapes Go.WideShapes Go.ChangeAt Go.RowKit
set_option linter.unusedVariables false
theorem own : ownKnob Try.prog.godebug = none := by kernel_rfl
theorem laid : laidOutB Try.prog = true := by kernel_rfl
def aTys : List TyD := [.sl (.st [.i .i64, .i .i64]), .f (.st [.i .i64, .i .i64]), .sl (.ar 2 (.i .i16))]
set_option maxRecDepth 100000 in
theorem core : ∀ avs hp, ArgsD aTys 0 avs hp → FTL Try.prog 5 avs (hp ++ glH 2 []) 2 (.b true) [] 2 := by
  intro avs hp h
  show FTL Try.prog 5 avs (hp ++ []) 2 (.b true) [] 2
  rw [List.append_nil]
  obtain ⟨l1, vs1, hp1, hq1, rfl, rfl, d1, l2, vs2, hp2, hq2, rfl, rfl, d2, l3, vs3, hp3, hq3, rfl, rfl, d3, rfl, rfl⟩ := h
  obtain ⟨d2, rfl⟩ := d2
  obtain ⟨c1, r1, rfl, ⟨fx, rfl, _⟩, c2, r2, rfl, ⟨fy, rfl, _⟩, rfl⟩ := d2
  obtain ⟨raw, rl, _, k2, k3, rfl, rfl⟩ := Arr.sl_shpS (f := Arr.Pt.l) (ok := fun _ => true) (z := 2) (fun _ => rfl) (fun _ => rfl) (fun x h => by obtain ⟨c1, r1, rfl, ⟨n, rfl, _⟩, c2, r2, rfl, ⟨m, rfl, _⟩, rfl⟩ := h; exact ⟨⟨n, m⟩, rfl, rfl⟩) d1
  obtain ⟨sp, ss, _, y2, y3, rfl, rfl⟩ := Arr.sl_shpS (f := Arr.s2l) (ok := fun _ => true) (z := 2) (fun _ => rfl) (fun _ => rfl) (fun x h => by
    obtain ⟨ls, hrl, rfl, hrf⟩ := h
    match ls, hrl, hrf with
    | [c, e], _, hrf =>
      obtain ⟨p, rfl, _⟩ := hrf c (by simp)
      obtain ⟨q, rfl, _⟩ := hrf e (by simp)
      exact ⟨⟨p, q⟩, rfl, rfl⟩) d3
  have := Arr.w5 raw sp rl ss fx fy k2 k3 y2 y3
  simp only [List.append_nil, List.nil_append]
  exact this
set_option maxRecDepth 100000 in
theorem lifted (os : Os) (started : os.Started) (H : Type) (enc : TypeId × Value → H) :
    ReturnsInHanded {} Try.checked os 5 .any (Rows.arrivalLinesSpec.pre6 enc Try.prog Try.f5 Rows.arrivalLinesRow.domain false) (Rows.arrivalLinesSpec.post enc Try.prog Try.f5 false true false false) := by
  refine returnsInHanded_of_change (C := Try.checked) own started (by kernel_rfl) Try.func5
    (ChangeSpec.witness6 (enc := enc) (C := Try.checked) false ⟨#[], #[.slice none 0 0, .agg #[.int .i64 0, .int .i64 0], .slice none 0 0], []⟩ 8 (by kernel_rfl) (by kernel_rfl) (by kernel_rfl) (by kernel_rfl)) ?_
  intro W base args ds gs before hval0 hW hcnd _
  exact law_postD (P := Try.prog) (Ts := aTys) [] (fun x hx => by cases hx) (by kernel_rfl) laid (by kernel_rfl) (by kernel_rfl) Try.underlying4 rfl (fun l hl => by
    match l, hl with
    | [_, _, _], _ => rfl) hval0 hW core
theorem proved : Rows.ArrivalLinesSaid :=
  OpenClaim.holds_of_wide 5 Try.f5 rfl rfl rfl rfl rfl rfl rfl ⟨rfl, rfl, rfl, rfl, rfl⟩ rfl rfl rfl rfl rfl (by kernel_rfl) Try.func5 (by kernel_rfl)
    (of_decide_eq_true (by kernel_rfl)) (by unfold Func.isWrapper; first | (rw [if_pos (by decide +kernel)]; kernel_rfl) | (rw [if_neg (by decide +kernel)]; exact ⟨rfl, rfl⟩))
    (fun os started H enc _ => lifted os started H enc)
end Go.Proofs.Ytiacdfhaopnekaa
