/- ArrivalStraight, joined; printed by arrjoin.py. It holds for every input. -/
import Derived.Test.YtiacdfhaopnekaaRows
import Derived.Test.YtiacdfhaopnekaaArrJ
import Derived.Test.YtiacdfhaopnekaaArrL9
namespace Go.Proofs.Ytiacdfhaopnekaa
open Go.Ab Go.ChangeShapes Go.WideShapes Go.ChangeAt Go.RowKit
set_option linter.unusedVariables false
theorem own : ownKnob Try.prog.godebug = none := by kernel_rfl
theorem laid : laidOutB Try.prog = true := by kernel_rfl
def aTys : List TyD := [.f (.i .i8), .f (.i .i16), .sl (.i .u8), .sl (.i .i8), .f (.ar 2 (.i .u16))]
set_option maxRecDepth 100000 in
theorem core : ∀ avs hp, ArgsD aTys 0 avs hp → FTL Try.prog 9 avs (hp ++ glH 2 []) 2 (.b true) [] 2 := by
  intro avs hp h
  show FTL Try.prog 9 avs (hp ++ []) 2 (.b true) [] 2
  rw [List.append_nil]
  obtain ⟨l1, vs1, hp1, hq1, rfl, rfl, d1, l2, vs2, hp2, hq2, rfl, rfl, d2, l3, vs3, hp3, hq3, rfl, rfl, d3, l4, vs4, hp4, hq4, rfl, rfl, d4, l5, vs5, hp5, hq5, rfl, rfl, d5, rfl, rfl⟩ := h
  obtain ⟨d1, rfl⟩ := d1
  obtain ⟨d2, rfl⟩ := d2
  obtain ⟨d5, rfl⟩ := d5
  obtain ⟨a, rfl, ha⟩ := d1
  obtain ⟨b, rfl, hb⟩ := d2
  obtain ⟨ls, hrl, rfl, hrf⟩ := d5
  obtain ⟨xs, ks, k1, k2, k3, rfl, rfl⟩ := Arr.sl_shpS (f := Arr.u81) (ok := Arr.inI 0 255) (z := 1) (fun _ => rfl) (fun _ => rfl) (fun x h => by obtain ⟨n, rfl, hn⟩ := h; exact ⟨n, rfl, Arr.inI_iff.2 hn⟩) d3
  obtain ⟨ys, yl, y1, y2, y3, rfl, rfl⟩ := Arr.sl_shpS (f := Arr.i81) (ok := Arr.inI (-128) 127) (z := 1) (fun _ => rfl) (fun _ => rfl) (fun x h => by obtain ⟨n, rfl, hn⟩ := h; exact ⟨n, rfl, Arr.inI_iff.2 hn⟩) d4
  match ls, hrl, hrf with
  | [c, e], _, hrf =>
    obtain ⟨p, rfl, hp1, hp2⟩ := hrf c (by simp)
    obtain ⟨q, rfl, hq1, hq2⟩ := hrf e (by simp)
    have := Arr.w9 a b xs ys ks yl p q k2 y2 k3 ha hb (fun k hk => Arr.inI_iff.1 (List.all_eq_true.1 k1 k hk)) (fun k hk => Arr.inI_iff.1 (List.all_eq_true.1 y1 k hk)) ⟨hp1, hp2⟩ ⟨hq1, hq2⟩
    simp only [List.append_nil, List.nil_append, List.flatten_cons, List.flatten_nil, List.cons_append]
    exact this
set_option maxRecDepth 100000 in
theorem lifted (os : Os) (started : os.Started) (H : Type) (enc : TypeId × Value → H) :
    ReturnsInHanded {} Try.checked os 9 .any (Rows.arrivalStraightSpec.pre6 enc Try.prog Try.f9 Rows.arrivalStraightRow.domain false) (Rows.arrivalStraightSpec.post enc Try.prog Try.f9 false true false false) := by
  refine returnsInHanded_of_change (C := Try.checked) own started (by kernel_rfl) Try.func9
    (ChangeSpec.witness6 (enc := enc) (C := Try.checked) false ⟨#[], #[.int .i8 0, .int .i16 0, .slice none 0 0, .slice none 0 0, .agg #[.int .u16 0, .int .u16 0]], []⟩ 8 (by kernel_rfl) (by kernel_rfl) (by kernel_rfl) (by kernel_rfl)) ?_
  intro W base args ds gs before hval0 hW hcnd _
  exact law_postD (P := Try.prog) (Ts := aTys) [] (fun x hx => by cases hx) (by kernel_rfl) laid (by kernel_rfl) (by kernel_rfl) Try.underlying4 rfl (fun l hl => by
    match l, hl with
    | [_, _, _, _, _], _ => rfl) hval0 hW core
theorem proved : Rows.ArrivalStraightSaid :=
  OpenClaim.holds_of_wide 9 Try.f9 rfl rfl rfl rfl rfl rfl rfl ⟨rfl, rfl, rfl, rfl, rfl⟩ rfl rfl rfl rfl rfl (by kernel_rfl) Try.func9 (by kernel_rfl)
    (of_decide_eq_true (by kernel_rfl)) (by unfold Func.isWrapper; first | (rw [if_pos (by decide +kernel)]; kernel_rfl) | (rw [if_neg (by decide +kernel)]; exact ⟨rfl, rfl⟩))
    (fun os started H enc _ => lifted os started H enc)
end Go.Proofs.Ytiacdfhaopnekaa
