/- ArrivalAdds, joined; printed by arrjoin.py. It holds for every input. -/
import Derived.Test.YtiacdfhaopnekaaRows
import Derived.Test.YtiacdfhaopnekaaArrJ2
import Derived.Test.YtiacdfhaopnekaaArrL3
namespace Go.Proofs.Ytiacdfhaopnekaa
open Go.Ab Go.ChangeShapes Go.WideShapes Go.ChangeAt Go.RowKit
set_option linter.unusedVariables false
theorem own : ownKnob Try.prog.godebug = none := by kernel_rfl
theorem laid : laidOutB Try.prog = true := by kernel_rfl
def aTys : List TyD := [Arr.drT, .f (.ar 2 (.st [.i .u8, .i .u8, .i .i64])), Arr.trT, .f (.i .i64), .f (.i .i64), .f (.ar 2 (.i .u16))]
set_option maxRecDepth 100000 in
theorem core : ∀ avs hp, ArgsD aTys 0 avs hp → FTL Try.prog 3 avs (hp ++ glH 2 []) 2 (.b true) [] 2 := by
  intro avs hp h
  show FTL Try.prog 3 avs (hp ++ []) 2 (.b true) [] 2
  rw [List.append_nil]
  obtain ⟨l1, vs1, hp1, hq1, rfl, rfl, d1, l2, vs2, hp2, hq2, rfl, rfl, d2, l3, vs3, hp3, hq3, rfl, rfl, d3, l4, vs4, hp4, hq4, rfl, rfl, d4, l5, vs5, hp5, hq5, rfl, rfl, d5, l6, vs6, hp6, hq6, rfl, rfl, d6, rfl, rfl⟩ := h
  obtain ⟨d, s, pk, hd, hk, hs, hsn, rfl, rfl⟩ := Arr.dr_shpS d1
  obtain ⟨rt, r, rl, hr, hrs, rfl, rfl⟩ := Arr.tr_shpS d3
  obtain ⟨d2, rfl⟩ := d2
  obtain ⟨d4, rfl⟩ := d4
  obtain ⟨d5, rfl⟩ := d5
  obtain ⟨d6, rfl⟩ := d6
  obtain ⟨sent, rfl, _⟩ := d4
  obtain ⟨got, rfl, _⟩ := d5
  obtain ⟨ls, hrl, rfl, hrf⟩ := d6
  obtain ⟨bs, hbl, rfl, hbf⟩ := d2
  match ls, hrl, hrf, bs, hbl, hbf with
  | [c, e], _, hrf, [x, y], _, hbf =>
    obtain ⟨p, rfl, hp1, hp2⟩ := hrf c (by simp)
    obtain ⟨q, rfl, hq1, hq2⟩ := hrf e (by simp)
    obtain ⟨c1, r1, rfl, ⟨w0, rfl, hw0⟩, c2, r2, rfl, ⟨a0, rfl, ha0⟩, c3, r3, rfl, ⟨n0, rfl, _⟩, rfl⟩ := hbf x (by simp)
    obtain ⟨c1, r1, rfl, ⟨w1, rfl, hw1⟩, c2, r2, rfl, ⟨a1, rfl, ha1⟩, c3, r3, rfl, ⟨n1, rfl, _⟩, rfl⟩ := hbf y (by simp)
    have := Arr.w3 d s pk w0 a0 n0 w1 a1 n1 rt r rl sent got p q hs hk hd (Arr.inI_iff.2 hw0) (Arr.inI_iff.2 ha0) (Arr.inI_iff.2 hw1) (Arr.inI_iff.2 ha1) hr hrs ⟨hp1, hp2⟩ ⟨hq1, hq2⟩
    simp only [List.append_nil, List.nil_append, List.flatten_cons, List.flatten_nil, List.cons_append]
    exact this
set_option maxRecDepth 100000 in
theorem lifted (os : Os) (started : os.Started) (H : Type) (enc : TypeId × Value → H) :
    ReturnsInHanded {} Try.checked os 3 .any (Rows.arrivalAddsSpec.pre6 enc Try.prog Try.f3 Rows.arrivalAddsRow.domain false) (Rows.arrivalAddsSpec.post enc Try.prog Try.f3 false true false false) := by
  refine returnsInHanded_of_change (C := Try.checked) own started (by kernel_rfl) Try.func3
    (ChangeSpec.witness6 (enc := enc) (C := Try.checked) false ⟨#[], #[.agg #[.int .u16 0, .int .u8 0, .int .u8 0, .slice none 0 0], .agg #[.int .u8 0, .int .u8 0, .int .i64 0, .int .u8 0, .int .u8 0, .int .i64 0], .agg #[.int .i64 0, .bool false, .bool false, .int .i64 0, .int .i64 0, .int .i64 0, .int .i64 0, .int .i64 0, .int .i64 0, .int .i64 0, .int .i64 0, .int .i64 0, .int .i64 0, .int .i64 0, .int .i64 0, .int .i64 0, .slice none 0 0], .int .i64 0, .int .i64 0, .agg #[.int .u16 0, .int .u16 0]], []⟩ 8 (by kernel_rfl) (by kernel_rfl) (by kernel_rfl) (by kernel_rfl)) ?_
  intro W base args ds gs before hval0 hW hcnd _
  exact law_postD (P := Try.prog) (Ts := aTys) [] (fun x hx => by cases hx) (by kernel_rfl) laid (by kernel_rfl) (by kernel_rfl) Try.underlying4 rfl (fun l hl => by
    match l, hl with
    | [_, _, _, _, _, _], _ => rfl) hval0 hW core
theorem proved : Rows.ArrivalAddsSaid :=
  OpenClaim.holds_of_wide 3 Try.f3 rfl rfl rfl rfl rfl rfl rfl ⟨rfl, rfl, rfl, rfl, rfl⟩ rfl rfl rfl rfl rfl (by kernel_rfl) Try.func3 (by kernel_rfl)
    (of_decide_eq_true (by kernel_rfl)) (by unfold Func.isWrapper; first | (rw [if_pos (by decide +kernel)]; kernel_rfl) | (rw [if_neg (by decide +kernel)]; exact ⟨rfl, rfl⟩))
    (fun os started H enc _ => lifted os started H enc)
end Go.Proofs.Ytiacdfhaopnekaa
