/- JitterTakes, joined; printed by joinlib.py. It holds for every input. -/
import Derived.Test.YtcpgamgkbbckoaaRows
import Derived.Test.YtcpgamgkbbckoaaAbFzs
import Derived.Test.YtcpgamgkbbckoaaJitJ
import Derived.Test.YtcpgamgkbbckoaaJitL4b
import Derived.Test.YtcpgamgkbbckoaaJitK
namespace Go.Proofs.Ytcpgamgkbbckoaa
open Go.Ab Go.ChangeShapes Go.WideShapes Go.ChangeAt Go.RowKit
set_option linter.unusedVariables false
theorem own : ownKnob Try.prog.godebug = none := by kernel_rfl
theorem laid : laidOutB Try.prog = true := by kernel_rfl
def aTys : List TyF := [.st [.f (.i .u8), .st [.f (.i .u16), .f (.i .u32), .sl (.f (.i .u8))], .sl (.f (.st [.i .u16, .b, .i .u8]))], .f (.ar 2 (.st [.i .u8, .i .u8, .i .i64])), .st [.f (.i .i64), .f (.i .i64), .f .b, .f .b, .f (.i .i64), .f (.i .i64), .f (.i .i64), .f (.i .i64), .f (.i .i64), .f (.i .i64), .sl (.st [.st [.f .b, .f (.i .i64), .f (.i .i64), .f (.i .i64), .f (.i .i64), .sl (.f (.i .i64)), .sl (.f (.st [.i .i64, .s])), .f (.i .i64), .f .s], .f (.i .i64)])], .f (.i .i64), .f (.i .u16)]
set_option maxRecDepth 100000 in
theorem core : ∀ avs, ArgsF aTys avs → FTL Try.prog 4 avs (glH 0 []) 0 (.b true) [] 0 := by
 intro avs h
 show FTL Try.prog 4 avs [] 0 (.b true) [] 0
 obtain ⟨l1, vs1, rfl, d1, l2, vs2, rfl, d2, l3, vs3, rfl, d3, l4, vs4, rfl, d4, l5, vs5, rfl, d5, rfl⟩ := h
 obtain ⟨d, rfl, hd⟩ := Jit.dj_shp d1
 obtain ⟨x0, x1, rfl, hx0, hx1, hr0, hr1⟩ := Jit.bx_shp d2
 obtain ⟨raw, rfl, hb1, hb2, hb3⟩ := Jit.bf_shp d3
 obtain ⟨now, rfl, _⟩ := d4
 obtain ⟨wt, rfl, _⟩ := d5
 exact Jit.w4 Jit.s20 d x0 x1 raw now wt hd hx0 hx1 hr0 hr1 hb1 hb2 hb3
set_option maxRecDepth 100000 in
theorem lifted (os : Os) (started : os.Started) (H : Type) (enc : TypeId × Value → H) :
 ReturnsInHanded {} Try.checked os 4 .any (Rows.jitterTakesSpec.pre6 enc Try.prog Try.f4 Rows.jitterTakesRow.domain false) (Rows.jitterTakesSpec.post enc Try.prog Try.f4 false true false false) := by
 refine returnsInHanded_of_change (C := Try.checked) own started (by kernel_rfl) Try.func4
  (ChangeSpec.witness6 (enc := enc) (C := Try.checked) false ⟨#[], #[.agg #[.int .u8 0, .int .u16 0, .int .u32 0, .slice none 0 0, .slice none 0 0], .agg #[.int .u8 0, .int .u8 0, .int .i64 0, .int .u8 0, .int .u8 0, .int .i64 0], .agg #[.int .i64 0, .int .i64 0, .bool false, .bool false, .int .i64 0, .int .i64 0, .int .i64 0, .int .i64 0, .int .i64 0, .int .i64 0, .slice none 0 0], .int .i64 0, .int .u16 0], []⟩ 8 (by kernel_rfl) (by kernel_rfl) (by kernel_rfl) (by kernel_rfl)) ?_
 intro W base args ds gs before hval0 hW hcnd _
 exact law_postF (P := Try.prog) (Ts := aTys) [] (fun x hx => by cases hx) (by kernel_rfl) laid (by kernel_rfl) (by kernel_rfl) Try.underlying4 rfl (fun l hl => by
  match l, hl with
  | [_, _, _, _, _], _ => rfl) hval0 hW core
theorem proved : Rows.JitterTakesSaid :=
 OpenClaim.holds_of_wide 4 Try.f4 rfl rfl rfl rfl rfl rfl rfl ⟨rfl, rfl, rfl, rfl, rfl⟩ rfl rfl rfl rfl rfl (by kernel_rfl) Try.func4 (by kernel_rfl)
  (of_decide_eq_true (by kernel_rfl)) (by unfold Func.isWrapper; first | (rw [if_pos (by decide +kernel)]; kernel_rfl) | (rw [if_neg (by decide +kernel)]; exact ⟨rfl, rfl⟩))
  (fun os started H enc _ => lifted os started H enc)
end Go.Proofs.Ytcpgamgkbbckoaa
