/- JitterPuts, joined; printed by joinlib.py. It holds for every input. -/
import Derived.Test.YtcpgamgkbbckoaaRows
import Derived.Test.YtcpgamgkbbckoaaAbFzs
import Derived.Test.YtcpgamgkbbckoaaJitJ
import Derived.Test.YtcpgamgkbbckoaaJitLa
import Derived.Test.YtcpgamgkbbckoaaJitK
namespace Go.Proofs.Ytcpgamgkbbckoaa
open Go.Ab Go.ChangeShapes Go.WideShapes Go.ChangeAt Go.RowKit
set_option linter.unusedVariables false
theorem own : ownKnob Try.prog.godebug = none := by kernel_rfl
theorem laid : laidOutB Try.prog = true := by kernel_rfl
def aTys : List TyF := [.st [.f (.i .u8), .st [.f (.i .u16), .f (.i .u32), .sl (.f (.i .u8))], .sl (.f (.st [.i .u16, .b, .i .u8]))], .f (.ar 2 (.st [.i .u8, .i .u8, .i .i64])), .st [.f (.i .i64), .f (.i .i64), .f .b, .f .b, .f (.i .i64), .f (.i .i64), .f (.i .i64), .f (.i .i64), .f (.i .i64), .f (.i .i64), .sl (.st [.st [.f .b, .f (.i .i64), .f (.i .i64), .f (.i .i64), .f (.i .i64), .sl (.f (.i .i64)), .sl (.f (.st [.i .i64, .s])), .f (.i .i64), .f .s], .f (.i .i64)])], .f (.i .i64), .f (.st [.i .u16, .b, .i .u8]), .f (.st [.i .u8, .i .u8, .i .i64])]
set_option maxRecDepth 100000 in
theorem core : ∀ avs, ArgsF aTys avs → FTL Try.prog 3 avs (glH 0 []) 0 (.b true) [] 0 := by
 intro avs h
 show FTL Try.prog 3 avs [] 0 (.b true) [] 0
 obtain ⟨l1, vs1, rfl, d1, l2, vs2, rfl, d2, l3, vs3, rfl, d3, l4, vs4, rfl, d4, l5, vs5, rfl, d5, l6, vs6, rfl, d6, rfl⟩ := h
 obtain ⟨d, rfl, hd⟩ := Jit.dj_shp d1
 obtain ⟨x0, x1, rfl, hx0, hx1, hr0, hr1⟩ := Jit.bx_shp d2
 obtain ⟨raw, rfl, hb1, hb2, hb3⟩ := Jit.bf_shp d3
 obtain ⟨now, rfl, _⟩ := d4
 obtain ⟨_, _, rfl, ⟨wt, rfl, _⟩, _, _, rfl, ⟨pt, rfl⟩, _, _, rfl, ⟨pk, rfl, hpk⟩, rfl⟩ := d5
 obtain ⟨_, _, rfl, ⟨y0, rfl, hy0⟩, _, _, rfl, ⟨y1, rfl, hy1⟩, _, _, rfl, ⟨y2, rfl, _⟩, rfl⟩ := d6
 have hy0 : Jit.inI 0 255 y0 = true := Jit.inI_of hy0
 have hy1 : Jit.inI 0 255 y1 = true := Jit.inI_of hy1
 exact Jit.w3 Jit.s20 d x0 x1 raw now ⟨wt, pt, pk⟩ ⟨y0, y1, y2⟩ hd hx0 hx1 hr0 hr1 hb1 hb2 hb3 hpk (by simp only [Jit.Bm.okB, hy0, hy1, Bool.and_self])
set_option maxRecDepth 100000 in
theorem lifted (os : Os) (started : os.Started) (H : Type) (enc : TypeId × Value → H) :
 ReturnsInHanded {} Try.checked os 3 .any (Rows.jitterPutsSpec.pre6 enc Try.prog Try.f3 Rows.jitterPutsRow.domain false) (Rows.jitterPutsSpec.post enc Try.prog Try.f3 false true false false) := by
 refine returnsInHanded_of_change (C := Try.checked) own started (by kernel_rfl) Try.func3
  (ChangeSpec.witness6 (enc := enc) (C := Try.checked) false ⟨#[], #[.agg #[.int .u8 0, .int .u16 0, .int .u32 0, .slice none 0 0, .slice none 0 0], .agg #[.int .u8 0, .int .u8 0, .int .i64 0, .int .u8 0, .int .u8 0, .int .i64 0], .agg #[.int .i64 0, .int .i64 0, .bool false, .bool false, .int .i64 0, .int .i64 0, .int .i64 0, .int .i64 0, .int .i64 0, .int .i64 0, .slice none 0 0], .int .i64 0, .agg #[.int .u16 0, .bool false, .int .u8 0], .agg #[.int .u8 0, .int .u8 0, .int .i64 0]], []⟩ 8 (by kernel_rfl) (by kernel_rfl) (by kernel_rfl) (by kernel_rfl)) ?_
 intro W base args ds gs before hval0 hW hcnd _
 exact law_postF (P := Try.prog) (Ts := aTys) [] (fun x hx => by cases hx) (by kernel_rfl) laid (by kernel_rfl) (by kernel_rfl) Try.underlying4 rfl (fun l hl => by
  match l, hl with
  | [_, _, _, _, _, _], _ => rfl) hval0 hW core
theorem proved : Rows.JitterPutsSaid :=
 OpenClaim.holds_of_wide 3 Try.f3 rfl rfl rfl rfl rfl rfl rfl ⟨rfl, rfl, rfl, rfl, rfl⟩ rfl rfl rfl rfl rfl (by kernel_rfl) Try.func3 (by kernel_rfl)
  (of_decide_eq_true (by kernel_rfl)) (by unfold Func.isWrapper; first | (rw [if_pos (by decide +kernel)]; kernel_rfl) | (rw [if_neg (by decide +kernel)]; exact ⟨rfl, rfl⟩))
  (fun os started H enc _ => lifted os started H enc)
end Go.Proofs.Ytcpgamgkbbckoaa
