/- JitterPlays, joined; printed by joinlib.py. It holds for every input. -/
import Derived.Test.YtcpgamgkbbckoaaRows
import Derived.Test.YtcpgamgkbbckoaaAbFzs
import Derived.Test.YtcpgamgkbbckoaaJitJ
import Derived.Test.YtcpgamgkbbckoaaJitL5c
import Derived.Test.YtcpgamgkbbckoaaJitK
namespace Go.Proofs.Ytcpgamgkbbckoaa
open Go.Ab Go.ChangeShapes Go.WideShapes Go.ChangeAt Go.RowKit
set_option linter.unusedVariables false
theorem own : ownKnob Try.prog.godebug = none := by kernel_rfl
theorem laid : laidOutB Try.prog = true := by kernel_rfl
def aTys : List TyF := [.st [.f (.i .u8), .st [.f (.i .u16), .f (.i .u32), .sl (.f (.i .u8))], .sl (.f (.st [.i .u16, .b, .i .u8]))], .sl (.f (.i .u8))]
set_option maxRecDepth 100000 in
theorem core : ∀ avs, ArgsF aTys avs → FTL Try.prog 5 avs (glH 0 []) 0 (.b true) [] 0 := by
 intro avs h
 show FTL Try.prog 5 avs [] 0 (.b true) [] 0
 obtain ⟨l1, vs1, rfl, d1, l2, vs2, rfl, d2, rfl⟩ := h
 obtain ⟨d, rfl, hd⟩ := Jit.dj_shp d1
 obtain ⟨ord, rfl, _, ho⟩ := Jit.slF (f := Jit.u8R) (ok := fun x => Jit.inI 0 255 x) (fun x h => by obtain ⟨b, rfl, hb⟩ := h; exact ⟨b, rfl, Jit.inI_of hb⟩) d2
 exact Jit.w5 Jit.s20 d ord hd (fun x hx => Jit.inI_t (ho x hx))
set_option maxRecDepth 100000 in
theorem lifted (os : Os) (started : os.Started) (H : Type) (enc : TypeId × Value → H) :
 ReturnsInHanded {} Try.checked os 5 .any (Rows.jitterPlaysSpec.pre6 enc Try.prog Try.f5 Rows.jitterPlaysRow.domain false) (Rows.jitterPlaysSpec.post enc Try.prog Try.f5 false true false false) := by
 refine returnsInHanded_of_change (C := Try.checked) own started (by kernel_rfl) Try.func5
  (ChangeSpec.witness6 (enc := enc) (C := Try.checked) false ⟨#[], #[.agg #[.int .u8 0, .int .u16 0, .int .u32 0, .slice none 0 0, .slice none 0 0], .slice none 0 0], []⟩ 8 (by kernel_rfl) (by kernel_rfl) (by kernel_rfl) (by kernel_rfl)) ?_
 intro W base args ds gs before hval0 hW hcnd _
 exact law_postF (P := Try.prog) (Ts := aTys) [] (fun x hx => by cases hx) (by kernel_rfl) laid (by kernel_rfl) (by kernel_rfl) Try.underlying4 rfl (fun l hl => by
  match l, hl with
  | [_, _], _ => rfl) hval0 hW core
theorem proved : Rows.JitterPlaysSaid :=
 OpenClaim.holds_of_wide 5 Try.f5 rfl rfl rfl rfl rfl rfl rfl ⟨rfl, rfl, rfl, rfl, rfl⟩ rfl rfl rfl rfl rfl (by kernel_rfl) Try.func5 (by kernel_rfl)
  (of_decide_eq_true (by kernel_rfl)) (by unfold Func.isWrapper; first | (rw [if_pos (by decide +kernel)]; kernel_rfl) | (rw [if_neg (by decide +kernel)]; exact ⟨rfl, rfl⟩))
  (fun os started H enc _ => lifted os started H enc)
end Go.Proofs.Ytcpgamgkbbckoaa
