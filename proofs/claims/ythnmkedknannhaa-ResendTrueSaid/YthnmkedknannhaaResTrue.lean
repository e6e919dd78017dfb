/- ResendTrue, joined; printed by joinlib.py. It holds for every input. -/
import Derived.Test.YthnmkedknannhaaX9
import Derived.Test.YthnmkedknannhaaRows
set_option maxRecDepth 100000
set_option maxHeartbeats 4000000
set_option linter.unusedSimpArgs false
set_option linter.unusedVariables false
namespace Go.Proofs.Ythnmkedknannhaa
open Go.Ab Go.ChangeShapes Go.WideShapes Go.ChangeAt Go.RowKit
theorem own:ownKnob Try.prog.godebug=none:=by kernel_rfl
theorem laid:laidOutB Try.prog=true:=by kernel_rfl
def aTys:List TyF:=[.st [.f (.i .u16),.f (.i .u16),.sl (.f (.st [.i .u8,.i .u16,.i .i8]))],.f (.i .u8)]
set_option maxRecDepth 100000 in
theorem core: ∀avs,ArgsF aTys avs->FTL Try.prog 7 avs (glH 0 []) 0 (.b true) [] 0:=by
 intro avs h;show FTL Try.prog 7 avs [] 0 (.b true) [] 0;obtain ⟨l1,vs1,rfl,d1,l2,vs2,rfl,d2,rfl⟩:=h;obtain ⟨d,rfl,hd⟩:=Res.dr_shp d1;obtain ⟨tu,rfl,ht⟩:=d2;exact Res.w7 d hd tu ht
set_option maxRecDepth 100000 in
theorem lifted (os:Os) (started:os.Started) (H:Type) (enc:TypeId×Value->H):
 ReturnsInHanded {} Try.checked os 7 .any (Rows.resendTrueSpec.pre6 enc Try.prog Try.f7 Rows.resendTrueRow.domain false) (Rows.resendTrueSpec.post enc Try.prog Try.f7 false true false false):=by
 refine returnsInHanded_of_change (C:=Try.checked) own started (by kernel_rfl) Try.func7
  (ChangeSpec.witness6 (enc:=enc) (C:=Try.checked) false ⟨#[],#[.agg #[.int .u16 0,.int .u16 0,.slice none 0 0],.int .u8 0],[]⟩ 8 (by kernel_rfl) (by kernel_rfl) (by kernel_rfl) (by kernel_rfl)) ?_
 intro W base args ds gs before hval0 hW hcnd _;exact law_postF (P:=Try.prog) (Ts:=aTys) [] (fun x hx=>by cases hx) (by kernel_rfl) laid (by kernel_rfl) (by kernel_rfl) Try.underlying4 rfl (fun l hl=>by
  match l,hl with
  |[_,_],_=>rfl) hval0 hW core
theorem proved:Rows.ResendTrueSaid:=
 OpenClaim.holds_of_wide 7 Try.f7 rfl rfl rfl rfl rfl rfl rfl ⟨rfl,rfl,rfl,rfl,rfl⟩ rfl rfl rfl rfl rfl (by kernel_rfl) Try.func7 (by kernel_rfl)
  (of_decide_eq_true (by kernel_rfl)) (by unfold Func.isWrapper;first|(rw [if_pos (by decide+kernel)];kernel_rfl)|(rw [if_neg (by decide+kernel)];exact ⟨rfl,rfl⟩))
  (fun os started H enc _=>lifted os started H enc)
end Go.Proofs.Ythnmkedknannhaa
