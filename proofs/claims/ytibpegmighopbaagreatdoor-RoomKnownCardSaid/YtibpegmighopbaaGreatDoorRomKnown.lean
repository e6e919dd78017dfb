/- RoomKnown, joined, and its card; printed by joinlib.py. It holds for every input. -/
import Derived.Test.YtibpegmighopbaaGreatDoorX7
import Derived.Test.YtibpegmighopbaaGreatDoorCards
import Derived.Test.YtibpegmighopbaaGreatDoorTie
import Derived.LaidMore
import Derived.Lay
import Derived.LaidOnce
import Derived.SevenTiedAt
set_option maxRecDepth 100000
set_option maxHeartbeats 20000000
set_option linter.unusedSimpArgs false
set_option linter.unusedVariables false
namespace Go.Proofs.YtibpegmighopbaaGreatDoor
open Go.Ab Go.ChangeShapes Go.WideShapes Go.ChangeAt Go.RowKit
theorem own:ownKnob Tryz.prog.godebug=none:=by kernel_rfl
theorem laidOut:laidOutB Tryz.prog=true:=by kernel_rfl
def aTys:List wA:=[]
abbrev theLaid:List (String×DataW Unit):=[("unicode/utf8.acceptRanges",Rows.laid_unicode_utf8_acceptRanges),("unicode/utf8.first",Rows.laid_unicode_utf8_first)]
set_option maxRecDepth 100000 in
theorem core: ∀avs,BJ aTys avs->bt Tryz.prog 4 avs (M8 0 []) 0 (.b true) [] 0:=by
 intro avs h;show bt Tryz.prog 4 avs [] 0 (.b true) [] 0;cases h;exact Rom.w4
set_option maxRecDepth 100000 in
theorem lifted (os:Os) (started:os.Started) (H:Type) (enc:TypeId×Value->H):
 ReturnsInHanded {} Tryz.checked os 4 .any (fun w args=>(Rows.roomKnownSpec.pre enc Tryz.prog Tryz.f4 [] false w args/\laidMetH Tryz.prog theLaid w)/\sizedMet enc Tryz.prog Tryz.f4 (OpenSpec.ofChange Rows.roomKnownSpec) false w args)
  (Rows.roomKnownSpec.post enc Tryz.prog Tryz.f4 false true false false):=by
 refine returnsInHanded_of_change_and (C:=Tryz.checked) (X:=fun w _=>laidMetH Tryz.prog theLaid w) (fun _ _ _ hh h=>h.of_heap hh) own started (by kernel_rfl) Tryz.func4
  (ChangeSpec.witness_shaped (enc:=enc) (C:=Tryz.checked) (os:=os) (X:=fun w _=>laidMetH Tryz.prog theLaid w) false (World.laidAll Tryz.prog os theLaid) #[] 8 (World.laidAll_os _ _ _)
    (World.shaped_of_ZipB (by kernel_rfl) (by kernel_rfl)) (by kernel_rfl) (by kernel_rfl) (by kernel_rfl)
    (by rw [MakeChecks.laidMetH_plain _ _ _ (by kernel_rfl)];exact laidMet_laidAll _ (by kernel_rfl) (by kernel_rfl))) ?_
 intro W base args ds gs before hval0 hW _ _ _ _;exact GM (P:=Tryz.prog) (Ts:=aTys) [] (fun x hx=>by cases hx) (by kernel_rfl) laidOut (by kernel_rfl) (by kernel_rfl) Tryz.underlying4 rfl (fun l hl=>by
  match l,hl with
  |[],_=>rfl) hval0 hW core
theorem row_holds:Rows.RoomKnownSaid:=
 OpenClaim.holds_of_wide 4 Tryz.f4 rfl rfl rfl rfl rfl rfl rfl ⟨rfl,rfl,rfl,rfl,rfl⟩ rfl rfl rfl rfl rfl (by kernel_rfl) Tryz.func4 (by kernel_rfl)
  (of_decide_eq_true (by kernel_rfl)) (by unfold Func.isWrapper;first|(rw [if_pos (by decide+kernel)];kernel_rfl)|(rw [if_neg (by decide+kernel)];exact ⟨rfl,rfl⟩))
  (fun os started H enc _=>lifted os started H enc)
theorem proved:Rows.RoomKnownCardSaid:=
 Claim7.holds_tied_plain_at .later [] [.data,.pinned] true (true,Rows.roomKnownCard.stood.harness.2) true
  row_holds (fun _ h=>by cases h) (by kernel_rfl) (fun _ h=>by cases h) roomKnown_row_tie rfl ⟨rfl,rfl⟩ (by kernel_rfl) rfl
  (fun f fn hf hfn=>by
    obtain rfl:f=4:=Option.some.inj ((show Tryz.prog.funcNamed Rows.roomKnownRow.func=some 4 by kernel_rfl).symm.trans hf) |>.symm
    obtain rfl:fn=Tryz.f4:=(Option.some.inj (Tryz.func4.symm.trans hfn)).symm;exact ⟨by kernel_rfl,fun j t ht=>by
     have hall:(Tryz.f4.params.toList.all fun u=> !Tryz.prog.wantsStandIn u)=true:=by kernel_rfl
     have hm:t∈Tryz.f4.params.toList:=by simpa using Array.mem_of_getElem? ht
     show Tryz.prog.wantsStandIn t=false;simpa using List.all_eq_true.1 hall t hm⟩)
  (by kernel_rfl)
end Go.Proofs.YtibpegmighopbaaGreatDoor
