/- RoomContinuous, joined, and its card; printed by joinlib.py. It holds for every input. -/
import Derived.Test.YtibpegmighopbaaGreatDoorX15
import Derived.Test.YtibpegmighopbaaGreatDoorCards
import Derived.Test.YtibpegmighopbaaGreatDoorTie
import Derived.LaidMore
import Derived.Lay
import Derived.LaidOnce
import Derived.SevenTiedAt
set_option maxRecDepth 100000
set_option maxHeartbeats 20000000
set_option linter.unusedSimpArgs false
set_option linter.unusedVariables false
namespace Go.Proofs.YtibpegmighopbaaGreatDoor
open Go.Ab Go.ChangeShapes Go.WideShapes Go.ChangeAt Go.RowKit
theorem row_holds:Rows.RoomContinuousSaid:=
 OpenClaim.holds_of_wide 3 Tryz.f3 rfl rfl rfl rfl rfl rfl rfl ⟨rfl,rfl,rfl,rfl,rfl⟩ rfl rfl rfl rfl rfl (by kernel_rfl) Tryz.func3 jf
  (of_decide_eq_true (by kernel_rfl)) (by unfold Func.isWrapper;first|(rw [if_pos (by decide+kernel)];kernel_rfl)|(rw [if_neg (by decide+kernel)];exact ⟨rfl,rfl⟩))
  (fun os started H enc _=>lifted os started H enc)
theorem proved:Rows.RoomContinuousCardSaid:=
 Claim7.holds_tied_plain_at .later [] [.data,.pinned] true (true,Rows.roomContinuousCard.stood.harness.2) true
  row_holds (fun _ h=>by cases h) (by kernel_rfl) (fun _ h=>by cases h) roomContinuous_row_tie rfl ⟨rfl,rfl⟩ (by kernel_rfl) rfl
  (fun f fn hf hfn=>by
    obtain rfl:f=3:=Option.some.inj ((show Tryz.prog.funcNamed Rows.roomContinuousRow.func=some 3 by kernel_rfl).symm.trans hf) |>.symm
    obtain rfl:fn=Tryz.f3:=(Option.some.inj (Tryz.func3.symm.trans hfn)).symm;exact ⟨by kernel_rfl,fun j t ht=>by
     have hall:(Tryz.f3.params.toList.all fun u=> !Tryz.prog.wantsStandIn u)=true:=by kernel_rfl
     have hm:t∈Tryz.f3.params.toList:=by simpa using Array.mem_of_getElem? ht
     show Tryz.prog.wantsStandIn t=false;simpa using List.all_eq_true.1 hall t hm⟩)
  (by kernel_rfl)
end Go.Proofs.YtibpegmighopbaaGreatDoor
