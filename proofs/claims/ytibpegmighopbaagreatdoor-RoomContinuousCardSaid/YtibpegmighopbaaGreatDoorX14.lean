/- RoomContinuous, joined, and its card; printed by joinlib.py. It holds for every input. -/
import Derived.Test.YtibpegmighopbaaGreatDoorX13
import Derived.Test.YtibpegmighopbaaGreatDoorCards
import Derived.Test.YtibpegmighopbaaGreatDoorTie
import Derived.LaidMore
import Derived.Lay
import Derived.LaidOnce
import Derived.SevenTiedAt
set_option maxRecDepth 100000
set_option maxHeartbeats 20000000
set_option linter.unusedSimpArgs false
set_option linter.unusedVariables false
namespace Go.Proofs.YtibpegmighopbaaGreatDoor
open Go.Ab Go.ChangeShapes Go.WideShapes Go.ChangeAt Go.RowKit
theorem own:ownKnob Tryz.prog.godebug=none:=by kernel_rfl
theorem laidOut:laidOutB Tryz.prog=true:=by kernel_rfl
def aTys:List tA:=[.st [.f (.i .u8),.sl (.st [.f (.i .u8),.f (.i .u8),.f (.i .u8),.f (.ar 3 (.i .u8)),.an 3 (.st [.f (.i .u16),.f (.i .u16),.f (.i .u32),.f (.i .u8),.sl (.f (.i .u8))])]),.sl (.f (.st [.i .u8,.i .u8,.i .u8,.i .u8,.i .u8,.i .u8,.i .u16]))],.sl (.f (.st [.i .u8,.i .u8,.i .u8,.i .u8,.i .u8,.i .u8,.i .u16]))]
abbrev theLaid:List (String×DataW Unit):=[("unicode/utf8.acceptRanges",Rows.laid_unicode_utf8_acceptRanges),("unicode/utf8.first",Rows.laid_unicode_utf8_first)]
set_option maxRecDepth 100000 in
theorem core: ∀avs,C5 aTys avs->bG Tryz.prog 3 avs (Qe 0 []) 0 (.b true) [] 0:=by
 intro avs h;show bG Tryz.prog 3 avs [] 0 (.b true) [] 0;obtain ⟨l1,vs1,rfl,d1,l2,vs2,rfl,d2,rfl⟩:=h;obtain ⟨mb,sh,ac,rfl,hm,hsh,hsl,hac,hacl⟩:=Rom.UR d1;obtain ⟨al,rfl,ha1,ha2⟩:=Rom.slF (f:=Rom.A7.l) (ok:=Rom.A7.ok) (λx h=>Rom.J6 h) d2;exact Rom.w3 mb sh _ al hm hsh hsl (by simp only [AV.aj];exact au _ (bh Rom.A7.aj)) ha2 ha1
set_option maxRecDepth 100000 in
theorem lifted (os:Os) (started:os.Started) (H:Type) (enc:TypeId×Value->H):
 ReturnsInHanded {} Tryz.checked os 3 .any (λw args=>(Rows.roomContinuousSpec.pre enc Tryz.prog Tryz.f3 [] false w args/\laidMetH Tryz.prog theLaid w)/\sizedMet enc Tryz.prog Tryz.f3 (OpenSpec.ofChange Rows.roomContinuousSpec) false w args)
  (Rows.roomContinuousSpec.post enc Tryz.prog Tryz.f3 false true false false):=by
 refine returnsInHanded_of_change_and (C:=Tryz.checked) (X:=λw _=>laidMetH Tryz.prog theLaid w) (λ_ _ _ hh h=>h.of_heap hh) own started (by kernel_rfl) Tryz.func3
  (ChangeSpec.witness_shaped (enc:=enc) (C:=Tryz.checked) (os:=os) (X:=λw _=>laidMetH Tryz.prog theLaid w) false (World.laidAll Tryz.prog os theLaid) #[.agg #[.int .u8 0,.slice none 0 0,.slice none 0 0],.slice none 0 0] 8 (World.laidAll_os _ _ _)
    (World.shaped_of_ZipB (by kernel_rfl) (by kernel_rfl)) (by kernel_rfl) (by kernel_rfl) (by kernel_rfl)
    (by rw [MakeChecks.laidMetH_plain _ _ _ (by kernel_rfl)];exact laidMet_laidAll _ (by kernel_rfl) (by kernel_rfl))) ?_
 intro W base args ds gs before hval0 hW _ _ _ _;exact Hg (P:=Tryz.prog) (Ts:=aTys) [] (λx hx=>by cases hx) (by kernel_rfl) laidOut (by kernel_rfl) (by kernel_rfl) Tryz.underlying4 rfl (λl hl=>by
  match l,hl with
  |[_,_],_=>rfl) hval0 hW core
end Go.Proofs.YtibpegmighopbaaGreatDoor
