/- FlightTakes, joined, and its card; printed by joinlib.py. It holds for every input. -/
import Derived.Test.YtlokbfkdgnopeaaGreatDoorX12
import Derived.Test.YtlokbfkdgnopeaaGreatDoorCards
import Derived.Test.YtlokbfkdgnopeaaGreatDoorTie
import Derived.LaidMore
import Derived.Lay
import Derived.LaidOnce
import Derived.SevenTiedAt
set_option maxRecDepth 100000
set_option maxHeartbeats 4000000
set_option linter.unusedSimpArgs false
set_option linter.unusedVariables false
namespace Go.Proofs.YtlokbfkdgnopeaaGreatDoor
open Go.Ab Go.ChangeShapes Go.WideShapes Go.ChangeAt Go.RowKit
theorem own:ownKnob Tryz.prog.godebug=none:=by kernel_rfl
theorem laidOut:laidOutB Tryz.prog=true:=by kernel_rfl
def aTys:List TyF:=[.st [.f (.i .u16),.sl (.f (.i .u8)),.sl (.sl (.f (.i .u8)))],.sl (.f (.i .u8)),.sl (.f (.i .u8)),.f (.i .u8),.f (.st [.i .u8,.i .u8,.i .u8,.i .i64,.i .u8]),.f .s]
abbrev theLaid:List (String×DataW Unit):=[("unicode/utf8.acceptRanges",Rows.laid_unicode_utf8_acceptRanges),("unicode/utf8.first",Rows.laid_unicode_utf8_first)]
set_option maxRecDepth 100000 in
theorem core: ∀avs,ArgsF aTys avs->FTL Tryz.prog 4 avs (glH 0 []) 0 (.b true) [] 0:=by
 intro avs h;show FTL Tryz.prog 4 avs [] 0 (.b true) [] 0;obtain ⟨l1,vs1,rfl,d1,l2,vs2,rfl,d2,l3,vs3,rfl,d3,l4,vs4,rfl,d4,l5,vs5,rfl,d5,l6,vs6,rfl,d6,rfl⟩:=h;obtain ⟨d,hd,rfl⟩:=Flt.dr_shp d1;obtain ⟨sz,hs,rfl⟩:=Flt.u8s_shp d2;obtain ⟨od,ho,rfl⟩:=Flt.u8s_shp d3;obtain ⟨a,rfl,ha⟩:=d4;obtain ⟨c1,r1,rfl,⟨w,rfl,hw⟩,c2,r2,rfl,⟨at_,rfl,hat⟩,c3,r3,rfl,⟨k,rfl,hk⟩,c4,r4,rfl,⟨n,rfl,_⟩,c5,r5,rfl,⟨oc,rfl,hoc⟩,rfl⟩:=d5;obtain ⟨raw,rfl,hraw⟩:=d6;have ha:=Flt.u8_rng ha;have hw:=Flt.u8_rng hw;have hat:=Flt.u8_rng hat;have hk:=Flt.u8_rng hk;have hoc:=Flt.u8_rng hoc;have:=Flz.w4 d hd sz od a.toNat (by omega) w.toNat at_.toNat k.toNat oc.toNat n (by omega) (by omega) (by omega) raw hs ho hraw
 simp only [Flz.bnA] at this;rw [Int.toNat_of_nonneg ha.1,Int.toNat_of_nonneg hw.1,Int.toNat_of_nonneg hat.1,Int.toNat_of_nonneg hk.1,Int.toNat_of_nonneg hoc.1] at this;exact this
set_option maxRecDepth 100000 in
theorem lifted (os:Os) (started:os.Started) (H:Type) (enc:TypeId×Value->H):
 ReturnsInHanded {} Tryz.checked os 4 .any (fun w args=>(Rows.flightTakesSpec.pre enc Tryz.prog Tryz.f4 [] false w args/\laidMetH Tryz.prog theLaid w)/\sizedMet enc Tryz.prog Tryz.f4 (OpenSpec.ofChange Rows.flightTakesSpec) false w args)
  (Rows.flightTakesSpec.post enc Tryz.prog Tryz.f4 false true false false):=by
 refine returnsInHanded_of_change_and (C:=Tryz.checked) (X:=fun w _=>laidMetH Tryz.prog theLaid w) (fun _ _ _ hh h=>h.of_heap hh) own started (by kernel_rfl) Tryz.func4
  (ChangeSpec.witness_shaped (enc:=enc) (C:=Tryz.checked) (os:=os) (X:=fun w _=>laidMetH Tryz.prog theLaid w) false (World.laidAll Tryz.prog os theLaid) #[.agg #[.int .u16 0,.slice none 0 0,.slice none 0 0],.slice none 0 0,.slice none 0 0,.int .u8 0,.agg #[.int .u8 0,.int .u8 0,.int .u8 0,.int .i64 0,.int .u8 0],.string ⟨#[]⟩] 8 (World.laidAll_os _ _ _)
    (World.shaped_of_ZipB (by kernel_rfl) (by kernel_rfl)) (by kernel_rfl) (by kernel_rfl) (by kernel_rfl)
    (by rw [MakeChecks.laidMetH_plain _ _ _ (by kernel_rfl)];exact laidMet_laidAll _ (by kernel_rfl) (by kernel_rfl))) ?_
 intro W base args ds gs before hval0 hW _ _ _ _;exact law_postF (P:=Tryz.prog) (Ts:=aTys) [] (fun x hx=>by cases hx) (by kernel_rfl) laidOut (by kernel_rfl) (by kernel_rfl) Tryz.underlying4 rfl (fun l hl=>by
  match l,hl with
  |[_,_,_,_,_,_],_=>rfl) hval0 hW core
theorem row_holds:Rows.FlightTakesSaid:=
 OpenClaim.holds_of_wide 4 Tryz.f4 rfl rfl rfl rfl rfl rfl rfl ⟨rfl,rfl,rfl,rfl,rfl⟩ rfl rfl rfl rfl rfl (by kernel_rfl) Tryz.func4 (by kernel_rfl)
  (of_decide_eq_true (by kernel_rfl)) (by unfold Func.isWrapper;first|(rw [if_pos (by decide+kernel)];kernel_rfl)|(rw [if_neg (by decide+kernel)];exact ⟨rfl,rfl⟩))
  (fun os started H enc _=>lifted os started H enc)
theorem proved:Rows.FlightTakesCardSaid:=
 Claim7.holds_tied_plain_at .later [] [.data,.pinned] true (true,Rows.flightTakesCard.stood.harness.2) true
  row_holds (fun _ h=>by cases h) (by kernel_rfl) (fun _ h=>by cases h) flightTakes_row_tie rfl ⟨rfl,rfl⟩ (by kernel_rfl) rfl
  (fun f fn hf hfn=>by
    obtain rfl:f=4:=Option.some.inj ((show Tryz.prog.funcNamed Rows.flightTakesRow.func=some 4 by kernel_rfl).symm.trans hf) |>.symm
    obtain rfl:fn=Tryz.f4:=(Option.some.inj (Tryz.func4.symm.trans hfn)).symm;exact ⟨by kernel_rfl,fun j t ht=>by
     have hall:(Tryz.f4.params.toList.all fun u=> !Tryz.prog.wantsStandIn u)=true:=by kernel_rfl
     have hm:t∈Tryz.f4.params.toList:=by simpa using Array.mem_of_getElem? ht
     show Tryz.prog.wantsStandIn t=false;simpa using List.all_eq_true.1 hall t hm⟩)
  (by kernel_rfl)
end Go.Proofs.YtlokbfkdgnopeaaGreatDoor
