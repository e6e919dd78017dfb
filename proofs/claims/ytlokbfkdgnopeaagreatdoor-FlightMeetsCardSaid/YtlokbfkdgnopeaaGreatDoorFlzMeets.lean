/- FlightMeets, joined, and its card; printed by joinlib.py. It holds for every input. -/
import Derived.Test.YtlokbfkdgnopeaaGreatDoorCards
import Derived.Test.YtlokbfkdgnopeaaGreatDoorTie
import Derived.LaidMore
import Derived.Lay
import Derived.LaidOnce
import Derived.SevenTiedAt
import Derived.Test.YtlokbfkdgnopeaaGreatDoorAbFzs
import Derived.Test.YtlokbfkdgnopeaaGreatDoorFltDa
import Derived.Test.YtlokbfkdgnopeaaGreatDoorFlzLa
namespace Go.Proofs.YtlokbfkdgnopeaaGreatDoor
open Go.Ab Go.ChangeShapes Go.WideShapes Go.ChangeAt Go.RowKit
set_option linter.unusedVariables false
theorem own : ownKnob Tryz.prog.godebug = none := by kernel_rfl
theorem laidOut : laidOutB Tryz.prog = true := by kernel_rfl
def aTys : List TyF := [.st [.f (.i .u16), .sl (.f (.i .u8)), .sl (.sl (.f (.i .u8)))], .sl (.f (.i .u8)), .sl (.f (.i .u8))]
abbrev theLaid : List (String × DataW Unit) := [("unicode/utf8.acceptRanges", Rows.laid_unicode_utf8_acceptRanges), ("unicode/utf8.first", Rows.laid_unicode_utf8_first)]
set_option maxRecDepth 100000 in
theorem core : ∀ avs, ArgsF aTys avs → FTL Tryz.prog 6 avs (glH 0 []) 0 (.b true) [] 0 := by
 intro avs h
 show FTL Tryz.prog 6 avs [] 0 (.b true) [] 0
 obtain ⟨l1, vs1, rfl, d1, l2, vs2, rfl, d2, l3, vs3, rfl, d3, rfl⟩ := h
 obtain ⟨d, hd, rfl⟩ := Flt.dr_shp d1
 obtain ⟨sz, hs, rfl⟩ := Flt.u8s_shp d2
 obtain ⟨od, ho, rfl⟩ := Flt.u8s_shp d3
 exact Flz.w6 d hd sz od hs ho
set_option maxRecDepth 100000 in
theorem lifted (os : Os) (started : os.Started) (H : Type) (enc : TypeId × Value → H) :
 ReturnsInHanded {} Tryz.checked os 6 .any (fun w args => (Rows.flightMeetsSpec.pre enc Tryz.prog Tryz.f6 [] false w args ∧ laidMetH Tryz.prog theLaid w) ∧ sizedMet enc Tryz.prog Tryz.f6 (OpenSpec.ofChange Rows.flightMeetsSpec) false w args)
  (Rows.flightMeetsSpec.post enc Tryz.prog Tryz.f6 false true false false) := by
 refine returnsInHanded_of_change_and (C := Tryz.checked) (X := fun w _ => laidMetH Tryz.prog theLaid w) (fun _ _ _ hh h => h.of_heap hh) own started (by kernel_rfl) Tryz.func6
  (ChangeSpec.witness_shaped (enc := enc) (C := Tryz.checked) (os := os) (X := fun w _ => laidMetH Tryz.prog theLaid w) false (World.laidAll Tryz.prog os theLaid) #[.agg #[.int .u16 0, .slice none 0 0, .slice none 0 0], .slice none 0 0, .slice none 0 0] 8 (World.laidAll_os _ _ _)
    (World.shaped_of_ZipB (by kernel_rfl) (by kernel_rfl)) (by kernel_rfl) (by kernel_rfl) (by kernel_rfl)
    (by rw [MakeChecks.laidMetH_plain _ _ _ (by kernel_rfl)]; exact laidMet_laidAll _ (by kernel_rfl) (by kernel_rfl))) ?_
 intro W base args ds gs before hval0 hW _ _ _ _
 exact law_postF (P := Tryz.prog) (Ts := aTys) [] (fun x hx => by cases hx) (by kernel_rfl) laidOut (by kernel_rfl) (by kernel_rfl) Tryz.underlying4 rfl (fun l hl => by
  match l, hl with
  | [_, _, _], _ => rfl) hval0 hW core
theorem row_holds : Rows.FlightMeetsSaid :=
 OpenClaim.holds_of_wide 6 Tryz.f6 rfl rfl rfl rfl rfl rfl rfl ⟨rfl, rfl, rfl, rfl, rfl⟩ rfl rfl rfl rfl rfl (by kernel_rfl) Tryz.func6 (by kernel_rfl)
  (of_decide_eq_true (by kernel_rfl)) (by unfold Func.isWrapper; first | (rw [if_pos (by decide +kernel)]; kernel_rfl) | (rw [if_neg (by decide +kernel)]; exact ⟨rfl, rfl⟩))
  (fun os started H enc _ => lifted os started H enc)
theorem proved : Rows.FlightMeetsCardSaid :=
 Claim7.holds_tied_plain_at .later [] [.data, .pinned] true (true, Rows.flightMeetsCard.stood.harness.2) true
  row_holds (fun _ h => by cases h) (by kernel_rfl) (fun _ h => by cases h) flightMeets_row_tie rfl ⟨rfl, rfl⟩ (by kernel_rfl) rfl
  (fun f fn hf hfn => by
    obtain rfl : f = 6 := Option.some.inj ((show Tryz.prog.funcNamed Rows.flightMeetsRow.func = some 6 by kernel_rfl).symm.trans hf) |>.symm
    obtain rfl : fn = Tryz.f6 := (Option.some.inj (Tryz.func6.symm.trans hfn)).symm
    exact ⟨by kernel_rfl, fun j t ht => by
     have hall : (Tryz.f6.params.toList.all fun u => !Tryz.prog.wantsStandIn u) = true := by kernel_rfl
     have hm : t ∈ Tryz.f6.params.toList := by simpa using Array.mem_of_getElem? ht
     show Tryz.prog.wantsStandIn t = false
     simpa using List.all_eq_true.1 hall t hm⟩)
  (by kernel_rfl)
end Go.Proofs.YtlokbfkdgnopeaaGreatDoor
