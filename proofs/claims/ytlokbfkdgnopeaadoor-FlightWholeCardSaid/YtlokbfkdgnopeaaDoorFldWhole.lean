/- FlightWhole, joined, and its card; printed by joinlib.py. It holds for every input. -/
import Derived.Test.YtlokbfkdgnopeaaDoorCards
import Derived.Test.YtlokbfkdgnopeaaDoorTie
import Derived.LaidMore
import Derived.Lay
import Derived.LaidOnce
import Derived.SevenTiedAt
import Derived.Test.YtlokbfkdgnopeaaDoorAbFzs
import Derived.Test.YtlokbfkdgnopeaaDoorFldL3
namespace Go.Proofs.YtlokbfkdgnopeaaDoor
open Go.Ab Go.ChangeShapes Go.WideShapes Go.ChangeAt Go.RowKit
set_option linter.unusedVariables false
theorem own : ownKnob Tryd.prog.godebug = none := by kernel_rfl
theorem laidOut : laidOutB Tryd.prog = true := by kernel_rfl
def aTys : List TyF := [.f (.i .u8), .f (.i .u16), .sl (.f (.i .u8)), .f (.i .u8), .f (.i .u16)]
abbrev theLaid : List (String × DataW Unit) := [("unicode/utf8.acceptRanges", Rows.laid_unicode_utf8_acceptRanges), ("unicode/utf8.first", Rows.laid_unicode_utf8_first)]
set_option maxRecDepth 100000 in
theorem core : ∀ avs, ArgsF aTys avs → FTL Tryd.prog 3 avs (glH 0 []) 0 (.b true) [] 0 := by
 intro avs h
 show FTL Tryd.prog 3 avs [] 0 (.b true) [] 0
 obtain ⟨l1, vs1, rfl, d1, l2, vs2, rfl, d2, l3, vs3, rfl, d3, l4, vs4, rfl, d4, l5, vs5, rfl, d5, rfl⟩ := h
 obtain ⟨kd, rfl, hk⟩ := d1
 obtain ⟨sq, rfl, hq⟩ := d2
 obtain ⟨b, hb, rfl⟩ := Flt.u8s_shp d3
 obtain ⟨tm, rfl, ht⟩ := d4
 obtain ⟨sz, rfl, hz⟩ := d5
 exact Fld.w3 kd sq b tm sz (Flt.u8_rng hk) (Flt.u16_rng hq) hb (Flt.u8_rng ht) (Flt.u16_rng hz)
set_option maxRecDepth 100000 in
theorem lifted (os : Os) (started : os.Started) (H : Type) (enc : TypeId × Value → H) :
 ReturnsInHanded {} Tryd.checked os 3 .any (fun w args => (Rows.flightWholeSpec.pre enc Tryd.prog Tryd.f3 [] false w args ∧ laidMetH Tryd.prog theLaid w) ∧ sizedMet enc Tryd.prog Tryd.f3 (OpenSpec.ofChange Rows.flightWholeSpec) false w args)
  (Rows.flightWholeSpec.post enc Tryd.prog Tryd.f3 false true false false) := by
 refine returnsInHanded_of_change_and (C := Tryd.checked) (X := fun w _ => laidMetH Tryd.prog theLaid w) (fun _ _ _ hh h => h.of_heap hh) own started (by kernel_rfl) Tryd.func3
  (ChangeSpec.witness_shaped (enc := enc) (C := Tryd.checked) (os := os) (X := fun w _ => laidMetH Tryd.prog theLaid w) false (World.laidAll Tryd.prog os theLaid) #[.int .u8 0, .int .u16 0, .slice none 0 0, .int .u8 0, .int .u16 0] 8 (World.laidAll_os _ _ _)
    (World.shaped_of_ZipB (by kernel_rfl) (by kernel_rfl)) (by kernel_rfl) (by kernel_rfl) (by kernel_rfl)
    (by rw [MakeChecks.laidMetH_plain _ _ _ (by kernel_rfl)]; exact laidMet_laidAll _ (by kernel_rfl) (by kernel_rfl))) ?_
 intro W base args ds gs before hval0 hW _ _ _ _
 exact law_postF (P := Tryd.prog) (Ts := aTys) [] (fun x hx => by cases hx) (by kernel_rfl) laidOut (by kernel_rfl) (by kernel_rfl) Tryd.underlying4 rfl (fun l hl => by
  match l, hl with
  | [_, _, _, _, _], _ => rfl) hval0 hW core
theorem row_holds : Rows.FlightWholeSaid :=
 OpenClaim.holds_of_wide 3 Tryd.f3 rfl rfl rfl rfl rfl rfl rfl ⟨rfl, rfl, rfl, rfl, rfl⟩ rfl rfl rfl rfl rfl (by kernel_rfl) Tryd.func3 (by kernel_rfl)
  (of_decide_eq_true (by kernel_rfl)) (by unfold Func.isWrapper; first | (rw [if_pos (by decide +kernel)]; kernel_rfl) | (rw [if_neg (by decide +kernel)]; exact ⟨rfl, rfl⟩))
  (fun os started H enc _ => lifted os started H enc)
theorem proved : Rows.FlightWholeCardSaid :=
 Claim7.holds_tied_plain_at .later [] [.data, .pinned] true (true, Rows.flightWholeCard.stood.harness.2) true
  row_holds (fun _ h => by cases h) (by kernel_rfl) (fun _ h => by cases h) flightWhole_row_tie rfl ⟨rfl, rfl⟩ (by kernel_rfl) rfl
  (fun f fn hf hfn => by
    obtain rfl : f = 3 := Option.some.inj ((show Tryd.prog.funcNamed Rows.flightWholeRow.func = some 3 by kernel_rfl).symm.trans hf) |>.symm
    obtain rfl : fn = Tryd.f3 := (Option.some.inj (Tryd.func3.symm.trans hfn)).symm
    exact ⟨by kernel_rfl, fun j t ht => by
     have hall : (Tryd.f3.params.toList.all fun u => !Tryd.prog.wantsStandIn u) = true := by kernel_rfl
     have hm : t ∈ Tryd.f3.params.toList := by simpa using Array.mem_of_getElem? ht
     show Tryd.prog.wantsStandIn t = false
     simpa using List.all_eq_true.1 hall t hm⟩)
  (by kernel_rfl)
end Go.Proofs.YtlokbfkdgnopeaaDoor
