/- RateRises, joined, and its card; printed by ratjoin.py. It holds for every input. -/
import Derived.Test.YtbnmgcfipgfllaaDoorRatG
import Derived.Test.YtbnmgcfipgfllaaDoorRatL7
import Derived.Test.YtbnmgcfipgfllaaDoorRatJ
import Derived.Test.YtbnmgcfipgfllaaDoorCards
import Derived.Test.YtbnmgcfipgfllaaDoorTie
import Derived.SevenTiedAt
namespace Go.Proofs.YtbnmgcfipgfllaaDoor
open Go.Ab Go.ChangeShapes Go.WideShapes Go.ChangeAt Go.RowKit
set_option linter.unusedVariables false
def aTys : List TyD := [Rate.draftT, .f (.i .u8)]
set_option maxRecDepth 100000 in
theorem core : ∀ avs hp, ArgsD aTys 0 avs hp → FTL Tryd.prog 7 avs (hp ++ glH 1 [(0, Rate.gCells)]) 2 (.b true) [] 2 := by
  intro avs hp h
  obtain ⟨l1, vs1, hp1, hq1, rfl, rfl, d1, h⟩ := h
  obtain ⟨a, b, c, ha, hb, hc, hd⟩ := Rate.draft_shp d1
  obtain ⟨l5, vs5, hp5, hq5, rfl, rfl, ⟨⟨m, rfl, hm1, hm2⟩, rfl⟩, rfl, rfl⟩ := h
  rcases hd with ⟨rfl, rfl⟩ | ⟨e, cap, he, rfl, rfl⟩
  · exact Rate.w7n a b c m ha hb hc hm1 hm2
  · exact Rate.w7s a b c e cap he m ha hb hc hm1 hm2
set_option maxRecDepth 100000 in
theorem lifted (os : Os) (started : os.Started) (H : Type) (enc : TypeId × Value → H) :
    ReturnsInHanded {} Tryd.checked os 7 .any (fun w args => (Rows.rateRisesSpec.pre enc Tryd.prog Tryd.f7 [] false w args ∧ laidMetH Tryd.prog theLaid w) ∧ sizedMet enc Tryd.prog Tryd.f7 (OpenSpec.ofChange Rows.rateRisesSpec) false w args)
      (Rows.rateRisesSpec.post enc Tryd.prog Tryd.f7 false true false false) := by
  refine returnsInHanded_of_change_and (C := Tryd.checked) (X := fun w _ => laidMetH Tryd.prog theLaid w) (fun _ _ _ hh h => h.of_heap hh) own started (by kernel_rfl) Tryd.func7
    (ChangeSpec.witness_shaped (enc := enc) (C := Tryd.checked) (os := os) (X := fun w _ => laidMetH Tryd.prog theLaid w) false (World.doorLaid Tryd.prog 600 os) #[.agg #[.int .u32 0, .int .u32 0, .int .u32 0, .slice none 0 0], .int .u8 0] 8 rfl (World.shaped_of_RefB (by kernel_rfl) (by kernel_rfl)) (by kernel_rfl) (by kernel_rfl) (by kernel_rfl) (door_met os _)) ?_
  intro W base args ds gs before hval0 hW _ _ hL _
  exact law_postD (P := Tryd.prog) (Ts := aTys) [(0, Rate.gCells)] (fun x hx => by simp at hx; subst hx; exact of_laid hL) (by kernel_rfl) laidOut (by kernel_rfl) (by kernel_rfl) Tryd.underlying4 rfl (fun l hl => by
    match l, hl with
    | [_, _], _ => rfl) hval0 hW core
theorem row_holds : Rows.RateRisesSaid :=
  OpenClaim.holds_of_wide 7 Tryd.f7 rfl rfl rfl rfl rfl rfl rfl ⟨rfl, rfl, rfl, rfl, rfl⟩ rfl rfl rfl rfl rfl (by kernel_rfl) Tryd.func7 (by kernel_rfl)
    (of_decide_eq_true (by kernel_rfl)) (by unfold Func.isWrapper; first | (rw [if_pos (by decide +kernel)]; kernel_rfl) | (rw [if_neg (by decide +kernel)]; exact ⟨rfl, rfl⟩))
    (fun os started H enc _ => lifted os started H enc)
theorem proved : Rows.RateRisesCardSaid :=
  Claim7.holds_tied_plain_at .later [] [.funcs] true (true, Rows.rateRisesCard.stood.harness.2) false
    row_holds (fun _ h => by cases h) (by kernel_rfl) (fun _ h => by cases h) rateRises_row_tie rfl ⟨rfl, rfl⟩ (by kernel_rfl) rfl
    (fun f fn hf hfn => by
      obtain rfl : f = 7 := Option.some.inj ((show Tryd.prog.funcNamed Rows.rateRisesRow.func = some 7 by kernel_rfl).symm.trans hf) |>.symm
      obtain rfl : fn = Tryd.f7 := (Option.some.inj (Tryd.func7.symm.trans hfn)).symm
      exact ⟨by kernel_rfl, fun j t ht => by
        have hall : (Tryd.f7.params.toList.all fun u => !Tryd.prog.wantsStandIn u) = true := by kernel_rfl
        have hm : t ∈ Tryd.f7.params.toList := by simpa using Array.mem_of_getElem? ht
        show Tryd.prog.wantsStandIn t = false
        simpa using List.all_eq_true.1 hall t hm⟩)
    (by kernel_rfl)
end Go.Proofs.YtbnmgcfipgfllaaDoor
