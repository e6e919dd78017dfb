/- RateLosses, joined, and its card; printed by ratjoin.py. It holds for every input. -/
import Derived.Test.YtbnmgcfipgfllaaDoorRatG
import Derived.Test.YtbnmgcfipgfllaaDoorRatL5
import Derived.Test.YtbnmgcfipgfllaaDoorRatJ
import Derived.Test.YtbnmgcfipgfllaaDoorCards
import Derived.Test.YtbnmgcfipgfllaaDoorTie
import Derived.SevenTiedAt
namespace Go.Proofs.YtbnmgcfipgfllaaDoor
open Go.Ab Go.ChangeShapes Go.WideShapes Go.ChangeAt Go.RowKit
set_option linter.unusedVariables false
def aTys : List TyD := [Rate.draftT, .f (.ar 2 Rate.bdT), .f Rate.rtT, .f (.ar 3 (.i .i64)), .f Rate.evT']
set_option maxRecDepth 100000 in
theorem core : ∀ avs hp, ArgsD aTys 0 avs hp → FTL Tryd.prog 5 avs (hp ++ glH 1 [(0, Rate.gCells)]) 2 (.b true) [] 2 := by
  intro avs hp h
  obtain ⟨l1, vs1, hp1, hq1, rfl, rfl, d1, l2, vs2, hp2, hq2, rfl, rfl, ⟨d2, rfl⟩, l3, vs3, hp3, hq3, rfl, rfl, ⟨d3, rfl⟩, l4, vs4, hp4, hq4, rfl, rfl, ⟨d4, rfl⟩, l5, vs5, hp5, hq5, rfl, rfl, ⟨d5, rfl⟩, rfl, rfl⟩ := h
  obtain ⟨a, b, c, ha, hb, hc, hd⟩ := Rate.draft_shp d1
  obtain ⟨x, y, rfl, hx, hy⟩ := Rate.bds_flat d2
  obtain ⟨w, rfl⟩ := Rate.rt_flat d3
  obtain ⟨n0, n1, n2, rfl⟩ := Rate.i3_flat d4
  obtain ⟨v, rfl, hv⟩ := Rate.ev_flat _ d5
  rcases hd with ⟨rfl, rfl⟩ | ⟨e, cap, he, rfl, rfl⟩
  · exact Rate.w5n a b c x y w n0 n1 n2 v ha hb hc hx hy hv
  · exact Rate.w5s a b c e cap he x y w n0 n1 n2 v ha hb hc hx hy hv
set_option maxRecDepth 100000 in
theorem lifted (os : Os) (started : os.Started) (H : Type) (enc : TypeId × Value → H) :
    ReturnsInHanded {} Tryd.checked os 5 .any (fun w args => (Rows.rateLossesSpec.pre enc Tryd.prog Tryd.f5 [] false w args ∧ laidMetH Tryd.prog theLaid w) ∧ sizedMet enc Tryd.prog Tryd.f5 (OpenSpec.ofChange Rows.rateLossesSpec) false w args)
      (Rows.rateLossesSpec.post enc Tryd.prog Tryd.f5 false true false false) := by
  refine returnsInHanded_of_change_and (C := Tryd.checked) (X := fun w _ => laidMetH Tryd.prog theLaid w) (fun _ _ _ hh h => h.of_heap hh) own started (by kernel_rfl) Tryd.func5
    (ChangeSpec.witness_shaped (enc := enc) (C := Tryd.checked) (os := os) (X := fun w _ => laidMetH Tryd.prog theLaid w) false (World.doorLaid Tryd.prog 600 os) #[.agg #[.int .u32 0, .int .u32 0, .int .u32 0, .slice none 0 0], .agg #[.int .u8 0, .int .i64 0, .int .u8 0, .int .i64 0], .agg #[.int .i64 0, .int .i64 0, .int .i64 0, .int .i64 0, .int .i64 0, .int .i64 0, .int .i64 0, .int .i64 0], .agg #[.int .i64 0, .int .i64 0, .int .i64 0], .agg #[.int .u8 0, .int .u8 0, .int .u16 0, .int .u32 0, .int .u32 0]] 8 rfl (World.shaped_of_RefB (by kernel_rfl) (by kernel_rfl)) (by kernel_rfl) (by kernel_rfl) (by kernel_rfl) (door_met os _)) ?_
  intro W base args ds gs before hval0 hW _ _ hL _
  exact law_postD (P := Tryd.prog) (Ts := aTys) [(0, Rate.gCells)] (fun x hx => by simp at hx; subst hx; exact of_laid hL) (by kernel_rfl) laidOut (by kernel_rfl) (by kernel_rfl) Tryd.underlying4 rfl (fun l hl => by
    match l, hl with
    | [_, _, _, _, _], _ => rfl) hval0 hW core
theorem row_holds : Rows.RateLossesSaid :=
  OpenClaim.holds_of_wide 5 Tryd.f5 rfl rfl rfl rfl rfl rfl rfl ⟨rfl, rfl, rfl, rfl, rfl⟩ rfl rfl rfl rfl rfl (by kernel_rfl) Tryd.func5 (by kernel_rfl)
    (of_decide_eq_true (by kernel_rfl)) (by unfold Func.isWrapper; first | (rw [if_pos (by decide +kernel)]; kernel_rfl) | (rw [if_neg (by decide +kernel)]; exact ⟨rfl, rfl⟩))
    (fun os started H enc _ => lifted os started H enc)
theorem proved : Rows.RateLossesCardSaid :=
  Claim7.holds_tied_plain_at .later [] [.funcs] true (true, Rows.rateLossesCard.stood.harness.2) false
    row_holds (fun _ h => by cases h) (by kernel_rfl) (fun _ h => by cases h) rateLosses_row_tie rfl ⟨rfl, rfl⟩ (by kernel_rfl) rfl
    (fun f fn hf hfn => by
      obtain rfl : f = 5 := Option.some.inj ((show Tryd.prog.funcNamed Rows.rateLossesRow.func = some 5 by kernel_rfl).symm.trans hf) |>.symm
      obtain rfl : fn = Tryd.f5 := (Option.some.inj (Tryd.func5.symm.trans hfn)).symm
      exact ⟨by kernel_rfl, fun j t ht => by
        have hall : (Tryd.f5.params.toList.all fun u => !Tryd.prog.wantsStandIn u) = true := by kernel_rfl
        have hm : t ∈ Tryd.f5.params.toList := by simpa using Array.mem_of_getElem? ht
        show Tryd.prog.wantsStandIn t = false
        simpa using List.all_eq_true.1 hall t hm⟩)
    (by kernel_rfl)
end Go.Proofs.YtbnmgcfipgfllaaDoor
