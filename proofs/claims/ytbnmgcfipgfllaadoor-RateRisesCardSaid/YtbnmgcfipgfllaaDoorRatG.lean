/- Chapter 30: what the listed variable gives. -/
import Derived.Test.YtbnmgcfipgfllaaDoorRows
import Derived.Test.YtbnmgcfipgfllaaDoorAbGlob
import Derived.Test.YtbnmgcfipgfllaaDoorRatK
import Derived.LaidMore
import Derived.Stop.Joined
import Derived.ProofKit
namespace Go.Proofs.YtbnmgcfipgfllaaDoor
open Go.Ab Go.ChangeShapes Go.WideShapes Go.ChangeAt Go.RowKit
theorem own : ownKnob Tryd.prog.godebug = none := by kernel_rfl
theorem laidOut : laidOutB Tryd.prog = true := by kernel_rfl
theorem gTrends : Tryd.prog.globalNamed "tannoy/rate.trends" = some 0 := by kernel_rfl
theorem tTrends : (Tryd.prog.globals[0]?).map (·.type) = some 71 := by kernel_rfl
theorem cells70 : Tryd.prog.cellsOf 70 = 1 := by kernel_rfl
theorem cells71 : Tryd.prog.cellsOf 71 = 3 := by kernel_rfl
abbrev theLaid : List (String × DataW Unit) := [("tannoy/rate.trends", Rows.laid_tannoy_rate_trends)]
theorem door_met (os : Os) (args : Array Value) : laidMetH Tryd.prog theLaid ((World.doorLaid Tryd.prog 600 os).forCall (fun _ _ => 0) ⟨#[], args, []⟩).memory :=
  laidMetH_of_parts3 (fuel := 8) (laidMet_of_run' 8 (by kernel_rfl) (by kernel_rfl)) (by kernel_rfl) (by kernel_rfl)
theorem of_laid {W : World} (h : laidMetH Tryd.prog theLaid W) : GlobOK W (0, Rate.gCells) := by
  obtain ⟨g, t, cs, fuel, p, hg, ht, hv, hd⟩ := h.funcs (List.mem_singleton.2 rfl)
  obtain rfl := Option.some.inj (gTrends.symm.trans hg)
  obtain rfl := Option.some.inj (tTrends.symm.trans ht)
  have hd' : DataW.trod (funcToken Tryd.prog) Tryd.prog W 0 (fun _ => true) true fuel 71 cs.toList = some (.agg [.held [40, 42, 116, 97, 110, 110, 111, 121, 47, 114, 97, 116, 101, 46, 99, 104, 97, 110, 103, 101, 41, 46, 110, 111, 114, 109, 97, 108], .held [40, 42, 116, 97, 110, 110, 111, 121, 47, 114, 97, 116, 101, 46, 99, 104, 97, 110, 103, 101, 41, 46, 111, 118, 101, 114], .held [40, 42, 116, 97, 110, 110, 111, 121, 47, 114, 97, 116, 101, 46, 99, 104, 97, 110, 103, 101, 41, 46, 117, 110, 100, 101, 114]], p) := hd
  obtain ⟨hl, _, hel⟩ := open_arr1 Tryd.underlying71 cells70 cells71 hd'
  obtain ⟨m0, v0, q0, hc0, hr0⟩ := hel 0 _ rfl
  obtain ⟨m1, v1, q1, hc1, hr1⟩ := hel 1 _ rfl
  obtain ⟨m2, v2, q2, hc2, hr2⟩ := hel 2 _ rfl
  obtain rfl := func_of_trod (f0 := 60) Tryd.underlying70 (by kernel_rfl) hr0
  obtain rfl := func_of_trod (f0 := 62) Tryd.underlying70 (by kernel_rfl) hr1
  obtain rfl := func_of_trod (f0 := 63) Tryd.underlying70 (by kernel_rfl) hr2
  obtain ⟨elem, fr, hh⟩ := var_heap gTrends hv
  refine ⟨cs, elem, fr, hh, fun D φ i v hi => ?_⟩
  have hi' : i < 3 := by
    rcases Nat.lt_or_ge i 3 with h' | h'
    · exact h'
    · rw [List.getElem?_eq_none (by simpa [Rate.gCells] using h')] at hi; cases hi
  match i, hi' with
  | 0, _ => cases hi; exact ⟨_, by simpa using hc0, VRel.fn' (m := []) .nil⟩
  | 1, _ => cases hi; exact ⟨_, by simpa using hc1, VRel.fn' (m := []) .nil⟩
  | 2, _ => cases hi; exact ⟨_, by simpa using hc2, VRel.fn' (m := []) .nil⟩
end Go.Proofs.YtbnmgcfipgfllaaDoor
