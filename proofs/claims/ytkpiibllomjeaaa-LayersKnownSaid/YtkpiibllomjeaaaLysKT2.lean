/- What LayersKnown reaches. -/
import Derived.Test.YtkpiibllomjeaaaLysKa
import Derived.Test.YtkpiibllomjeaaaLysI6
namespace Go.Proofs.Lys
open Go.Ab
set_option linter.unusedVariables false
set_option maxRecDepth 100000
def o12 : List AV → Option AV
 | [.agg c] => (swA (c.map nrm)).bind fun s => bif decide (s.l.length ≤ 9223372036854775807) then some (.i .i64 (if goodW s then 0 else 410)) else none
 | _ => none
theorem f12 {a : List AV} {v : AV} (e : o12 a = some v) : FTL Try.prog 12 a [] 0 v [] 0 := by
 unfold o12 at e
 split at e
 · rename_i c
   simp only [Option.bind_eq_some_iff] at e
   obtain ⟨b, hb, e⟩ := e
   cases hd : decide (b.l.length ≤ 9223372036854775807)
   · rw [hd] at e; cases e
   · rw [hd] at e
     cases e
     refine FTL.wka (xs := [.agg c]) (ys := [.agg b.a]) ⟨?_, trivial⟩ (w12 b (of_decide_eq_true hd))
     rw [← swA_eq hb]; exact Wka.agg (WkaL.nrm c)
 · cases e
def o19 : List AV → Option AV
 | [] => some (.b true)
 | _ => none
theorem f19 {a : List AV} {v : AV} (e : o19 a = some v) : FTL Try.prog 19 a [] 0 v [] 0 := by
 unfold o19 at e
 split at e
 · cases e; exact w19
 · cases e
def TK2 : List (Nat × IFn) := [(16, i16), (27, i27), (28, i28), (29, i29), (52, i52), (56, i56), (30, i30), (31, i31), (32, i32), (33, i33), (34, i34), (35, i35), (36, i36), (37, i37), (38, i38), (39, i39), (40, i40), (41, i41), (42, i42), (43, i43), (44, i44)]
theorem TK2_valid : Valid Try.prog TK2 :=
 .cons Try.func16 i16_eq (by kernel_rfl) <|
 .cons Try.func27 i27_eq (by kernel_rfl) <|
 .cons Try.func28 i28_eq (by kernel_rfl) <|
 .cons Try.func29 i29_eq (by kernel_rfl) <|
 .cons Try.func52 i52_eq (by kernel_rfl) <|
 .cons Try.func56 i56_eq (by kernel_rfl) <|
 .cons Try.func30 i30_eq (by kernel_rfl) <|
 .cons Try.func31 i31_eq (by kernel_rfl) <|
 .cons Try.func32 i32_eq (by kernel_rfl) <|
 .cons Try.func33 i33_eq (by kernel_rfl) <|
 .cons Try.func34 i34_eq (by kernel_rfl) <|
 .cons Try.func35 i35_eq (by kernel_rfl) <|
 .cons Try.func36 i36_eq (by kernel_rfl) <|
 .cons Try.func37 i37_eq (by kernel_rfl) <|
 .cons Try.func38 i38_eq (by kernel_rfl) <|
 .cons Try.func39 i39_eq (by kernel_rfl) <|
 .cons Try.func40 i40_eq (by kernel_rfl) <|
 .cons Try.func41 i41_eq (by kernel_rfl) <|
 .cons Try.func42 i42_eq (by kernel_rfl) <|
 .cons Try.func43 i43_eq (by kernel_rfl) <|
 .cons Try.func44 i44_eq (by kernel_rfl) .nil
end Go.Proofs.Lys
