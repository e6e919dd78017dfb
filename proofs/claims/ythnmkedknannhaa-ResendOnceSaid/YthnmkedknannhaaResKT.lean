/- The table of the functions that works reaches, but for Saw and Ask, whose contracts serve. -/
import Derived.Test.YthnmkedknannhaaResKIR
import Derived.Test.YthnmkedknannhaaResD2
import Derived.Test.YthnmkedknannhaaAbFast
import Derived.Test.YthnmkedknannhaaAbShelf
namespace Go.Proofs.Res
open Go.Ab
def TK : List (Nat × IFn) := [(11, i11), (18, i18), (22, i22), (23, i23), (24, i24), (25, i25), (32, i32), (33, i33), (35, i35), (36, i36), (37, i37), (38, i38), (40, i40), (49, i49), (50, i50), (51, i51), (60, i60), (61, i61), (66, i66), (67, i67), (68, i68), (69, i69), (70, i70), (71, i71), (72, i72), (73, i73), (74, i74), (75, i75), (76, i76), (77, i77), (78, i78), (89, i89), (92, i92), (93, i93), (94, i94), (97, i97)]
theorem TK_valid : Valid Try.prog TK :=
 .cons Try.func11 i11_eq (by kernel_rfl) <|
 .cons Try.func18 i18_eq (by kernel_rfl) <|
 .cons Try.func22 i22_eq (by kernel_rfl) <|
 .cons Try.func23 i23_eq (by kernel_rfl) <|
 .cons Try.func24 i24_eq (by kernel_rfl) <|
 .cons Try.func25 i25_eq (by kernel_rfl) <|
 .cons Try.func32 i32_eq (by kernel_rfl) <|
 .cons Try.func33 i33_eq (by kernel_rfl) <|
 .cons Try.func35 i35_eq (by kernel_rfl) <|
 .cons Try.func36 i36_eq (by kernel_rfl) <|
 .cons Try.func37 i37_eq (by kernel_rfl) <|
 .cons Try.func38 i38_eq (by kernel_rfl) <|
 .cons Try.func40 i40_eq (by kernel_rfl) <|
 .cons Try.func49 i49_eq (by kernel_rfl) <|
 .cons Try.func50 i50_eq (by kernel_rfl) <|
 .cons Try.func51 i51_eq (by kernel_rfl) <|
 .cons Try.func60 i60_eq (by kernel_rfl) <|
 .cons Try.func61 i61_eq (by kernel_rfl) <|
 .cons Try.func66 i66_eq (by kernel_rfl) <|
 .cons Try.func67 i67_eq (by kernel_rfl) <|
 .cons Try.func68 i68_eq (by kernel_rfl) <|
 .cons Try.func69 i69_eq (by kernel_rfl) <|
 .cons Try.func70 i70_eq (by kernel_rfl) <|
 .cons Try.func71 i71_eq (by kernel_rfl) <|
 .cons Try.func72 i72_eq (by kernel_rfl) <|
 .cons Try.func73 i73_eq (by kernel_rfl) <|
 .cons Try.func74 i74_eq (by kernel_rfl) <|
 .cons Try.func75 i75_eq (by kernel_rfl) <|
 .cons Try.func76 i76_eq (by kernel_rfl) <|
 .cons Try.func77 i77_eq (by kernel_rfl) <|
 .cons Try.func78 i78_eq (by kernel_rfl) <|
 .cons Try.func89 i89_eq (by kernel_rfl) <|
 .cons Try.func92 i92_eq (by kernel_rfl) <|
 .cons Try.func93 i93_eq (by kernel_rfl) <|
 .cons Try.func94 i94_eq (by kernel_rfl) <|
 .cons Try.func97 i97_eq (by kernel_rfl) .nil
def o13 : List AV → Option AV
 | [.agg c, .i .i64 now, .i .i64 seq] => (wsA c).bind fun w => bif decide (w.l.length ≤ 1000000000000) then some (rsV (sawS w now seq)) else none
 | _ => none
def o20 : List AV → Option AV
 | [.agg c, .i .i64 now, .i .i64 trip] => (wsA c).bind fun w => bif decide (w.l.length ≤ 1000000000000) then some (askV (askS w now trip)) else none
 | _ => none
theorem f13 {a : List AV} {v : AV} (h : o13 a = some v) : FTL Try.prog 13 a [] 0 v [] 0 := by
 unfold o13 at h
 split at h
 · simp only [Option.bind_eq_some_iff] at h
   obtain ⟨w, hw, h⟩ := h
   cases hd : decide (w.l.length ≤ 1000000000000)
   · rw [hd] at h; cases h
   · rw [hd] at h
     cases h
     exact FTL.wkaH (wsA_k hw).1 (w13 w _ _ (of_decide_eq_true hd))
 · cases h
theorem f20 {a : List AV} {v : AV} (h : o20 a = some v) : FTL Try.prog 20 a [] 0 v [] 0 := by
 unfold o20 at h
 split at h
 · simp only [Option.bind_eq_some_iff] at h
   obtain ⟨w, hw, h⟩ := h
   cases hd : decide (w.l.length ≤ 1000000000000)
   · rw [hd] at h; cases h
   · rw [hd] at h
     cases h
     exact FTL.wkaH (wsA_k hw).1 (w20 w _ _ (of_decide_eq_true hd))
 · cases h
end Go.Proofs.Res
