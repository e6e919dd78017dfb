/- RateKnown, computed. -/
import Derived.Test.YtbnmgcfipgfllaaDoorRatKIR
import Derived.Test.YtbnmgcfipgfllaaDoorAbExecs
namespace Go.Proofs.Rate
open Go.Ab
theorem mo : Tryd.prog.follows .mixedOrders = true := by kernel_rfl
def TK : List (Nat × IFn) := [(11, i11), (13, i13), (16, i16), (18, i18), (19, i19), (21, i21), (23, i23), (25, i25), (27, i27), (28, i28), (30, i30), (31, i31), (33, i33), (34, i34), (37, i37), (39, i39), (40, i40), (41, i41), (42, i42), (43, i43), (44, i44), (60, i60), (62, i62), (63, i63)]
theorem TK_valid : Valid Tryd.prog TK :=
  .cons Tryd.func11 i11_eq (by kernel_rfl) <| .cons Tryd.func13 i13_eq (by kernel_rfl) <| .cons Tryd.func16 i16_eq (by kernel_rfl) <| .cons Tryd.func18 i18_eq (by kernel_rfl) <| .cons Tryd.func19 i19_eq (by kernel_rfl) <| .cons Tryd.func21 i21_eq (by kernel_rfl) <|
  .cons Tryd.func23 i23_eq (by kernel_rfl) <| .cons Tryd.func25 i25_eq (by kernel_rfl) <| .cons Tryd.func27 i27_eq (by kernel_rfl) <| .cons Tryd.func28 i28_eq (by kernel_rfl) <| .cons Tryd.func30 i30_eq (by kernel_rfl) <| .cons Tryd.func31 i31_eq (by kernel_rfl) <|
  .cons Tryd.func33 i33_eq (by kernel_rfl) <| .cons Tryd.func34 i34_eq (by kernel_rfl) <| .cons Tryd.func37 i37_eq (by kernel_rfl) <| .cons Tryd.func39 i39_eq (by kernel_rfl) <| .cons Tryd.func40 i40_eq (by kernel_rfl) <| .cons Tryd.func41 i41_eq (by kernel_rfl) <|
  .cons Tryd.func42 i42_eq (by kernel_rfl) <| .cons Tryd.func43 i43_eq (by kernel_rfl) <| .cons Tryd.func44 i44_eq (by kernel_rfl) <| .cons Tryd.func60 i60_eq (by kernel_rfl) <| .cons Tryd.func62 i62_eq (by kernel_rfl) <| .cons Tryd.func63 i63_eq (by kernel_rfl) .nil
def gCells : List AV := [.fn 60 [], .fn 62 [], .fn 63 []]
def gH : Hp := [(0, { cells := gCells, ro := true, gid := some 0 })]
theorem tk : (xFn (xrun TK 2000) i9 [] gH 1).map (·.1) = some (.b true) := by kernel_rfl
theorem w9 : FTL Tryd.prog 9 [] gH 1 (.b true) [] 1 := by
  obtain ⟨⟨v', hR, k⟩, h1, rfl⟩ := Option.map_eq_some_iff.1 tk
  exact FTL.forget (FTL.of_run 2000 mo TK_valid Tryd.func9 i9_eq h1) rfl
end Go.Proofs.Rate
