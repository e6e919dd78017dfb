/- What histories reaches: Keep and Sound are known by their contracts. -/
import Derived.Test.YthnmkedknannhaaResM8
import Derived.Test.YthnmkedknannhaaResI5
import Derived.Test.YthnmkedknannhaaAbPre
namespace Go.Proofs.Res
open Go.Ab
def nrm : AV → AV
  | .ns => .fz [] 0
  | .ze => .fz [] 0
  | x => x
theorem Wka.nrm (x : AV) : Wka x (Res.nrm x) := by
  cases x with
  | ns => exact Wka.ns
  | ze => exact Wka.ze
  | _ => exact Wka.refl _
theorem WkaL.nrm : ∀ l : List AV, WkaL l (l.map Res.nrm)
  | [] => trivial
  | a :: l => ⟨Wka.nrm a, WkaL.nrm l⟩
def o33 : List AV → Option AV
  | [.agg c, .i .i64 now, .agg b] => (hsA (c.map nrm)).bind fun h => (md9 (b.map nrm)).bind fun p => bif decide (h.l.length ≤ 1000000000000) && finH h && p.fin then some (rsH (keepS h now p)) else none
  | _ => none
theorem f33 {a : List AV} {v : AV} (e : o33 a = some v) : FTL Try.prog 33 a [] 0 v [] 0 := by
  unfold o33 at e
  split at e
  · rename_i c now b
    simp only [Option.bind_eq_some_iff] at e
    obtain ⟨h, hh, p, hp, e⟩ := e
    cases hd : decide (h.l.length ≤ 1000000000000) && finH h && p.fin
    · rw [hd] at e; cases e
    · rw [hd] at e
      cases e
      simp only [Bool.and_eq_true, decide_eq_true_eq] at hd
      refine FTL.wka (xs := [.agg c, .i .i64 now, .agg b]) (ys := [.agg h.a, .i .i64 now, .agg p.l]) ⟨?_, Wka.refl _, ?_, trivial⟩ (w33 h now p hd.1.1 hd.1.2 hd.2)
      · rw [← hsA_eq hh]; exact Wka.agg (WkaL.nrm c)
      · rw [← md9_eq hp]; exact Wka.agg (WkaL.nrm b)
  · cases e
def o35 : List AV → Option AV
  | [.agg c] => (hsA (c.map nrm)).bind fun h => bif decide (h.l.length ≤ 1000000000000) && h.l.all (fun x => x.p.fin) then some (.i .i64 (if goodH h then 0 else 281)) else none
  | _ => none
theorem f35 {a : List AV} {v : AV} (e : o35 a = some v) : FTL Try.prog 35 a [] 0 v [] 0 := by
  unfold o35 at e
  split at e
  · rename_i c
    simp only [Option.bind_eq_some_iff] at e
    obtain ⟨h, hh, e⟩ := e
    cases hd : decide (h.l.length ≤ 1000000000000) && h.l.all (fun x => x.p.fin)
    · rw [hd] at e; cases e
    · rw [hd] at e
      cases e
      simp only [Bool.and_eq_true, decide_eq_true_eq] at hd
      refine FTL.wka (xs := [.agg c]) (ys := [.agg h.a]) ⟨?_, trivial⟩ (w35 h hd.1 hd.2)
      rw [← hsA_eq hh]; exact Wka.agg (WkaL.nrm c)
  · cases e
theorem w77_0 (L : List AV) : FTL Try.prog 77 [.fz L 0] [] 0 .ze [] 0 := cln_0 mo Try.func77 (z := 1) (bytes := 8) (zs := [.i .i64 0]) i77_eq L
theorem w78_0 (L : List AV) : FTL Try.prog 78 [.fz L 0] [] 0 .ze [] 0 := cln_0 mo Try.func78 (z := 2) (bytes := 24) (zs := [.i .i64 0, .s []]) i78_eq L
def oCl : List AV → Option AV
  | [.fz _ 0] => some .ze
  | _ => none
theorem f77 {a : List AV} {v : AV} (e : oCl a = some v) : FTL Try.prog 77 a [] 0 v [] 0 := by
  unfold oCl at e
  split at e
  · cases e; exact w77_0 _
  · cases e
theorem f78 {a : List AV} {v : AV} (e : oCl a = some v) : FTL Try.prog 78 a [] 0 v [] 0 := by
  unfold oCl at e
  split at e
  · cases e; exact w78_0 _
  · cases e
theorem f92 {a : List AV} {v : AV} (e : oCl a = some v) : FTL Try.prog 92 a [] 0 v [] 0 := by
  unfold oCl at e
  split at e
  · cases e; exact w92_0 _
  · cases e
def TK2 : List (Nat × IFn) := (34, i34) :: TK
theorem TK2_valid : Valid Try.prog TK2 := .cons Try.func34 i34_eq (by kernel_rfl) TK_valid
end Go.Proofs.Res
