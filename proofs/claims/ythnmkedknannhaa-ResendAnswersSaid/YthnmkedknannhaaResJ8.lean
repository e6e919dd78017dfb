/- The forms of arguments of ResendAnswers. -/
import Derived.Test.YthnmkedknannhaaResJ
import Derived.Test.YthnmkedknannhaaResMh
namespace Go.Proofs.Res
open Go.Ab
theorem raw_shp {l : List AV} (h : FShp (.sl (.f (.i .i64))) l) : ∃ r : List Int, l = [.fz (rows int1 r) r.length] := by
 obtain ⟨ls, h3, h4, rfl⟩ := h
 obtain ⟨r, e1, e2, e3⟩ := flatR (T := .i .i64) (f := int1) (ok := fun _ => true) (fun x h => by
  obtain ⟨a, rfl, ha⟩ := h
  exact ⟨a, rfl, rfl⟩) ls h3
 exact ⟨r, by rw [e1, e2]⟩
theorem bm_shp {l : List AV} (h : FShp (.f (.st [.i .u8, .i .u8, .i .i64])) l) : ∃ y : Bm, l = y.a ∧ y.okB = true := by
 obtain ⟨_, _, rfl, ⟨a, rfl, ha⟩, _, _, rfl, ⟨b, rfl, hb⟩, _, _, rfl, ⟨c, rfl, hc⟩, rfl⟩ := h
 have ha : inI 0 255 a = true := inI_of ha
 have hb : inI 0 255 b = true := inI_of hb
 exact ⟨⟨a, b, c⟩, rfl, by simp only [Bm.okB, ha, hb, Bool.and_self]⟩
end Go.Proofs.Res
