/- The forms of chapter 28's arguments. -/
import Derived.Test.YthnmkedknannhaaAbFzs
import Derived.Test.YthnmkedknannhaaResCf
namespace Go.Proofs.Res
open Go.Ab
theorem flatR {α : Type} {T : Ty} {f : α → List AV} {ok : α → Bool} (hT : ∀ x, FShp (.f T) x → ∃ a, x = f a ∧ ok a = true) (ls : List (List AV)) (h : ∀ x ∈ ls, FShp (.f T) x) : ∃ l : List α, ls.flatten = rows f l ∧ ls.length = l.length ∧ ∀ a ∈ l, ok a = true := by
 obtain ⟨l, h1, h2, h3⟩ := flat_rows (T := T) (f := f) (ok := ok) hT ls h
 exact ⟨l, h1, h2.symm, List.all_eq_true.1 h3⟩
theorem dr_shp {l : List AV} (h : FShp (.st [.f (.i .u16), .f (.i .u16), .sl (.f (.st [.i .u8, .i .u16, .i .i8]))]) l) : ∃ d : Dr, l = d.a ∧ d.ok := by
 obtain ⟨_, _, rfl, ⟨sq, rfl, h1⟩, _, _, rfl, ⟨tr, rfl, h2⟩, _, _, rfl, ⟨ls, h3, _, rfl⟩, rfl⟩ := h
 obtain ⟨ev, e1, e2, e3⟩ := flatR (T := .st [.i .u8, .i .u16, .i .i8]) (f := Ev.l) (ok := Ev.ok) (fun x h => by
  obtain ⟨_, _, rfl, ⟨a, rfl, ha⟩, _, _, rfl, ⟨b, rfl, hb⟩, _, _, rfl, ⟨c, rfl, hc⟩, rfl⟩ := h
  have ha : inI 0 255 a = true := inI_of ha
  have hb : inI 0 65535 b = true := inI_of hb
  have hc : inI (-128) 127 c = true := inI_of hc
  exact ⟨⟨a, b, c⟩, rfl, by simp only [Ev.ok, ha, hb, hc, Bool.and_self]⟩) ls h3
 refine ⟨⟨sq, tr, ev⟩, by simp only [Dr.a, e1, e2]; rfl, inI_of h1, inI_of h2, e3⟩
end Go.Proofs.Res
