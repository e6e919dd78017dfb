/- The abstract layer, part 53: a law's arguments that are slices. -/
import Derived.Test.YtndbgcmgjnjnhaaAbDeep
import Derived.Test.YtndbgcmgjnjnhaaAbShs
namespace Go.Ab
set_option linter.unusedVariables false
theorem flat_rows {α : Type} {T : Ty} {f : α → List AV} {ok : α → Bool} (h : ∀ x, Flat T x → ∃ a, x = f a ∧ ok a = true) : ∀ ls : List (List AV), (∀ x ∈ ls, Flat T x) → ∃ l : List α, ls.flatten = rows f l ∧ l.length = ls.length ∧ l.all ok = true
  | [], _ => ⟨[], rfl, rfl, rfl⟩
  | x :: ls, hx => by
    obtain ⟨a, rfl, ha⟩ := h x (hx x List.mem_cons_self)
    obtain ⟨l, h1, h2, h3⟩ := flat_rows h ls (fun y hy => hx y (List.mem_cons_of_mem _ hy))
    exact ⟨a :: l, by rw [List.flatten_cons, h1]; rfl, by simp [h2], by simp [ha, h3]⟩
/-- A slice that came in: nil, or in a block of its own; its length does not pass its capacity. -/
theorem sl_shpS {α : Type} {T : Ty} {f : α → List AV} {ok : α → Bool} {z : Nat} (hf : ∀ a, (f a).length = z) (hb : ∀ a, belL 0 (f a) = true) (h : ∀ x, Flat T x → ∃ a, x = f a ∧ ok a = true) {j : Nat} {l : List AV} {hp : Hp} (hs : SlShp T j l hp) :
    ∃ (s : Sh) (e : List α), e.all ok = true ∧ s.is f z e ∧ s.sane z = true ∧ l = [s.v j] ∧ hp = s.h j := by
  rcases hs with ⟨rfl, rfl⟩ | ⟨ls, cap, g1, g2, g3, rfl, rfl⟩
  · exact ⟨.nil, [], rfl, ⟨rfl, rfl, rfl⟩, rfl, rfl, rfl⟩
  · obtain ⟨e, e1, e2, e3⟩ := flat_rows h ls g1
    refine ⟨.sl { cells := rows f e, ro := true } 0 e.length cap, e, e3, ⟨rows_bel hb, rfl, ?_⟩, decide_eq_true (by omega), by rw [← e2]; rfl, by rw [e1]; rfl⟩
    show cellsAt _ 0 _ = _
    unfold cellsAt
    rw [List.drop_zero, ← rows_len hf, List.take_length]
end Go.Ab
