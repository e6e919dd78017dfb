/- What the joins of chapter 30 share: a law's arguments, read. -/
import Derived.Test.YtbnmgcfipgfllaaDoorAbDeep
import Derived.Test.YtbnmgcfipgfllaaDoorRatD3
namespace Go.Proofs.Rate
open Go.Ab
set_option linter.unusedVariables false

theorem flat_rows {α : Type} {T : Ty} {f : α → List AV} {ok : α → Bool} (h : ∀ x, Flat T x → ∃ a, x = f a ∧ ok a = true) : ∀ ls : List (List AV), (∀ x ∈ ls, Flat T x) → ∃ l : List α, ls.flatten = rows f l ∧ l.length = ls.length ∧ l.all ok = true
  | [], _ => ⟨[], rfl, rfl, rfl⟩
  | x :: ls, hx => by
    obtain ⟨a, rfl, ha⟩ := h x (hx x List.mem_cons_self)
    obtain ⟨l, h1, h2, h3⟩ := flat_rows h ls (fun y hy => hx y (List.mem_cons_of_mem _ hy))
    exact ⟨a :: l, by rw [List.flatten_cons, h1]; rfl, by simp [h2], by simp [ha, h3]⟩
def evT' : Ty := .st [.i .u8, .i .u8, .i .u16, .i .u32, .i .u32]
theorem ev_flat : ∀ x, Flat evT' x → ∃ a : Ev, x = a.l ∧ a.ok = true := by
  rintro x ⟨c1, r1, rfl, ⟨n1, rfl, h1⟩, c2, r2, rfl, ⟨n2, rfl, h2⟩, c3, r3, rfl, ⟨n3, rfl, h3⟩, c4, r4, rfl, ⟨n4, rfl, h4⟩, c5, r5, rfl, ⟨n5, rfl, h5⟩, rfl⟩
  exact ⟨⟨n1, n2, n3, n4, n5⟩, rfl, decide_eq_true ⟨h1, h2, h3, h4, h5⟩⟩
def bdT : Ty := .st [.i .u8, .i .i64]
theorem bd_flat {x : List AV} (h : Flat bdT x) : ∃ a : Bd, x = a.l ∧ a.ok = true := by
  obtain ⟨c1, r1, rfl, ⟨n1, rfl, h1⟩, c2, r2, rfl, ⟨n2, rfl, h2⟩, rfl⟩ := h
  exact ⟨⟨n1, n2⟩, rfl, decide_eq_true h1⟩
theorem bds_flat {x : List AV} (h : Flat (.ar 2 bdT) x) : ∃ a b : Bd, x = a.l ++ b.l ∧ a.ok = true ∧ b.ok = true := by
  obtain ⟨ls, h1, rfl, h2⟩ := h
  match ls, h1 with
  | [u, v], _ =>
    obtain ⟨a, rfl, ha⟩ := bd_flat (h2 u (by simp))
    obtain ⟨b, rfl, hb⟩ := bd_flat (h2 v (by simp))
    exact ⟨a, b, by simp, ha, hb⟩
def rtT : Ty := .st [.i .i64, .i .i64, .i .i64, .i .i64, .i .i64, .i .i64, .i .i64, .i .i64]
theorem rt_flat {x : List AV} (h : Flat rtT x) : ∃ r : Rt, x = r.l := by
  obtain ⟨c1, r1, rfl, ⟨n1, rfl, h1⟩, c2, r2, rfl, ⟨n2, rfl, h2⟩, c3, r3, rfl, ⟨n3, rfl, h3⟩, c4, r4, rfl, ⟨n4, rfl, h4⟩, c5, r5, rfl, ⟨n5, rfl, h5⟩, c6, r6, rfl, ⟨n6, rfl, h6⟩, c7, r7, rfl, ⟨n7, rfl, h7⟩, c8, r8, rfl, ⟨n8, rfl, h8⟩, rfl⟩ := h
  exact ⟨⟨n1, n2, n3, n4, n5, n6, n7, n8⟩, rfl⟩
theorem i3_flat {x : List AV} (h : Flat (.ar 3 (.i .i64)) x) : ∃ a b c : Int, x = [.i .i64 a, .i .i64 b, .i .i64 c] := by
  obtain ⟨ls, h1, rfl, h2⟩ := h
  match ls, h1 with
  | [u, v, w], _ =>
    obtain ⟨a, rfl, _⟩ := h2 u (by simp)
    obtain ⟨b, rfl, _⟩ := h2 v (by simp)
    obtain ⟨c, rfl, _⟩ := h2 w (by simp)
    exact ⟨a, b, c, rfl⟩
def draftT : TyD := .st [.f (.i .u32), .f (.i .u32), .f (.i .u32), .sl evT']
/-- A draft: its slice is nil, or lies in a block. -/
theorem draft_shp {l : List AV} {h : Hp} (hd : DShp draftT 0 l h) : ∃ a b c : Int, u32B a = true ∧ u32B b = true ∧ u32B c = true ∧
    ((l = [.i .u32 a, .i .u32 b, .i .u32 c, .ns] ∧ h = []) ∨ ∃ (e : List Ev) (cap : Nat), e.all Ev.ok = true ∧ l = [.i .u32 a, .i .u32 b, .i .u32 c, .sl 0 0 e.length cap] ∧ h = [(0, { cells := rows Ev.l e, ro := true })]) := by
  obtain ⟨c1, r1, p1, q1, rfl, rfl, ⟨⟨n1, rfl, h1⟩, rfl⟩, c2, r2, p2, q2, rfl, rfl, ⟨⟨n2, rfl, h2⟩, rfl⟩, c3, r3, p3, q3, rfl, rfl, ⟨⟨n3, rfl, h3⟩, rfl⟩, c4, r4, p4, q4, rfl, rfl, h4, rfl, rfl⟩ := hd
  refine ⟨n1, n2, n3, decide_eq_true h1, decide_eq_true h2, decide_eq_true h3, ?_⟩
  rcases h4 with ⟨rfl, rfl⟩ | ⟨ls, cap, g1, g2, g3, rfl, rfl⟩
  · exact .inl ⟨rfl, rfl⟩
  · obtain ⟨e, e1, e2, e3⟩ := flat_rows ev_flat ls g1
    exact .inr ⟨e, cap, e3, by rw [e2]; rfl, by rw [← e1]; rfl⟩
end Go.Proofs.Rate
