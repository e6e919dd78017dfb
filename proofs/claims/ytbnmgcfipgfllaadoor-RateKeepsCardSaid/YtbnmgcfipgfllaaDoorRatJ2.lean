/- A draft's shape, with its capacity. -/
import Derived.Test.YtbnmgcfipgfllaaDoorRatJ
namespace Go.Proofs.Rate
open Go.Ab
/-- A draft: its slice is nil, or lies in a block. -/
theorem draft_shp2 {l : List AV} {h : Hp} (hd : DShp draftT 0 l h) : ∃ a b c : Int, u32B a = true ∧ u32B b = true ∧ u32B c = true ∧
    ((l = [.i .u32 a, .i .u32 b, .i .u32 c, .ns] ∧ h = []) ∨ ∃ (e : List Ev) (cap : Nat), e.length ≤ cap ∧ e.all Ev.ok = true ∧ l = [.i .u32 a, .i .u32 b, .i .u32 c, .sl 0 0 e.length cap] ∧ h = [(0, { cells := rows Ev.l e, ro := true })]) := by
  obtain ⟨c1, r1, p1, q1, rfl, rfl, ⟨⟨n1, rfl, h1⟩, rfl⟩, c2, r2, p2, q2, rfl, rfl, ⟨⟨n2, rfl, h2⟩, rfl⟩, c3, r3, p3, q3, rfl, rfl, ⟨⟨n3, rfl, h3⟩, rfl⟩, c4, r4, p4, q4, rfl, rfl, h4, rfl, rfl⟩ := hd
  refine ⟨n1, n2, n3, decide_eq_true h1, decide_eq_true h2, decide_eq_true h3, ?_⟩
  rcases h4 with ⟨rfl, rfl⟩ | ⟨ls, cap, g1, g2, g3, rfl, rfl⟩
  · exact .inl ⟨rfl, rfl⟩
  · obtain ⟨e, e1, e2, e3⟩ := flat_rows ev_flat ls g1
    exact .inr ⟨e, cap, by omega, e3, by rw [e2]; rfl, by rw [← e1]; rfl⟩
end Go.Proofs.Rate
