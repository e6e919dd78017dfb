/- PictureShows: the law function, over its arguments. -/
import Derived.Test.YtndbgcmgjnjnhaaPicLaw5
import Derived.Test.YtndbgcmgjnjnhaaAbOpen
namespace Go.Proofs.Pic
open Go.Ab Go.ChangeShapes Go.WideShapes
set_option linter.unusedVariables false
def tDr : Ty := .st [.i .u8, .i .u16, .i .u8, .i .u8, .i .u8]
theorem dr_of_flat {l : List AV} (h : Flat tDr l) : ∃ x : Dr, l = x.l ∧ x.ok = true := by
  obtain ⟨_, _, rfl, ⟨a0, rfl, h0⟩, _, _, rfl, ⟨a1, rfl, h1⟩, _, _, rfl, ⟨a2, rfl, h2⟩, _, _, rfl, ⟨a3, rfl, h3⟩, _, _, rfl, ⟨a4, rfl, h4⟩, hn⟩ := h
  cases hn
  exact ⟨⟨a0, a1, a2, a3, a4⟩, rfl, decide_eq_true ⟨h1, h2, h3, h4⟩⟩
theorem drs_of_flat : ∀ {ls : List (List AV)}, (∀ x ∈ ls, Flat tDr x) → ∃ m : List Dr, ls = m.map Dr.l ∧ m.all Dr.ok = true
  | [], _ => ⟨[], rfl, rfl⟩
  | x :: ls, h => by
    obtain ⟨y, rfl, hy⟩ := dr_of_flat (h x (by simp))
    obtain ⟨m, rfl, hm⟩ := drs_of_flat (ls := ls) (fun x hx => h x (by simp [hx]))
    exact ⟨y :: m, rfl, by simp [hy, hm]⟩
/-- A slice of drafts: how the decoder comes of it. -/
theorem shown_arg {av : AV} {hp : Hp} (h : ArgShp (.sl tDr) 0 av hp) : ∃ (D : Dc) (R : List Nat), ∀ h n, hget h 0 = hget hp 0 → k24 [av] h n = some (true, { v := .agg D.l, n, rd := R }) := by
  rcases h with ⟨rfl, rfl⟩ | ⟨ls, cap, hls, hcap, hmax, rfl, rfl⟩
  · exact ⟨zDc, [], fun h n _ => rfl⟩
  · obtain ⟨m, rfl, hm⟩ := drs_of_flat hls
    refine ⟨shownS m, [0], fun h n hh => ?_⟩
    have hget0 : hget h 0 = some { cells := rows Dr.l m, ro := true } := by rw [hh]; rfl
    have hu := unrows_rows (g := drV) Dr.len (fun a => rfl) m
    simp only [k24, List.length_map, hget0, Option.bind_some, hu, hm]
theorem w5 (f i b t s w0 a0 m0 w1 a1 m1 wc ac mc : Int) (av : AV) (hp : Hp) (h : ArgShp (.sl tDr) 0 av hp)
    (hi : 0 ≤ i ∧ i ≤ 65535) (hb : 0 ≤ b ∧ b ≤ 255) (ht : 0 ≤ t ∧ t ≤ 255) (hs : 0 ≤ s ∧ s ≤ 255) (ha0 : 0 ≤ a0 ∧ a0 ≤ 255) (ha1 : 0 ≤ a1 ∧ a1 ≤ 255) :
    FTL Try.prog 5 [av, .agg [.i .u8 f, .i .u16 i, .i .u8 b, .i .u8 t, .i .u8 s], .agg [.i .u8 w0, .i .u8 a0, .i .i64 m0, .i .u8 w1, .i .u8 a1, .i .i64 m1], .agg [.i .u8 wc, .i .u8 ac, .i .i64 mc]] hp 4
    (.b true) [] 4 := by
  obtain ⟨D, R, hc⟩ := shown_arg h
  exact body5 f i b t s w0 a0 m0 w1 a1 m1 wc ac mc av hp D hi hb ht hs ha0 ha1 R hc
end Go.Proofs.Pic
