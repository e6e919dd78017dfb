/- Chapter 41: a law's arguments, from their shapes. -/
import Derived.Test.YtkpiibllomjeaaaAbFzs
import Derived.Test.YtkpiibllomjeaaaLysDc
namespace Go.Proofs.Lys
open Go.Ab Go.ChangeShapes Go.WideShapes Go.RowKit
set_option linter.unusedVariables false
theorem mx : maxLen = 9223372036854775807 := rfl
theorem rowsF {α : Type} {E : TyF} {f : α → List AV} {ok : α → Bool} (h : ∀ x, FShp E x → ∃ a, x = f a ∧ ok a = true) : ∀ ls : List (List AV), (∀ x ∈ ls, FShp E x) → ∃ l : List α, ls.flatten = rows f l ∧ ls.length = l.length ∧ ∀ a ∈ l, ok a = true
 | [], _ => ⟨[], rfl, rfl, fun a ha => by cases ha⟩
 | x :: ls, hx => by
  obtain ⟨a, rfl, ha⟩ := h x (hx x List.mem_cons_self)
  obtain ⟨l, h1, h2, h3⟩ := rowsF h ls (fun y hy => hx y (List.mem_cons_of_mem _ hy))
  refine ⟨a :: l, by rw [List.flatten_cons, h1]; rfl, by simp [h2], fun b hb => ?_⟩
  rcases List.mem_cons.1 hb with rfl | hb
  · exact ha
  · exact h3 b hb
theorem slF {α : Type} {E : TyF} {f : α → List AV} {ok : α → Bool} (h : ∀ x, FShp E x → ∃ a, x = f a ∧ ok a = true) {l : List AV} (hl : FShp (.sl E) l) : ∃ r : List α, l = [.fz (rows f r) r.length] ∧ r.length ≤ 9223372036854775807 ∧ ∀ a ∈ r, ok a = true := by
 obtain ⟨ls, h1, h2, rfl⟩ := hl
 obtain ⟨r, e1, e2, e3⟩ := rowsF h ls h1
 exact ⟨r, by rw [e1, e2], by rw [← e2]; exact h2, e3⟩
abbrev tyFl : TyF := .st [.f (.i .u16), .f (.i .u16), .f (.i .u32), .f (.i .u8), .sl (.f (.i .u8))]
theorem fl_shp {l : List AV} (h : FShp tyFl l) : ∃ f : Fl, l = f.l ∧ f.ok = true := by
 obtain ⟨_, _, rfl, ⟨sq, rfl, h1⟩, _, _, rfl, ⟨id, rfl, h2⟩, _, _, rfl, ⟨tm, rfl, h3⟩, _, _, rfl, ⟨ba, rfl, h4⟩, _, _, rfl, hp, rfl⟩ := h
 obtain ⟨pc, rfl, p1, p2⟩ := slF (f := u8R) (ok := fun x => inI 0 255 x) (fun x h => by obtain ⟨b, rfl, hb⟩ := h; exact ⟨b, rfl, inI_of hb⟩) hp
 refine ⟨⟨sq, id, tm, ba, pc⟩, rfl, ?_⟩
 have h1 : inI 0 65535 sq = true := inI_of h1
 have h2 : inI 0 65535 id = true := inI_of h2
 have h3 : inI 0 4294967295 tm = true := inI_of h3
 have h4 : inI 0 255 ba = true := inI_of h4
 simp only [Fl.ok, Bool.and_eq_true, decide_eq_true_eq, List.all_eq_true]
 exact ⟨h1, h2, h3, h4, p2, p1⟩
abbrev tyAc : TyF := .f (.st [.i .u8, .i .u8, .i .u8, .i .u8])
theorem ac_shp {l : List AV} (h : FShp tyAc l) : ∃ a : Ac, l = a.l ∧ a.ok = true := by
 obtain ⟨_, _, rfl, ⟨a, rfl, h1⟩, _, _, rfl, ⟨b, rfl, h2⟩, _, _, rfl, ⟨c, rfl, h3⟩, _, _, rfl, ⟨d, rfl, h4⟩, rfl⟩ := h
 refine ⟨⟨a, b, c, d⟩, rfl, ?_⟩
 have h1 : inI 0 255 a = true := inI_of h1
 have h2 : inI 0 255 b = true := inI_of h2
 have h3 : inI 0 255 c = true := inI_of h3
 have h4 : inI 0 255 d = true := inI_of h4
 simp only [Ac.ok, h1, h2, h3, h4, Bool.and_self]
abbrev tyDr : TyF := .st [.an 3 tyFl, .f (.ar 4 (.i .u16)), .f (.i .u16), .sl tyAc]
theorem three {α : Type} {l : List α} (h : l.length = 3) : ∃ a b c, l = [a, b, c] := by
 match l, h with
 | [a, b, c], _ => exact ⟨a, b, c, rfl⟩
theorem four {α : Type} {l : List α} (h : l.length = 4) : ∃ a b c d, l = [a, b, c, d] := by
 match l, h with
 | [a, b, c, d], _ => exact ⟨a, b, c, d, rfl⟩
theorem dr_shp {l : List AV} (h : FShp tyDr l) : ∃ d : Dr, l = d.l ∧ d.ok = true := by
 obtain ⟨_, _, rfl, hf, _, _, rfl, ha, _, _, rfl, ⟨st, rfl, h5⟩, _, _, rfl, hc, rfl⟩ := h
 obtain ⟨ls, l1, l2, rfl⟩ := hf
 obtain ⟨x0, x1, x2, rfl⟩ := three l1
 obtain ⟨f0, rfl, o0⟩ := fl_shp (l2 x0 (by simp))
 obtain ⟨f1, rfl, o1⟩ := fl_shp (l2 x1 (by simp))
 obtain ⟨f2, rfl, o2⟩ := fl_shp (l2 x2 (by simp))
 obtain ⟨aa, hl4, rfl, a2⟩ := ha
 obtain ⟨y0, y1, y2, y3, rfl⟩ := four hl4
 obtain ⟨a0, rfl, h0⟩ := a2 y0 (by simp)
 obtain ⟨a1, rfl, h1⟩ := a2 y1 (by simp)
 obtain ⟨a2', rfl, h2⟩ := a2 y2 (by simp)
 obtain ⟨a3, rfl, h3⟩ := a2 y3 (by simp)
 obtain ⟨ac, rfl, c1, c2⟩ := slF (f := Ac.l) (ok := Ac.ok) (fun x h => ac_shp h) hc
 refine ⟨⟨f0, f1, f2, a0, a1, a2', a3, st, ac⟩, rfl, ?_⟩
 have h0 : inI 0 65535 a0 = true := inI_of h0
 have h1 : inI 0 65535 a1 = true := inI_of h1
 have h2 : inI 0 65535 a2' = true := inI_of h2
 have h3 : inI 0 65535 a3 = true := inI_of h3
 have h5 : inI 0 65535 st = true := inI_of h5
 simp only [Dr.ok, Bool.and_eq_true, decide_eq_true_eq, List.all_eq_true]
 exact ⟨o0, o1, o2, h0, h1, h2, h3, h5, c2, c1⟩
end Go.Proofs.Lys
