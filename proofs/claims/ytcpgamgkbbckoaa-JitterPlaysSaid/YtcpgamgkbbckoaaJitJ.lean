/- Chapter 26: a law's arguments, from their shapes. -/
import Derived.Test.YtcpgamgkbbckoaaAbFzs
import Derived.Test.YtcpgamgkbbckoaaJitP1
namespace Go.Proofs.Jit
open Go.Ab Go.ChangeShapes Go.WideShapes Go.RowKit
set_option linter.unusedVariables false
theorem mx : maxLen = 9223372036854775807 := rfl
theorem rowsF {α : Type} {E : TyF} {f : α → List AV} {ok : α → Bool} (h : ∀ x, FShp E x → ∃ a, x = f a ∧ ok a = true) : ∀ ls : List (List AV), (∀ x ∈ ls, FShp E x) → ∃ l : List α, ls.flatten = rows f l ∧ ls.length = l.length ∧ ∀ a ∈ l, ok a = true
 | [], _ => ⟨[], rfl, rfl, fun a ha => by cases ha⟩
 | x :: ls, hx => by
  obtain ⟨a, rfl, ha⟩ := h x (hx x List.mem_cons_self)
  obtain ⟨l, h1, h2, h3⟩ := rowsF h ls (fun y hy => hx y (List.mem_cons_of_mem _ hy))
  refine ⟨a :: l, by rw [List.flatten_cons, h1]; rfl, by simp [h2], fun b hb => ?_⟩
  rcases List.mem_cons.1 hb with rfl | hb
  · exact ha
  · exact h3 b hb
theorem slF {α : Type} {E : TyF} {f : α → List AV} {ok : α → Bool} (h : ∀ x, FShp E x → ∃ a, x = f a ∧ ok a = true) {l : List AV} (hl : FShp (.sl E) l) : ∃ r : List α, l = [.fz (rows f r) r.length] ∧ r.length ≤ 9223372036854775807 ∧ ∀ a ∈ r, ok a = true := by
 obtain ⟨ls, h1, h2, rfl⟩ := hl
 obtain ⟨r, e1, e2, e3⟩ := rowsF h ls h1
 exact ⟨r, by rw [e1, e2], by rw [← e2]; exact h2, e3⟩
abbrev tyDj : TyF := .st [.f (.i .u8), .st [.f (.i .u16), .f (.i .u32), .sl (.f (.i .u8))], .sl (.f (.st [.i .u16, .b, .i .u8]))]
theorem dj_shp {l : List AV} (h : FShp tyDj l) : ∃ d : Dj, l = d.l ∧ DjOK d = true := by
 obtain ⟨_, _, rfl, ⟨ck, rfl, h1⟩, _, _, rfl, ⟨_, _, rfl, ⟨sq, rfl, h2⟩, _, _, rfl, ⟨tm, rfl, h3⟩, _, _, rfl, hf, rfl⟩, _, _, rfl, he, rfl⟩ := h
 obtain ⟨fr, rfl, f1, f2⟩ := slF (f := u8R) (ok := fun x => inI 0 255 x) (fun x h => by obtain ⟨b, rfl, hb⟩ := h; exact ⟨b, rfl, inI_of hb⟩) hf
 obtain ⟨ev, rfl, e1, e2⟩ := slF (f := Ev.l) (ok := fun e => inI 0 65535 e.wt && inI 0 255 e.pk) (fun x h => by
  obtain ⟨_, _, rfl, ⟨a, rfl, ha⟩, _, _, rfl, ⟨b, rfl⟩, _, _, rfl, ⟨c, rfl, hc⟩, rfl⟩ := h
  have ha : inI 0 65535 a = true := inI_of ha
  have hc : inI 0 255 c = true := inI_of hc
  exact ⟨⟨a, b, c⟩, rfl, by simp only [ha, hc, Bool.and_self]⟩) he
 have h1 : inI 0 255 ck = true := inI_of h1
 have h2 : inI 0 65535 sq = true := inI_of h2
 have h3 : inI 0 4294967295 tm = true := inI_of h3
 refine ⟨⟨ck, ⟨sq, tm, fr⟩, ev⟩, rfl, ?_⟩
 simp only [DjOK, SmOK, Bool.and_eq_true, decide_eq_true_eq, List.all_eq_true]
 have e2b : ∀ e ∈ ev, inI 0 65535 e.wt = true ∧ inI 0 255 e.pk = true := fun e he => by have := e2 e he; simpa only [Bool.and_eq_true] using this
 exact ⟨h1, ⟨h2, h3, f2, f1⟩, e2b, e1⟩
end Go.Proofs.Jit
