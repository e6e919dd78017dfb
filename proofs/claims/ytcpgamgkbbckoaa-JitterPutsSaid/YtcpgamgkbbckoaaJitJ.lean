/- Chapter 26: a law's arguments, from their shapes. -/
import Derived.Test.YtcpgamgkbbckoaaAbFzs
import Derived.Test.YtcpgamgkbbckoaaJitP1
namespace Go.Proofs.Jit
open Go.Ab Go.ChangeShapes Go.WideShapes Go.RowKit
set_option linter.unusedVariables false
theorem mx : maxLen = 9223372036854775807 := rfl
theorem rowsF {α : Type} {E : TyF} {f : α → List AV} {ok : α → Bool} (h : ∀ x, FShp E x → ∃ a, x = f a ∧ ok a = true) : ∀ ls : List (List AV), (∀ x ∈ ls, FShp E x) → ∃ l : List α, ls.flatten = rows f l ∧ ls.length = l.length ∧ ∀ a ∈ l, ok a = true
 | [], _ => ⟨[], rfl, rfl, fun a ha => by cases ha⟩
 | x :: ls, hx => by
  obtain ⟨a, rfl, ha⟩ := h x (hx x List.mem_cons_self)
  obtain ⟨l, h1, h2, h3⟩ := rowsF h ls (fun y hy => hx y (List.mem_cons_of_mem _ hy))
  refine ⟨a :: l, by rw [List.flatten_cons, h1]; rfl, by simp [h2], fun b hb => ?_⟩
  rcases List.mem_cons.1 hb with rfl | hb
  · exact ha
  · exact h3 b hb
theorem slF {α : Type} {E : TyF} {f : α → List AV} {ok : α → Bool} (h : ∀ x, FShp E x → ∃ a, x = f a ∧ ok a = true) {l : List AV} (hl : FShp (.sl E) l) : ∃ r : List α, l = [.fz (rows f r) r.length] ∧ r.length ≤ 9223372036854775807 ∧ ∀ a ∈ r, ok a = true := by
 obtain ⟨ls, h1, h2, rfl⟩ := hl
 obtain ⟨r, e1, e2, e3⟩ := rowsF h ls h1
 exact ⟨r, by rw [e1, e2], by rw [← e2]; exact h2, e3⟩
abbrev tyMd : TyF := .st [.f .b, .f (.i .i64), .f (.i .i64), .f (.i .i64), .f (.i .i64), .sl (.f (.i .i64)), .sl (.f (.st [.i .i64, .s])), .f (.i .i64), .f .s]
theorem md_shpR {l : List AV} (h : FShp tyMd l) : ∃ p : Md, l = p.l ∧ p.fin = true := by
 obtain ⟨_, _, rfl, ⟨ma, rfl⟩, _, _, rfl, ⟨ty, rfl, h1⟩, _, _, rfl, ⟨sq, rfl, h2⟩, _, _, rfl, ⟨tm, rfl, h3⟩, _, _, rfl, ⟨ss, rfl, h4⟩, _, _, rfl, hc, _, _, rfl, hx, _, _, rfl, ⟨pd, rfl, h5⟩, _, _, rfl, ⟨pl, rfl, h6⟩, rfl⟩ := h
 obtain ⟨cs, rfl, c1, _⟩ := slF (f := int1) (ok := fun _ => true) (fun x h => by obtain ⟨b, rfl, _⟩ := h; exact ⟨b, rfl, rfl⟩) hc
 obtain ⟨xs, rfl, x1, x2⟩ := slF (f := xtR) (ok := fun x => decide (x.2.length ≤ 9223372036854775807)) (fun x h => by
  obtain ⟨_, _, rfl, ⟨a, rfl, _⟩, _, _, rfl, ⟨s, rfl, hs⟩, rfl⟩ := h
  exact ⟨(a, s), rfl, decide_eq_true (by rw [mx] at hs; exact hs)⟩) hx
 refine ⟨⟨ma, ty, sq, tm, ss, cs, xs, pd, pl⟩, rfl, ?_⟩
 simp only [Md.fin, Bool.and_eq_true, decide_eq_true_eq, List.all_eq_true]
 rw [mx] at h6
 exact ⟨⟨⟨c1, x1⟩, fun x hx => of_decide_eq_true (x2 x hx)⟩, h6⟩
abbrev tyBf : TyF := .st [.f (.i .i64), .f (.i .i64), .f .b, .f .b, .f (.i .i64), .f (.i .i64), .f (.i .i64), .f (.i .i64), .f (.i .i64), .f (.i .i64), .sl (.st [tyMd, .f (.i .i64)])]
theorem hd_shp {l : List AV} (h : FShp (.st [tyMd, .f (.i .i64)]) l) : ∃ x : Hd, l = x.l ∧ x.p.fin = true := by
 obtain ⟨_, _, rfl, hp, _, _, rfl, ⟨st, rfl, _⟩, rfl⟩ := h
 obtain ⟨p, rfl, hf⟩ := md_shpR hp
 exact ⟨⟨p, st⟩, rfl, hf⟩
theorem i64_rg {x : Int} (h : IntKind.i64.min ≤ x ∧ x ≤ IntKind.i64.max) : r64 x = true := inI_of h
theorem bf_shp {l : List AV} (h : FShp tyBf l) : ∃ b : Bf, l = b.a ∧ FinL b.l ∧ b.rg = true ∧ b.l.length ≤ 9223372036854775807 := by
 obtain ⟨_, _, rfl, ⟨ck, rfl, h1⟩, _, _, rfl, ⟨ti, rfl, h2⟩, _, _, rfl, ⟨sd, rfl⟩, _, _, rfl, ⟨wh, rfl⟩, _, _, rfl, ⟨nx, rfl, h3⟩, _, _, rfl, ⟨mr, rfl, h4⟩, _, _, rfl, ⟨of, rfl, h5⟩, _, _, rfl, ⟨tr, rfl, h6⟩, _, _, rfl, ⟨ji, rfl, h7⟩, _, _, rfl, ⟨lo, rfl, h8⟩, _, _, rfl, hl, rfl⟩ := h
 obtain ⟨r, rfl, r1, r2⟩ := slF (f := Hd.l) (ok := fun x => x.p.fin) (fun x h => hd_shp h) hl
 refine ⟨⟨ck, ti, sd, wh, nx, mr, of, tr, ji, lo, r⟩, rfl, r2, ?_, r1⟩
 simp only [Bf.rg, i64_rg h3, i64_rg h4, i64_rg h5, i64_rg h6, i64_rg h7, i64_rg h8, Bool.and_self]
abbrev tyDj : TyF := .st [.f (.i .u8), .st [.f (.i .u16), .f (.i .u32), .sl (.f (.i .u8))], .sl (.f (.st [.i .u16, .b, .i .u8]))]
theorem dj_shp {l : List AV} (h : FShp tyDj l) : ∃ d : Dj, l = d.l ∧ DjOK d = true := by
 obtain ⟨_, _, rfl, ⟨ck, rfl, h1⟩, _, _, rfl, ⟨_, _, rfl, ⟨sq, rfl, h2⟩, _, _, rfl, ⟨tm, rfl, h3⟩, _, _, rfl, hf, rfl⟩, _, _, rfl, he, rfl⟩ := h
 obtain ⟨fr, rfl, f1, f2⟩ := slF (f := u8R) (ok := fun x => inI 0 255 x) (fun x h => by obtain ⟨b, rfl, hb⟩ := h; exact ⟨b, rfl, inI_of hb⟩) hf
 obtain ⟨ev, rfl, e1, e2⟩ := slF (f := Ev.l) (ok := fun e => inI 0 65535 e.wt && inI 0 255 e.pk) (fun x h => by
  obtain ⟨_, _, rfl, ⟨a, rfl, ha⟩, _, _, rfl, ⟨b, rfl⟩, _, _, rfl, ⟨c, rfl, hc⟩, rfl⟩ := h
  have ha : inI 0 65535 a = true := inI_of ha
  have hc : inI 0 255 c = true := inI_of hc
  exact ⟨⟨a, b, c⟩, rfl, by simp only [ha, hc, Bool.and_self]⟩) he
 have h1 : inI 0 255 ck = true := inI_of h1
 have h2 : inI 0 65535 sq = true := inI_of h2
 have h3 : inI 0 4294967295 tm = true := inI_of h3
 refine ⟨⟨ck, ⟨sq, tm, fr⟩, ev⟩, rfl, ?_⟩
 simp only [DjOK, SmOK, Bool.and_eq_true, decide_eq_true_eq, List.all_eq_true]
 have e2b : ∀ e ∈ ev, inI 0 65535 e.wt = true ∧ inI 0 255 e.pk = true := fun e he => by have := e2 e he; simpa only [Bool.and_eq_true] using this
 exact ⟨h1, ⟨h2, h3, f2, f1⟩, e2b, e1⟩
theorem bx_shp {l : List AV} (h : FShp (.f (.ar 2 (.st [.i .u8, .i .u8, .i .i64]))) l) : ∃ x y : Bx, l = x.a ++ y.a ∧ x.okB = true ∧ y.okB = true ∧ r64 x.n = true ∧ r64 y.n = true := by
 obtain ⟨ls, h1, rfl, h2⟩ := h
 have hf : ∀ x ∈ ls, ∃ b : Bx, x = b.a ∧ b.okB = true ∧ r64 b.n = true := fun x hx => by
  obtain ⟨_, _, rfl, ⟨a, rfl, ha⟩, _, _, rfl, ⟨b, rfl, hb⟩, _, _, rfl, ⟨c, rfl, hc⟩, rfl⟩ := h2 x hx
  have ha : inI 0 255 a = true := inI_of ha
  have hb : inI 0 255 b = true := inI_of hb
  exact ⟨⟨a, b, c⟩, rfl, by simp only [Bx.okB, ha, hb, Bool.and_self], i64_rg hc⟩
 match ls, h1 with
 | [a, b], _ =>
  obtain ⟨x, rfl, hx, hx2⟩ := hf a (by simp)
  obtain ⟨y, rfl, hy, hy2⟩ := hf b (by simp)
  exact ⟨x, y, by simp, hx, hy, hx2, hy2⟩
end Go.Proofs.Jit
