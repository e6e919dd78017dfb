/- What the joins of chapter 29 share: a law's arguments, read. -/
import Derived.Test.YtiacdfhaopnekaaAbDeep
import Derived.Test.YtiacdfhaopnekaaArrC12
import Derived.Test.YtiacdfhaopnekaaAbShs
namespace Go.Proofs.Arr
open Go.Ab
set_option linter.unusedVariables false

theorem flat_rows {α : Type} {T : Ty} {f : α → List AV} {ok : α → Bool} (h : ∀ x, Flat T x → ∃ a, x = f a ∧ ok a = true) : ∀ ls : List (List AV), (∀ x ∈ ls, Flat T x) → ∃ l : List α, ls.flatten = rows f l ∧ l.length = ls.length ∧ l.all ok = true
  | [], _ => ⟨[], rfl, rfl, rfl⟩
  | x :: ls, hx => by
    obtain ⟨a, rfl, ha⟩ := h x (hx x List.mem_cons_self)
    obtain ⟨l, h1, h2, h3⟩ := flat_rows h ls (fun y hy => hx y (List.mem_cons_of_mem _ hy))
    exact ⟨a :: l, by rw [List.flatten_cons, h1]; rfl, by simp [h2], by simp [ha, h3]⟩
/-- A slice that came in: nil, or in a block of its own. -/
theorem sl_shp {α : Type} {T : Ty} {f : α → List AV} {ok : α → Bool} {z : Nat} (hf : ∀ a, (f a).length = z) (hb : ∀ a, belL 0 (f a) = true) (h : ∀ x, Flat T x → ∃ a, x = f a ∧ ok a = true) {j : Nat} {l : List AV} {hp : Hp} (hs : SlShp T j l hp) :
    ∃ (s : Sh) (e : List α), e.all ok = true ∧ s.is f z e ∧ l = [s.v j] ∧ hp = s.h j := by
  rcases hs with ⟨rfl, rfl⟩ | ⟨ls, cap, g1, g2, g3, rfl, rfl⟩
  · exact ⟨.nil, [], rfl, ⟨rfl, rfl, rfl⟩, rfl, rfl⟩
  · obtain ⟨e, e1, e2, e3⟩ := flat_rows h ls g1
    refine ⟨.sl { cells := rows f e, ro := true } 0 e.length cap, e, e3, ⟨rows_bel hb, rfl, ?_⟩, by rw [← e2]; rfl, by rw [e1]; rfl⟩
    show cellsAt _ 0 _ = _
    unfold cellsAt
    rw [List.drop_zero, ← rows_len hf, List.take_length]
/-- The same, and its length does not pass its capacity. -/
theorem sl_shpS {α : Type} {T : Ty} {f : α → List AV} {ok : α → Bool} {z : Nat} (hf : ∀ a, (f a).length = z) (hb : ∀ a, belL 0 (f a) = true) (h : ∀ x, Flat T x → ∃ a, x = f a ∧ ok a = true) {j : Nat} {l : List AV} {hp : Hp} (hs : SlShp T j l hp) :
    ∃ (s : Sh) (e : List α), e.all ok = true ∧ s.is f z e ∧ s.sane z = true ∧ l = [s.v j] ∧ hp = s.h j := by
  rcases hs with ⟨rfl, rfl⟩ | ⟨ls, cap, g1, g2, g3, rfl, rfl⟩
  · exact ⟨.nil, [], rfl, ⟨rfl, rfl, rfl⟩, rfl, rfl, rfl⟩
  · obtain ⟨e, e1, e2, e3⟩ := flat_rows h ls g1
    refine ⟨.sl { cells := rows f e, ro := true } 0 e.length cap, e, e3, ⟨rows_bel hb, rfl, ?_⟩, decide_eq_true (by omega), by rw [← e2]; rfl, by rw [e1]; rfl⟩
    show cellsAt _ 0 _ = _
    unfold cellsAt
    rw [List.drop_zero, ← rows_len hf, List.take_length]
def pkT : Ty := .st [.i .i8, .i .u8]
theorem pk_flat : ∀ x, Flat pkT x → ∃ a : Pk, x = a.l ∧ a.ok = true := by
  rintro x ⟨c1, r1, rfl, ⟨n1, rfl, h1⟩, c2, r2, rfl, ⟨n2, rfl, h2⟩, rfl⟩
  refine ⟨⟨n1, n2⟩, rfl, ?_⟩
  simp only [Pk.ok, Bool.and_eq_true, inI_iff]
  exact ⟨h1, h2⟩
def drT : TyD := .st [.f (.i .u16), .f (.i .u8), .f (.i .u8), .sl pkT]
theorem dr_shp {j : Nat} {l : List AV} {h : Hp} (hd : DShp drT j l h) : ∃ (d : Dr) (s : Sh) (pk : List Pk), d.ok = true ∧ pk.all Pk.ok = true ∧ Sh.pks s pk ∧ l = d.l (s.v j) ∧ h = s.h j := by
  obtain ⟨c1, r1, p1, q1, rfl, rfl, ⟨⟨n1, rfl, h1⟩, rfl⟩, c2, r2, p2, q2, rfl, rfl, ⟨⟨n2, rfl, h2⟩, rfl⟩, c3, r3, p3, q3, rfl, rfl, ⟨⟨n3, rfl, h3⟩, rfl⟩, c4, r4, p4, q4, rfl, rfl, h4, rfl, rfl⟩ := hd
  obtain ⟨s, e, e1, e2, rfl, rfl⟩ := sl_shp (j := j) Pk.len Pk.bel0 pk_flat h4
  refine ⟨⟨n1, n2, n3⟩, s, e, ?_, e1, e2, rfl, by simp⟩
  simp only [Dr.ok, Bool.and_eq_true, inI_iff]
  exact ⟨⟨h1, h2⟩, h3⟩
theorem dr_shpS {j : Nat} {l : List AV} {h : Hp} (hd : DShp drT j l h) : ∃ (d : Dr) (s : Sh) (pk : List Pk), d.ok = true ∧ pk.all Pk.ok = true ∧ Sh.pks s pk ∧ s.sane 2 = true ∧ l = d.l (s.v j) ∧ h = s.h j := by
  obtain ⟨c1, r1, p1, q1, rfl, rfl, ⟨⟨n1, rfl, h1⟩, rfl⟩, c2, r2, p2, q2, rfl, rfl, ⟨⟨n2, rfl, h2⟩, rfl⟩, c3, r3, p3, q3, rfl, rfl, ⟨⟨n3, rfl, h3⟩, rfl⟩, c4, r4, p4, q4, rfl, rfl, h4, rfl, rfl⟩ := hd
  obtain ⟨s, e, e1, e2, e3, rfl, rfl⟩ := sl_shpS (j := j) Pk.len Pk.bel0 pk_flat h4
  refine ⟨⟨n1, n2, n3⟩, s, e, ?_, e1, e2, e3, rfl, by simp⟩
  simp only [Dr.ok, Bool.and_eq_true, inI_iff]
  exact ⟨⟨h1, h2⟩, h3⟩
end Go.Proofs.Arr
