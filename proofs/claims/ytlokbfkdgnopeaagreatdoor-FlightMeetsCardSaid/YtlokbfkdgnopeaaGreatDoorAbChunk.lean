/- The abstract layer, part 33: cells that are rows of equal length. -/
import Derived.Test.YtlokbfkdgnopeaaGreatDoorAbLoops
namespace Go.Ab
set_option linter.unusedVariables false
def rows {α : Type} (f : α → List AV) (l : List α) : List AV := (l.map f).flatten
section
variable {α : Type} {f : α → List AV} {z : Nat}
theorem rows_nil : rows f [] = [] := rfl
theorem rows_cons {a : α} {l : List α} : rows f (a :: l) = f a ++ rows f l := rfl
theorem rows_append {l m : List α} : rows f (l ++ m) = rows f l ++ rows f m := by simp [rows]
theorem rows_len (hf : ∀ a, (f a).length = z) : ∀ {l : List α}, (rows f l).length = l.length * z
 | [] => by simp [rows]
 | a :: l => by rw [rows_cons, List.length_append, hf, rows_len hf, List.length_cons, Nat.add_mul, Nat.one_mul, Nat.add_comm]
theorem rows_drop (hf : ∀ a, (f a).length = z) : ∀ {l : List α} {k : Nat}, (rows f l).drop (k * z) = rows f (l.drop k)
 | l, 0 => by simp
 | [], k + 1 => by simp [rows]
 | a :: l, k + 1 => by
  rw [rows_cons, List.drop_append, hf, List.drop_of_length_le (l := f a) (by rw [hf, Nat.add_mul]; omega), List.nil_append, show (k + 1) * z - z = k * z by rw [Nat.add_mul]; omega, rows_drop hf]
  rfl
theorem rows_take (hf : ∀ a, (f a).length = z) : ∀ {l : List α} {k : Nat}, (rows f l).take (k * z) = rows f (l.take k)
 | l, 0 => by simp [rows]
 | [], k + 1 => by simp [rows]
 | a :: l, k + 1 => by
  rw [rows_cons, List.take_append, hf, List.take_of_length_le (l := f a) (by rw [hf, Nat.add_mul]; omega), show (k + 1) * z - z = k * z by rw [Nat.add_mul]; omega, rows_take hf]
  rfl
theorem rows_at (hf : ∀ a, (f a).length = z) {l : List α} {k : Nat} {a : α} (h : l[k]? = some a) : cellsAt (rows f l) (k * z) z = f a := by
 unfold cellsAt
 rw [rows_drop hf]
 have hk : k < l.length := by
  rcases Nat.lt_or_ge k l.length with h' | h'
  · exact h'
  · rw [List.getElem?_eq_none h'] at h; cases h
 rw [List.drop_eq_getElem_cons hk, rows_cons]
 have : l[k] = a := by rw [List.getElem?_eq_getElem hk] at h; exact Option.some.inj h
 rw [this, List.take_append, hf, Nat.sub_self, List.take_zero, List.append_nil, List.take_of_length_le (by rw [hf]; omega)]
theorem rows_get (hf : ∀ a, (f a).length = z) {l : List α} {k j : Nat} {a : α} {v : AV} (h : l[k]? = some a) (hj : (f a)[j]? = some v) : (rows f l)[k * z + j]? = some v := by
 have h1 := rows_at hf h
 have hlt : j < z := by
  rcases Nat.lt_or_ge j z with h' | h'
  · exact h'
  · rw [List.getElem?_eq_none (by rw [hf]; omega)] at hj; cases hj
 rw [← h1] at hj
 unfold cellsAt at hj
 rw [List.getElem?_take_of_lt hlt, List.getElem?_drop] at hj
 exact hj
theorem belL_append {m : Nat} : ∀ {l r : List AV}, belL m (l ++ r) = (belL m l && belL m r)
 | [], r => by simp [belL]
 | a :: l, r => by simp [belL, belL_append (l := l), Bool.and_assoc]
theorem rows_bel {m : Nat} (hb : ∀ a, belL m (f a) = true) : ∀ {l : List α}, belL m (rows f l) = true
 | [] => rfl
 | a :: l => by rw [rows_cons, belL_append, hb, rows_bel hb]; rfl
def unrows (z : Nat) (g : List AV → Option α) : Nat → List AV → Option (List α)
 | 0, [] => some []
 | 0, _ => none
 | n + 1, c => (g (c.take z)).bind fun a => (unrows z g n (c.drop z)).bind fun l => some (a :: l)
theorem unrows_eq {g : List AV → Option α} (hg : ∀ c a, g c = some a → c = f a) : ∀ {n : Nat} {c : List AV} {l : List α}, unrows z g n c = some l → c = rows f l ∧ l.length = n
 | 0, [], l, h => by simp only [unrows, Option.some.injEq] at h; subst h; exact ⟨rfl, rfl⟩
 | 0, _ :: _, l, h => by simp [unrows] at h
 | n + 1, c, l, h => by
  simp only [unrows, Option.bind_eq_some_iff, Option.some.injEq] at h
  obtain ⟨a, ha, m, hm, rfl⟩ := h
  obtain ⟨h1, h2⟩ := unrows_eq hg hm
  refine ⟨?_, by simp [h2]⟩
  rw [rows_cons, ← h1, ← hg _ _ ha, List.take_append_drop]
theorem unrows_rows {g : List AV → Option α} (hf : ∀ a, (f a).length = z) (hg : ∀ a, g (f a) = some a) : ∀ l : List α, unrows z g l.length (rows f l) = some l
 | [] => rfl
 | a :: l => by
  show (g ((rows f (a :: l)).take z)).bind _ = _
  have h1 : (rows f (a :: l)).take z = f a := by rw [rows_cons, List.take_append, hf, Nat.sub_self, List.take_zero, List.append_nil, List.take_of_length_le (by rw [hf]; omega)]
  have h2 : (rows f (a :: l)).drop z = rows f l := by rw [rows_cons, List.drop_append, hf, Nat.sub_self, List.drop_zero, List.drop_of_length_le (by rw [hf]; omega)]; rfl
  rw [h1, hg, Option.bind_some, h2, unrows_rows hf hg l]
  rfl
end
end Go.Ab
