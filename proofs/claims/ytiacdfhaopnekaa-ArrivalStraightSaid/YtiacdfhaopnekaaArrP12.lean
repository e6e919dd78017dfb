/- Chapter 29: lines of points that lie on one line, that are moved, or turned. -/
import Derived.Test.YtiacdfhaopnekaaArrP2
import Derived.Test.YtiacdfhaopnekaaAbShs
namespace Go.Proofs.Arr
open Go.Ab
set_option linter.unusedVariables false
/-- Where the points of the law lie. -/
def xN (ks : List Int) : Nat → Int
  | 0 => 0
  | n + 1 => xN ks n + ks.getD n 0
def yN (ys : List Int) (i : Nat) : Int := if ys.length = 0 then 0 else 1000 * ys.getD (i % ys.length) 0
/-- A list of points, one for each number. -/
def ptsOf (x y : Nat → Int) (n : Nat) : List Pt := (List.range n).map fun i => ⟨x i, y i⟩
theorem ptsOf_len (x y : Nat → Int) (n : Nat) : (ptsOf x y n).length = n := by simp [ptsOf]
theorem ptsOf_succ (x y : Nat → Int) (n : Nat) : ptsOf x y (n + 1) = ptsOf x y n ++ [⟨x n, y n⟩] := by simp [ptsOf, List.range_succ]
theorem ptsOf_x {x y : Nat → Int} {n i : Nat} (hi : i < n) : pX (ptsOf x y n) i = x i := by simp [pX, ptsOf, List.getD_eq_getElem?_getD, hi]
theorem ptsOf_y {x y : Nat → Int} {n i : Nat} (hi : i < n) : pY (ptsOf x y n) i = y i := by simp [pY, ptsOf, List.getD_eq_getElem?_getD, hi]
section
variable {x y : Nat → Int} {n : Nat}
theorem sum_ptsOf {f : Int → Int → Int} : ∀ m, m ≤ n → sumI f (ptsOf x y n) m = sumI f (ptsOf x y m) m
  | 0, _ => rfl
  | m + 1, hm => by
    have e : ∀ k, m < k → sumI f (ptsOf x y k) m = sumI f (ptsOf x y m) m ∨ True := fun k hk => .inr trivial
    have key : ∀ (a b j : Nat), j ≤ a → j ≤ b → sumI f (ptsOf x y a) j = sumI f (ptsOf x y b) j := by
      intro a b j
      induction j with
      | zero => intro _ _; rfl
      | succ j ih =>
        intro ha hb
        simp only [sumI]
        rw [ih (by omega) (by omega), ptsOf_x (by omega), ptsOf_x (by omega), ptsOf_y (by omega), ptsOf_y (by omega), ptsOf_x (by omega), ptsOf_x (by omega), ptsOf_y (by omega), ptsOf_y (by omega)]
    exact key n (m + 1) (m + 1) hm (Nat.le_refl _)
/-- Sums depend on the differences alone. -/
theorem sum_dif {f g : Int → Int → Int} {x' y' : Nat → Int} (h : ∀ i, i < n → f (x i - x 0) (y i - y 0) = g (x' i - x' 0) (y' i - y' 0)) : ∀ m, m ≤ n → sumI f (ptsOf x y n) m = sumI g (ptsOf x' y' n) m
  | 0, _ => rfl
  | m + 1, hm => by
    have ih := sum_dif (f := f) (g := g) h m (by omega)
    simp only [sumI]
    rw [ih, ptsOf_x (by omega), ptsOf_x (by omega), ptsOf_y (by omega), ptsOf_y (by omega), ptsOf_x (by omega), ptsOf_x (by omega), ptsOf_y (by omega), ptsOf_y (by omega), h m (by omega)]
theorem sum_mul {f : Int → Int → Int} {l : List Pt} (a : Int) : ∀ m, sumI (fun x y => a * f x y) l m = a * sumI f l m
  | 0 => by simp [sumI]
  | m + 1 => by simp only [sumI]; rw [sum_mul a m, Int.mul_add]
theorem lineN_eq {x' y' : Nat → Int} (hx : ∀ i, i < n → x i - x 0 = x' i - x' 0) (hy : ∀ i, i < n → y i - y 0 = y' i - y' 0) : lineN (ptsOf x y n) = lineN (ptsOf x' y' n) := by
  unfold lineN
  rw [ptsOf_len, ptsOf_len, sum_dif (f := fun x y => x * y) (x' := x') (y' := y') (g := fun x y => x * y) (fun i hi => by rw [hx i hi, hy i hi]) n (Nat.le_refl _), sum_dif (f := fun x _ => x) (x' := x') (y' := y') (g := fun x _ => x) (fun i hi => hx i hi) n (Nat.le_refl _), sum_dif (f := fun _ y => y) (x' := x') (y' := y') (g := fun _ y => y) (fun i hi => hy i hi) n (Nat.le_refl _)]
theorem lineD_eq {x' y' : Nat → Int} (hx : ∀ i, i < n → x i - x 0 = x' i - x' 0) : lineD (ptsOf x y n) = lineD (ptsOf x' y' n) := by
  unfold lineD
  rw [ptsOf_len, ptsOf_len, sum_dif (f := fun x _ => x * x) (x' := x') (y' := y') (g := fun x _ => x * x) (fun i hi => by rw [hx i hi]) n (Nat.le_refl _), sum_dif (f := fun x _ => x) (x' := x') (y' := y') (g := fun x _ => x) (fun i hi => hx i hi) n (Nat.le_refl _)]
/-- y is a multiple of x, as far as differences go. -/
theorem lineN_mul (a : Int) (hy : ∀ i, i < n → y i - y 0 = a * (x i - x 0)) : lineN (ptsOf x y n) = a * lineD (ptsOf x y n) := by
  unfold lineN lineD
  rw [ptsOf_len]
  rw [sum_dif (f := fun x y => x * y) (x' := x) (y' := y) (g := fun x _ => a * (x * x)) (fun i hi => by rw [hy i hi, Int.mul_left_comm]) n (Nat.le_refl _)]
  rw [sum_dif (f := fun _ y => y) (x' := x) (y' := y) (g := fun x _ => a * x) (fun i hi => hy i hi) n (Nat.le_refl _)]
  rw [sum_mul (f := fun x _ => x * x), sum_mul (f := fun x _ => x)]
  rw [Int.mul_sub, Int.mul_left_comm, Int.mul_left_comm a (sumI (fun x x_1 => x) (ptsOf x y n) n)]
theorem lineN_neg {y' : Nat → Int} (hy : ∀ i, i < n → y' i - y' 0 = -(y i - y 0)) : lineN (ptsOf x y' n) = -lineN (ptsOf x y n) := by
  unfold lineN
  rw [ptsOf_len, ptsOf_len]
  rw [sum_dif (f := fun x y => x * y) (x := x) (y := y') (x' := x) (y' := y) (g := fun x y => (-1) * (x * y)) (fun i hi => by rw [hy i hi, Int.mul_neg, Int.neg_mul, Int.one_mul]) n (Nat.le_refl _)]
  rw [sum_dif (f := fun x _ => x) (x := x) (y := y') (x' := x) (y' := y) (g := fun x _ => x) (fun i hi => rfl) n (Nat.le_refl _)]
  rw [sum_dif (f := fun _ y => y) (x := x) (y := y') (x' := x) (y' := y) (g := fun _ y => (-1) * y) (fun i hi => by rw [hy i hi, Int.neg_mul, Int.one_mul]) n (Nat.le_refl _)]
  rw [sum_mul (f := fun x y => x * y), sum_mul (f := fun _ y => y)]
  rw [Int.mul_left_comm, Int.mul_left_comm (sumI (fun x _ => x) (ptsOf x y n) n)]
  omega
theorem pts_of (hn : n ≤ 20) (hx : ∀ i, i < n → 0 ≤ x i ∧ x i ≤ 1099511627776) (hs : ∀ i, i + 1 < n → 0 ≤ x (i + 1) - x i ∧ x (i + 1) - x i ≤ 40000) (hy : ∀ i, i < n → (-1099511627776 ≤ y i ∧ y i ≤ 1099511627776) ∧ -67108864 ≤ y i - y 0 ∧ y i - y 0 ≤ 67108864) : ptsB (ptsOf x y n) 40000 = true := by
  simp only [ptsB, Bool.and_eq_true, List.all_eq_true, List.mem_range, decide_eq_true_eq, ptsOf_len]
  refine ⟨fun i hi => ?_, hn⟩
  have a := hx i hi
  have b := hy i hi
  have c : i ≠ 0 → 0 ≤ x i - x (i - 1) ∧ x i - x (i - 1) ≤ 40000 := fun h0 => by
    have := hs (i - 1) (by omega)
    rwa [show i - 1 + 1 = i by omega] at this
  simp only [ptI, M40, Bool.and_eq_true, Bool.or_eq_true, inI_iff, beq_iff_eq, ptsOf_x hi, ptsOf_y hi, ptsOf_x (show i - 1 < n by omega), ptsOf_y (show 0 < n by omega)]
  by_cases h0 : i = 0
  · exact ⟨⟨⟨a, b.1⟩, .inl h0⟩, b.2⟩
  · exact ⟨⟨⟨a, b.1⟩, .inr (c h0)⟩, b.2⟩
theorem lineOK_of (hp : ptsB (ptsOf x y n) 40000 = true) (h2 : 2 ≤ n) (hl : 1 ≤ x (n - 1) - x 0 ∧ x (n - 1) - x 0 ≤ 40000) : lineOK (ptsOf x y n) = true := by
  simp only [lineOK, Bool.and_eq_true, decide_eq_true_eq, inI_iff, ptsOf_len, ptsOf_x (show n - 1 < n by omega), ptsOf_x (show 0 < n by omega)]
  exact ⟨⟨h2, hp⟩, hl⟩
theorem lineOK_no (h : n < 2 ∨ x 0 = x (n - 1)) : lineOK (ptsOf x y n) = false := by
  rw [Bool.eq_false_iff]
  intro hh
  simp only [lineOK, Bool.and_eq_true, decide_eq_true_eq, inI_iff, ptsOf_len] at hh
  rw [ptsOf_x (by omega), ptsOf_x (by omega)] at hh
  omega
theorem lineD_of (h2 : 2 ≤ n) (hl : x (n - 1) - x 0 ≠ 0) : 0 < lineD (ptsOf x y n) := by
  refine lineD_pos (by rw [ptsOf_len]; omega) ?_
  rw [ptsOf_len, ptsOf_x (by omega), ptsOf_x (by omega)]
  omega
end
theorem xN_step {ks : List Int} (h : ∀ k ∈ ks, 0 ≤ k ∧ k ≤ 255) (n : Nat) : 0 ≤ xN ks (n + 1) - xN ks n ∧ xN ks (n + 1) - xN ks n ≤ 255 := by
  simp only [xN]
  have : 0 ≤ ks.getD n 0 ∧ ks.getD n 0 ≤ 255 := by
    rw [List.getD_eq_getElem?_getD]
    rcases Nat.lt_or_ge n ks.length with h' | h'
    · rw [List.getElem?_eq_getElem h']; exact h _ (List.getElem_mem _)
    · rw [List.getElem?_eq_none h']; simp
  omega
theorem xN_rng {ks : List Int} (h : ∀ k ∈ ks, 0 ≤ k ∧ k ≤ 255) : ∀ n : Nat, 0 ≤ xN ks n ∧ xN ks n ≤ 255 * n
  | 0 => by simp [xN]
  | n + 1 => by have a := xN_rng h n; have b := xN_step h n; omega
theorem yN_rng {ys : List Int} (h : ∀ k ∈ ys, -128 ≤ k ∧ k ≤ 127) (n : Nat) : -128000 ≤ yN ys n ∧ yN ys n ≤ 127000 := by
  unfold yN
  split
  · omega
  · rename_i h0
    have hlt : n % ys.length < ys.length := Nat.mod_lt _ (by omega)
    rw [List.getD_eq_getElem?_getD, List.getElem?_eq_getElem hlt]
    have := h _ (List.getElem_mem hlt)
    simp only [Option.getD_some]
    omega
end Go.Proofs.Arr
