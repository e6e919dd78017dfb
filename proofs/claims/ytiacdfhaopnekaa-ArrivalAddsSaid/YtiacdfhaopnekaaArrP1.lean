/- Chapter 29: bounds on sums of points. -/
import Derived.Test.YtiacdfhaopnekaaArrC1
namespace Go.Proofs.Arr
open Go.Ab
set_option linter.unusedVariables false

def nearI (l : List Pt) (i : Nat) : Bool := inI 0 M40 (pX l i) && inI (-M40) M40 (pY l i) && inI 0 40000 (pX l i - pX l 0) && inI (-67108864) 67108864 (pY l i - pY l 0)
/-- All points are near the first one. -/
def nearB (l : List Pt) : Bool := (List.range l.length).all (nearI l) && decide (l.length ≤ 20)
structure NearI (l : List Pt) (i : Nat) : Prop where
  x1 : 0 ≤ pX l i
  x2 : pX l i ≤ 1099511627776
  y1 : -1099511627776 ≤ pY l i
  y2 : pY l i ≤ 1099511627776
  a1 : 0 ≤ pX l i - pX l 0
  a2 : pX l i - pX l 0 ≤ 40000
  b1 : -67108864 ≤ pY l i - pY l 0
  b2 : pY l i - pY l 0 ≤ 67108864
theorem near_at {l : List Pt} (h : nearB l = true) {i : Nat} (hi : i < l.length) : NearI l i := by
  simp only [nearB, Bool.and_eq_true, List.all_eq_true, List.mem_range] at h
  have := h.1 i hi
  simp only [nearI, M40, Bool.and_eq_true, inI_iff] at this
  obtain ⟨⟨⟨⟨h1, h2⟩, h3, h4⟩, h5, h6⟩, h7, h8⟩ := this
  exact ⟨h1, h2, h3, h4, h5, h6, h7, h8⟩
theorem near_len {l : List Pt} (h : nearB l = true) : l.length ≤ 20 := by
  simp only [nearB, Bool.and_eq_true, decide_eq_true_eq] at h
  exact h.2
theorem mul_rng {x y A B : Int} (h1 : -A ≤ x) (h2 : x ≤ A) (h3 : -B ≤ y) (h4 : y ≤ B) (hA : 0 ≤ A) (hB : 0 ≤ B) : -(A * B) ≤ x * y ∧ x * y ≤ A * B := by
  have hx : x.natAbs ≤ A.natAbs := by omega
  have hy : y.natAbs ≤ B.natAbs := by omega
  have h : (x * y).natAbs ≤ A.natAbs * B.natAbs := by rw [Int.natAbs_mul]; exact Nat.mul_le_mul hx hy
  have e : (A * B).natAbs = A.natAbs * B.natAbs := Int.natAbs_mul A B
  have hp : 0 ≤ A * B := Int.mul_nonneg hA hB
  omega
/-- What is added up is bounded. -/
def Bnd (f : Int → Int → Int) : Prop := ∀ x y : Int, 0 ≤ x → x ≤ 40000 → -67108864 ≤ y → y ≤ 67108864 → -2684354560000 ≤ f x y ∧ f x y ≤ 2684354560000
theorem bnd_x : Bnd (fun x _ => x) := fun x y h1 h2 h3 h4 => by dsimp only; omega
theorem bnd_y : Bnd (fun _ y => y) := fun x y h1 h2 h3 h4 => by dsimp only; omega
theorem bnd_xy : Bnd (fun x y => x * y) := fun x y h1 h2 h3 h4 => by
  have := mul_rng (A := 40000) (B := 67108864) (x := x) (y := y) (by omega) (by omega) (by omega) (by omega) (by decide) (by decide)
  dsimp only; omega
theorem bnd_xx : Bnd (fun x _ => x * x) := fun x y h1 h2 h3 h4 => by
  have := mul_rng (A := 40000) (B := 40000) (x := x) (y := x) (by omega) (by omega) (by omega) (by omega) (by decide) (by decide)
  show -2684354560000 ≤ x * x ∧ x * x ≤ 2684354560000
  omega
theorem sum_rng {f : Int → Int → Int} (hf : Bnd f) {l : List Pt} (h : nearB l = true) : ∀ n : Nat, n ≤ l.length → -(2684354560000 * n) ≤ sumI f l n ∧ sumI f l n ≤ 2684354560000 * n
  | 0, _ => by simp [sumI]
  | n + 1, hn => by
    have ih := sum_rng hf h n (by omega)
    have g := near_at h (show n < l.length by omega)
    have := hf _ _ g.a1 g.a2 g.b1 g.b2
    simp only [sumI]
    omega
theorem sumx_rng {l : List Pt} (h : nearB l = true) : ∀ n : Nat, n ≤ l.length → 0 ≤ sumI (fun x _ => x) l n ∧ sumI (fun x _ => x) l n ≤ 40000 * n
  | 0, _ => by simp [sumI]
  | n + 1, hn => by
    have ih := sumx_rng h n (by omega)
    have g := near_at h (show n < l.length by omega)
    have := g.a1
    have := g.a2
    simp only [sumI]
    omega
theorem sumy_rng {l : List Pt} (h : nearB l = true) : ∀ n : Nat, n ≤ l.length → -(67108864 * n) ≤ sumI (fun _ y => y) l n ∧ sumI (fun _ y => y) l n ≤ 67108864 * n
  | 0, _ => by simp [sumI]
  | n + 1, hn => by
    have ih := sumy_rng h n (by omega)
    have g := near_at h (show n < l.length by omega)
    have := g.b1
    have := g.b2
    simp only [sumI]
    omega
/-- The line's numbers, and those on the way to them, are far from the ends. -/
structure LineF (l : List Pt) : Prop where
  p1 : -1073741824000000 ≤ l.length * sumI (fun x y => x * y) l l.length ∧ l.length * sumI (fun x y => x * y) l l.length ≤ 1073741824000000
  p2 : -1073741824000000 ≤ l.length * sumI (fun x _ => x * x) l l.length ∧ l.length * sumI (fun x _ => x * x) l l.length ≤ 1073741824000000
  p3 : -1073741824000000 ≤ sumI (fun x _ => x) l l.length * sumI (fun _ y => y) l l.length ∧ sumI (fun x _ => x) l l.length * sumI (fun _ y => y) l l.length ≤ 1073741824000000
  p4 : -1073741824000000 ≤ sumI (fun x _ => x) l l.length * sumI (fun x _ => x) l l.length ∧ sumI (fun x _ => x) l l.length * sumI (fun x _ => x) l l.length ≤ 1073741824000000
theorem line_rng {l : List Pt} (h : nearB l = true) : LineF l := by
  have hn := near_len h
  have a := sum_rng bnd_xy h l.length (Nat.le_refl _)
  have b := sum_rng bnd_xx h l.length (Nat.le_refl _)
  have c := sumx_rng h l.length (Nat.le_refl _)
  have d := sumy_rng h l.length (Nat.le_refl _)
  have m1 := mul_rng (A := 20) (B := 53687091200000) (x := (l.length : Int)) (y := sumI (fun x y => x * y) l l.length) (by omega) (by omega) (by omega) (by omega) (by decide) (by decide)
  have m2 := mul_rng (A := 20) (B := 53687091200000) (x := (l.length : Int)) (y := sumI (fun x _ => x * x) l l.length) (by omega) (by omega) (by omega) (by omega) (by decide) (by decide)
  have m3 := mul_rng (A := 800000) (B := 1342177280) (x := sumI (fun x _ => x) l l.length) (y := sumI (fun _ y => y) l l.length) (by omega) (by omega) (by omega) (by omega) (by decide) (by decide)
  have m4 := mul_rng (A := 800000) (B := 800000) (x := sumI (fun x _ => x) l l.length) (y := sumI (fun x _ => x) l l.length) (by omega) (by omega) (by omega) (by omega) (by decide) (by decide)
  exact ⟨by omega, by omega, by omega, by omega⟩
theorem line_N {l : List Pt} (h : nearB l = true) : -2147483648000000 ≤ lineN l ∧ lineN l ≤ 2147483648000000 := by
  obtain ⟨p1, p2, p3, p4⟩ := line_rng h
  unfold lineN; omega
theorem line_D {l : List Pt} (h : nearB l = true) : -2147483648000000 ≤ lineD l ∧ lineD l ≤ 2147483648000000 := by
  obtain ⟨p1, p2, p3, p4⟩ := line_rng h
  unfold lineD; omega
end Go.Proofs.Arr
