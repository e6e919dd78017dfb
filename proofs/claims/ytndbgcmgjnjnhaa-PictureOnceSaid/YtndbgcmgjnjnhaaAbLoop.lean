/- The abstract layer, part 28: loops that count. -/
import Derived.Test.YtndbgcmgjnjnhaaAbTab
namespace Go.Ab
set_option linter.unusedVariables false

/-- A loop of at most m rounds; at the head of round k the state has all that E k and H k say. -/
theorem Loop.count {F : Fx} (hcx : Sound F.P F.cx) (hm : F.P.follows .mixedOrders = true) {c : ICode} {K : Kont} (m : Nat) (E : Nat → Env) (H : Nat → Hp) (n2 : Nat) {e : Env} {h : Hp} {n : Nat} (hn : F.n0 ≤ n2)
    (he : EnvIn n2 e (E 0)) (hh : HpIn n2 h (H 0))
    (round : ∀ k, k ≤ m → jw F c (thenK K fun e' h' n' => k < m ∧ EnvIn n2 e' (E (k + 1)) ∧ HpIn n2 h' (H (k + 1))) (E k) (H k) n2) : Loop F.P F.ct F.N F.n0 c K e h n := by
  refine Loop.inv (F := F) hcx hm (X := { k : Nat // k ≤ m }) (fun k => (E k.1, H k.1, n2)) (fun k => m - k.1) ⟨0, Nat.zero_le _⟩ _root_.id (Wk.keep hn he hh) (fun k => ?_)
  refine iw_mono (fun ex e' h' n' hx => ?_) (iw_of_jw (round k.1 k.2))
  cases ex with
  | normal =>
    obtain ⟨h1, h2, h3⟩ := hx
    exact ⟨⟨k.1 + 1, h1⟩, _root_.id, Wk.keep hn h2 h3, by show m - (k.1 + 1) < m - k.1; omega⟩
  | _ => exact hx

/-- A loop whose head is told by a state x; rounds make the measure less. -/
theorem Loop.by {F : Fx} (hcx : Sound F.P F.cx) (hm : F.P.follows .mixedOrders = true) {c : ICode} {K : Kont} {X : Type} (ok : X → Prop) (μ : X → Nat) (E : X → Env) (H : X → Hp) (n2 : Nat) (x0 : X) {e : Env} {h : Hp} {n : Nat} (hn : F.n0 ≤ n2)
    (h0 : ok x0) (he : EnvIn n2 e (E x0)) (hh : HpIn n2 h (H x0))
    (round : ∀ x, ok x → jw F c (thenK K fun e' h' n' => ∃ x', (ok x' ∧ μ x' < μ x) ∧ EnvIn n2 e' (E x') ∧ HpIn n2 h' (H x')) (E x) (H x) n2) : Loop F.P F.ct F.N F.n0 c K e h n := by
  refine Loop.inv (F := F) hcx hm (X := { x : X // ok x }) (fun k => (E k.1, H k.1, n2)) (fun k => μ k.1) ⟨x0, h0⟩ _root_.id (Wk.keep hn he hh) (fun k => ?_)
  refine iw_mono (fun ex e' h' n' hx => ?_) (iw_of_jw (round k.1 k.2))
  cases ex with
  | normal =>
    obtain ⟨x', ⟨h1, h2⟩, h3, h4⟩ := hx
    exact ⟨⟨x', h1⟩, _root_.id, Wk.keep hn h3 h4, h2⟩
  | _ => exact hx
theorem nblt {a b : Nat} : Nat.blt a b = decide (a < b) := by
  unfold Nat.blt
  rw [nble]
  exact decide_eq_decide.2 Nat.succ_le_iff
theorem bel_p {m b o : Nat} : (AV.p b o).bel m = decide (b < m) := by rw [AV.bel, nblt]
end Go.Ab
