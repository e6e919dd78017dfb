/- Chapter 29: groups that come later and later: what the law asks. -/
import Derived.Test.YtiacdfhaopnekaaArrP8
namespace Go.Proofs.Arr
open Go.Ab
set_option linter.unusedVariables false
/-- Whether one of the first k states is `want`. -/
def orv (s g : Nat → Int) (want : Int) : Nat → Bool
  | 0 => false
  | k + 1 => orv s g want k || ((runS s g (k + 1)).1.sta == want)
theorem watch_succ (s g : Nat → Int) (bad want : Int) (n k : Nat) (b : Bool) (t : Tr) (l : List Pt) : watch s g bad want (n + 1) k b t l = bif (addS t l (s k) (g k)).1.sta == bad then false else watch s g bad want n (k + 1) (b || ((addS t l (s k) (g k)).1.sta == want)) (addS t l (s k) (g k)).1 (addS t l (s k) (g k)).2 := by
  generalize hr : addS t l (s k) (g k) = r
  obtain ⟨t', l'⟩ := r
  have h0 : watch s g bad want (n + 1) k b t l = fcN k fun k => fcT t fun t => fcL l fun l =>
    match addS t l (s k) (g k) with
    | (t', l') => fcT t' fun t' => bif t'.sta == bad then false else watch s g bad want n (k + 1) (b || (t'.sta == want)) t' l' := (rfl)
  rw [h0, fcN_eq, fcT_eq, fcL_eq, hr]
  dsimp only
  rw [fcT_eq]
theorem watch_spec (s g : Nat → Int) (bad want : Int) (n : Nat) : ∀ k, watch s g bad want n k (orv s g want k) (runS s g k).1 (runS s g k).2 = true → (∀ j, k ≤ j → j < k + n → ((runS s g (j + 1)).1.sta == bad) = false) ∧ orv s g want (k + n) = true := by
  induction n with
  | zero => exact fun k h => ⟨fun j h1 h2 => absurd h2 (by omega), h⟩
  | succ n ih =>
    intro k h
    rw [watch_succ] at h
    have e : addS (runS s g k).1 (runS s g k).2 (s k) (g k) = runS s g (k + 1) := rfl
    have e2 : (orv s g want k || ((runS s g (k + 1)).1.sta == want)) = orv s g want (k + 1) := rfl
    rw [e, e2] at h
    cases hb : ((runS s g (k + 1)).1.sta == bad)
    · rw [hb, cond_false] at h
      obtain ⟨h1, h2⟩ := ih (k + 1) h
      refine ⟨fun j a b => ?_, by rw [show k + (n + 1) = k + 1 + n by omega]; exact h2⟩
      by_cases hj : j = k
      · subst hj; exact hb
      · exact h1 j (by omega) (by omega)
    · rw [hb, cond_true] at h; cases h
theorem ten {c : Int} (h : 5 ≤ c ∧ c ≤ 14) : c = 5 ∨ c = 6 ∨ c = 7 ∨ c = 8 ∨ c = 9 ∨ c = 10 ∨ c = 11 ∨ c = 12 ∨ c = 13 ∨ c = 14 := by omega
theorem up_all {c : Int} (h : 5 ≤ c ∧ c ≤ 14) : upB c = true := by
  rcases ten h with rfl | rfl | rfl | rfl | rfl | rfl | rfl | rfl | rfl | rfl
  · exact up5
  · exact up6
  · exact up7
  · exact up8
  · exact up9
  · exact up10
  · exact up11
  · exact up12
  · exact up13
  · exact up14
theorem dn_all {c : Int} (h : 5 ≤ c ∧ c ≤ 14) : dnB c = true := by
  rcases ten h with rfl | rfl | rfl | rfl | rfl | rfl | rfl | rfl | rfl | rfl
  · exact dn5
  · exact dn6
  · exact dn7
  · exact dn8
  · exact dn9
  · exact dn10
  · exact dn11
  · exact dn12
  · exact dn13
  · exact dn14
theorem mul_rg {c : Int} {k : Nat} (h : 5 ≤ c ∧ c ≤ 14) (hk : k ≤ 60) : (0 ≤ (20 + c) * k ∧ (20 + c) * k ≤ 2040) ∧ (0 ≤ (20 - c) * k ∧ (20 - c) * k ≤ 900) ∧ (20 + c) * k ≤ (20 + c) * ((k + 1 : Nat) : Int) ∧ (20 - c) * k ≤ (20 - c) * ((k + 1 : Nat) : Int) := by
  rcases ten h with rfl | rfl | rfl | rfl | rfl | rfl | rfl | rfl | rfl | rfl <;> omega
theorem tmU {c f : Int} (h : 5 ≤ c ∧ c ≤ 14) (hf : 0 ≤ f ∧ f ≤ 65535) : Times (fun k => 20 * (k : Int) + f) (fun k => (20 + c) * (k : Int) + f) 60 :=
  ⟨fun k hk => by omega, fun k hk => by have := mul_rg h (show k ≤ 60 by omega); omega, fun k hk => by have := mul_rg h (show k ≤ 60 by omega); omega⟩
theorem tmD {c f : Int} (h : 5 ≤ c ∧ c ≤ 14) (hf : 0 ≤ f ∧ f ≤ 65535) : Times (fun k => 20 * (k : Int) + f) (fun k => 2000 + (20 - c) * (k : Int) + f) 60 :=
  ⟨fun k hk => by omega, fun k hk => by have := mul_rg h (show k ≤ 60 by omega); omega, fun k hk => by have := mul_rg h (show k ≤ 60 by omega); omega⟩
/-- What the law asks of the states, for times from f on. -/
theorem orv_mv {s g : Nat → Int} {m : Nat} {p q w : Int} (h : Times s g m) (h' : Times (fun k => s k + p) (fun k => g k + q) m) : ∀ k, k ≤ m → orv (fun k => s k + p) (fun k => g k + q) w k = orv s g w k
  | 0, _ => rfl
  | k + 1, hk => by
    simp only [orv]
    rw [orv_mv h h' k (by omega), (run_mv h h' (k + 1) hk).1.sta]
theorem up_spec {c f : Int} (h : 5 ≤ c ∧ c ≤ 14) (hf : 0 ≤ f ∧ f ≤ 65535) : (∀ j, j < 60 → ((runS (fun k => 20 * (k : Int) + f) (fun k => (20 + c) * (k : Int) + f) (j + 1)).1.sta == 2) = false) ∧ orv (fun k => 20 * (k : Int) + f) (fun k => (20 + c) * (k : Int) + f) 1 60 = true := by
  have h0 : Times (fun k => 20 * (k : Int)) (fun k => (20 + c) * (k : Int)) 60 := by have := tmU (f := 0) h (by omega); simpa using this
  obtain ⟨a, b⟩ := watch_spec _ _ 2 1 60 0 (up_all h)
  refine ⟨fun j hj => ?_, ?_⟩
  · have := (run_mv h0 (tmU h hf) (j + 1) hj).1.sta
    rw [this]; exact a j (by omega) (by omega)
  · exact (orv_mv h0 (tmU h hf) 60 (by omega)).trans b
theorem dn_spec {c f : Int} (h : 5 ≤ c ∧ c ≤ 14) (hf : 0 ≤ f ∧ f ≤ 65535) : (∀ j, j < 60 → ((runS (fun k => 20 * (k : Int) + f) (fun k => 2000 + (20 - c) * (k : Int) + f) (j + 1)).1.sta == 1) = false) ∧ orv (fun k => 20 * (k : Int) + f) (fun k => 2000 + (20 - c) * (k : Int) + f) 2 60 = true := by
  have h0 : Times (fun k => 20 * (k : Int)) (fun k => 2000 + (20 - c) * (k : Int)) 60 := by have := tmD (f := 0) h (by omega); simpa using this
  obtain ⟨a, b⟩ := watch_spec _ _ 1 2 60 0 (dn_all h)
  refine ⟨fun j hj => ?_, ?_⟩
  · have := (run_mv h0 (tmD h hf) (j + 1) hj).1.sta
    rw [this]; exact a j (by omega) (by omega)
  · exact (orv_mv h0 (tmD h hf) 60 (by omega)).trans b
end Go.Proofs.Arr
