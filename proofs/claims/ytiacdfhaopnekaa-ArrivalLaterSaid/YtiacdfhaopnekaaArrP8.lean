/- Chapter 29: groups that come later and later. -/
import Derived.Test.YtiacdfhaopnekaaArrP7
namespace Go.Proofs.Arr
open Go.Ab
set_option linter.unusedVariables false
/-- A number, worked out before it is handed on. -/
def fcN {α : Type} (n : Nat) (k : Nat → α) : α := Nat.rec (k 0) (fun p _ => k (p + 1)) n
def fcI {α : Type} (n : Int) (k : Int → α) : α := match n with
  | .ofNat m => fcN m fun m => k (.ofNat m)
  | .negSucc m => fcN m fun m => k (.negSucc m)
theorem fcN_eq {α : Type} (n : Nat) (k : Nat → α) : fcN n k = k n := by cases n <;> rfl
theorem fcI_eq {α : Type} (n : Int) (k : Int → α) : fcI n k = k n := by cases n <;> simp [fcI, fcN_eq]
def fcB {α : Type} (b : Bool) (k : Bool → α) : α := match b with
  | true => k true
  | false => k false
theorem fcB_eq {α : Type} (b : Bool) (k : Bool → α) : fcB b k = k b := by cases b <;> rfl
def fcT {α : Type} (t : Tr) (k : Tr → α) : α :=
  match t with
  | ⟨a0, a1, a2, a3, a4, a5, a6, a7, a8, a9, a10, a11, a12, a13, a14, a15⟩ =>
    fcI a0 fun a0 => fcB a1 fun a1 => fcB a2 fun a2 => fcI a3 fun a3 => fcI a4 fun a4 => fcI a5 fun a5 => fcI a6 fun a6 => fcI a7 fun a7 => fcI a8 fun a8 => fcI a9 fun a9 => fcI a10 fun a10 => fcI a11 fun a11 => fcI a12 fun a12 => fcI a13 fun a13 => fcI a14 fun a14 => fcI a15 fun a15 =>
      k ⟨a0, a1, a2, a3, a4, a5, a6, a7, a8, a9, a10, a11, a12, a13, a14, a15⟩
theorem fcT_eq {α : Type} (t : Tr) (k : Tr → α) : fcT t k = k t := by cases t; simp only [fcT, fcI_eq, fcB_eq]
def fcL {α : Type} : List Pt → (List Pt → α) → α
  | [], k => k []
  | ⟨x, y⟩ :: l, k => fcI x fun x => fcI y fun y => fcL l fun l => k (⟨x, y⟩ :: l)
theorem fcL_eq {α : Type} : ∀ (l : List Pt) (k : List Pt → α), fcL l k = k l
  | [], k => rfl
  | ⟨x, y⟩ :: l, k => by simp only [fcL, fcI_eq, fcL_eq l]
/-- Rounds from k on: no state is `bad`; whether one is `want`. -/
def watch (s g : Nat → Int) (bad want : Int) : Nat → Nat → Bool → Tr → List Pt → Bool
  | 0, _, b, _, _ => b
  | n + 1, k, b, t, l => fcN k fun k => fcT t fun t => fcL l fun l =>
    match addS t l (s k) (g k) with
    | (t', l') => fcT t' fun t' => bif t'.sta == bad then false else watch s g bad want n (k + 1) (b || (t'.sta == want)) t' l'
set_option maxRecDepth 100000
def upB (c : Int) : Bool := watch (fun k => 20 * k) (fun k => (20 + c) * k) 2 1 60 0 false newT []
def dnB (c : Int) : Bool := watch (fun k => 20 * k) (fun k => 2000 + (20 - c) * k) 1 2 60 0 false newT []
theorem up5 : upB 5 = true := by decide +kernel
theorem dn5 : dnB 5 = true := by decide +kernel
theorem up6 : upB 6 = true := by decide +kernel
theorem dn6 : dnB 6 = true := by decide +kernel
theorem up7 : upB 7 = true := by decide +kernel
theorem dn7 : dnB 7 = true := by decide +kernel
theorem up8 : upB 8 = true := by decide +kernel
theorem dn8 : dnB 8 = true := by decide +kernel
theorem up9 : upB 9 = true := by decide +kernel
theorem dn9 : dnB 9 = true := by decide +kernel
theorem up10 : upB 10 = true := by decide +kernel
theorem dn10 : dnB 10 = true := by decide +kernel
theorem up11 : upB 11 = true := by decide +kernel
theorem dn11 : dnB 11 = true := by decide +kernel
theorem up12 : upB 12 = true := by decide +kernel
theorem dn12 : dnB 12 = true := by decide +kernel
theorem up13 : upB 13 = true := by decide +kernel
theorem dn13 : dnB 13 = true := by decide +kernel
theorem up14 : upB 14 = true := by decide +kernel
theorem dn14 : dnB 14 = true := by decide +kernel
end Go.Proofs.Arr
