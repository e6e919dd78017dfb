/- The abstract layer, part 54: contracts of the library's shelf, over plain values. -/
import Derived.Test.YtlokbfkdgnopeaaGreatDoorAbFast
import Derived.Below
namespace Go.Ab
open Go.RowKit
set_option linter.unusedVariables false
theorem Stp.below {D : Nat → Prop} {φ : Phi} {w w' : World} (hH : HR D φ (hget []) w) (hb : Below w.heap.size w w') : Stp D φ (hget []) w D φ (hget []) w' :=
 Stp.mk' hH rfl rfl (fun _ h => h) (Agree.refl D φ).at_ ⟨fun b k hh => by simp [hget] at hh, fun b1 b2 k1 k2 _ hh => by simp [hget] at hh⟩ ⟨hb.os, hb.tape, hb.output, hb.size, fun c hc _ => hb.block c hc⟩ fun b k hh => by simp [hget] at hh
theorem FTL.of_below {P : Program} {f : FuncId} {args : List AV} {v : AV} {n : Nat} (hc : ∀ D φ us, All2 D φ args us → ∃ u, VRel D φ v u ∧ ∀ w, Calls P f us.toArray w fun e w' => e = .returned u ∧ Below w.heap.size w w') (he : ext P f = false) (hy : f ≠ YB := by decide) : FTL P f args [] n v [] n := by
 intro D φ w us hD hH ha
 obtain ⟨u, hv, hcl⟩ := hc D φ us ha
 refine Ans.of ((hcl w).mono fun e w' hx => ?_) hy he
 obtain ⟨rfl, hb⟩ := hx
 exact ⟨D, φ, u, rfl, hD, hv, Stp.below hH hb⟩
end Go.Ab
