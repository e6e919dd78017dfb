/- The abstract layer, part 40: a law's arguments that are structures with slices in them. -/
import Derived.Test.YtlokbfkdgnopeaaGreatDoorAbGlob
namespace Go.Ab
open Go.ChangeShapes Go.WideShapes Go.RowKit
set_option linter.unusedVariables false
inductive TyD where
 | f (T : Ty)
 | sl (T : Ty)
 | st (l : List TyD)
mutual
def TyD.size : TyD → Nat
 | .f T => T.size
 | .sl _ => 1
 | .st l => dsizeL l
def dsizeL : List TyD → Nat
 | [] => 0
 | T :: r => T.size + dsizeL r
end
section
variable {H : Type} {enc : TypeId × Value → H} {P : Program} {W : World} {sp : Nat → Bool} {held : Bool}
def fzW (W : World) : Nat → Option (Array Value) := fun B => match W.heap[B]? with
 | some (.cells vs _ _) => some vs
 | _ => none
theorem fzW_spec {W : World} {B : Nat} {vs : Array Value} (h : fzW W B = some vs) : ∃ elem fr, W.heap[B]? = some (.cells vs elem fr) := by
 unfold fzW at h
 split at h
 · rename_i hb; cases h; exact ⟨_, _, hb⟩
 · cases h
end
end Go.Ab
