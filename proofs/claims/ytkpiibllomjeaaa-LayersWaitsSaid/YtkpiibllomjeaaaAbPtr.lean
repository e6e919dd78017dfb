/- The abstract layer, part 29: functions that look at one block, and change it. -/
import Derived.Test.YtkpiibllomjeaaaAbExecs
import Derived.Test.YtkpiibllomjeaaaAbLoops
namespace Go.Ab
set_option linter.unusedVariables false
theorem Ends.keep1 {n : Nat} {v v2 : AV} {h : Hp} {k k2 : Blk} (hv : v.bel 1 = true) (hb : hget h 0 = some k) (hk : belL 1 k.cells = true) (he : v = v2) (hkk : k = k2) : Ends 1 v h n v2 [(0, k2)] 1 := by
 subst he hkk
 refine Ends.keep hv (fun b x hx => ?_)
 simp only [List.mem_cons, Prod.mk.injEq, List.not_mem_nil, or_false] at hx
 obtain ⟨rfl, rfl⟩ := hx
 exact ⟨hb, hk, by omega⟩
end Go.Ab
