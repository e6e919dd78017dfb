/- What ResendKnown reaches. -/
import Derived.Test.YthnmkedknannhaaResH2
import Derived.Test.YthnmkedknannhaaResK
namespace Go.Proofs.Res
open Go.Ab
def oT : List AV → Option AV
  | [] => some (.b true)
  | _ => none
theorem f16 {a : List AV} {v : AV} (e : oT a = some v) : FTL Try.prog 16 a [] 0 v [] 0 := by
  unfold oT at e
  split at e
  · cases e; exact w16
  · cases e
theorem f26 {a : List AV} {v : AV} (e : oT a = some v) : FTL Try.prog 26 a [] 0 v [] 0 := by
  unfold oT at e
  split at e
  · cases e; exact w26
  · cases e
end Go.Proofs.Res
