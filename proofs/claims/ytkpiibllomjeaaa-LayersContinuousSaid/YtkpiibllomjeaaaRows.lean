/-
  No cell of these rows narrows 'for every input' (looked for: loops, veiled, ifaces, maps, wideKeys, modest, calm, conditions, laid).
  DERIVED. THE GIVEN ROWS OF THIS SEAT. 5 by the template 'for every input the law returns true; each argument reads behind the call as it read before'; 0 by the template 'total and deterministic' (their statements: YtkpiibllomjeaaaTotals.lean).
  GIVEN WITH THE SEED: the statements are not yours to turn. If you find one false, say at which input.
  Laid BY PROGRAM, IN A SANDBOX (cutbox-rows.mjs): the forced cells as the released guide's own fill.sh prints them over the translation 189225275fe0cb39… (all of the seat's roots in one cut). By AI agents, Wed Nov 11 2026. No macro, syntax, notation, axiom, sorry.
-/
import Derived.Test.YtkpiibllomjeaaaChecked
import GoSem.Claim
import GoSem.ClaimJoined
import GoSem.ClaimMapViews
import Derived.JoinedTies
import Derived.KernelRfl
namespace Go.Proofs.Ytkpiibllomjeaaa
/- THE CELL 'sum', in the pinned program and in every row, IS THE sha256 OF THE DUMP (.gsa) THAT YtkpiibllomjeaaaProg.lean LOADS. Nothing in Lean hashes anything: it is a label: what it is worth is what the hold of that sum in a sandbox is worth. -/
noncomputable def Try.pinned : Pinned := { name := "ytkpiibllomjeaaa", sum := "189225275fe0cb39448cbe951384b472c2be8ddb3dd48208b0d7d6976713c57e", checked := Try.checked }
namespace Rows
def none {H : Type} : Left H := { results := [], args := [] }

/-- 'tannoylaw41.LayersChecks': WHATEVER THE INPUT: true; the input reads as it did. -/
def layersChecksSpec : ChangeSpec := { name := "layersChecks", fn := fun _ => fun
  | [d1, d2, d3, d4, d5, d6] => { results := [.lit (.bool true)], args := [d1, d2, d3, d4, d5, d6] }
  | _ => none }
def layersChecksRow : OpenClaim := { program := "ytkpiibllomjeaaa", sum := "189225275fe0cb39448cbe951384b472c2be8ddb3dd48208b0d7d6976713c57e", func := "tannoy/tannoylaw41.LayersChecks", spec := "layersChecks", unfollowed := true, recurses := true, apart := false }
def LayersChecksSaid : Prop := layersChecksRow.holds Try.pinned (OpenSpec.ofChange layersChecksSpec)

/-- ITS FALSE NEIGHBOUR: 'it returns false'. Refute it at one input. -/
def layersChecksWrong : ChangeSpec := { name := "layersChecks", fn := fun _ => fun
  | [d1, d2, d3, d4, d5, d6] => { results := [.lit (.bool false)], args := [d1, d2, d3, d4, d5, d6] }
  | _ => none }
def LayersChecksWrongFalsely : Prop := layersChecksRow.holds Try.pinned (OpenSpec.ofChange layersChecksWrong)

/-- 'tannoylaw41.LayersPushes': WHATEVER THE INPUT: true; the input reads as it did. -/
def layersPushesSpec : ChangeSpec := { name := "layersPushes", fn := fun _ => fun
  | [d1, d2, d3, d4, d5] => { results := [.lit (.bool true)], args := [d1, d2, d3, d4, d5] }
  | _ => none }
def layersPushesRow : OpenClaim := { program := "ytkpiibllomjeaaa", sum := "189225275fe0cb39448cbe951384b472c2be8ddb3dd48208b0d7d6976713c57e", func := "tannoy/tannoylaw41.LayersPushes", spec := "layersPushes", unfollowed := true, recurses := true, apart := false }
def LayersPushesSaid : Prop := layersPushesRow.holds Try.pinned (OpenSpec.ofChange layersPushesSpec)

/-- ITS FALSE NEIGHBOUR: 'it returns false'. Refute it at one input. -/
def layersPushesWrong : ChangeSpec := { name := "layersPushes", fn := fun _ => fun
  | [d1, d2, d3, d4, d5] => { results := [.lit (.bool false)], args := [d1, d2, d3, d4, d5] }
  | _ => none }
def LayersPushesWrongFalsely : Prop := layersPushesRow.holds Try.pinned (OpenSpec.ofChange layersPushesWrong)

/-- 'tannoylaw41.LayersWaits': WHATEVER THE INPUT: true; the input reads as it did. -/
def layersWaitsSpec : ChangeSpec := { name := "layersWaits", fn := fun _ => fun
  | [d1, d2, d3] => { results := [.lit (.bool true)], args := [d1, d2, d3] }
  | _ => none }
def layersWaitsRow : OpenClaim := { program := "ytkpiibllomjeaaa", sum := "189225275fe0cb39448cbe951384b472c2be8ddb3dd48208b0d7d6976713c57e", func := "tannoy/tannoylaw41.LayersWaits", spec := "layersWaits", unfollowed := true, recurses := true, apart := false }
def LayersWaitsSaid : Prop := layersWaitsRow.holds Try.pinned (OpenSpec.ofChange layersWaitsSpec)

/-- ITS FALSE NEIGHBOUR: 'it returns false'. Refute it at one input. -/
def layersWaitsWrong : ChangeSpec := { name := "layersWaits", fn := fun _ => fun
  | [d1, d2, d3] => { results := [.lit (.bool false)], args := [d1, d2, d3] }
  | _ => none }
def LayersWaitsWrongFalsely : Prop := layersWaitsRow.holds Try.pinned (OpenSpec.ofChange layersWaitsWrong)

/-- 'tannoylaw41.LayersKnown': WHATEVER THE INPUT: true; the input reads as it did. -/
def layersKnownSpec : ChangeSpec := { name := "layersKnown", fn := fun _ => fun
  | [] => { results := [.lit (.bool true)], args := [] }
  | _ => none }
def layersKnownRow : OpenClaim := { program := "ytkpiibllomjeaaa", sum := "189225275fe0cb39448cbe951384b472c2be8ddb3dd48208b0d7d6976713c57e", func := "tannoy/tannoylaw41.LayersKnown", spec := "layersKnown", unfollowed := true, recurses := true, apart := false }
def LayersKnownSaid : Prop := layersKnownRow.holds Try.pinned (OpenSpec.ofChange layersKnownSpec)

/-- ITS FALSE NEIGHBOUR: 'it returns false'. Refute it at one input. -/
def layersKnownWrong : ChangeSpec := { name := "layersKnown", fn := fun _ => fun
  | [] => { results := [.lit (.bool false)], args := [] }
  | _ => none }
def LayersKnownWrongFalsely : Prop := layersKnownRow.holds Try.pinned (OpenSpec.ofChange layersKnownWrong)

/-- 'tannoylaw41.LayersContinuous': WHATEVER THE INPUT: true; the input reads as it did. -/
def layersContinuousSpec : ChangeSpec := { name := "layersContinuous", fn := fun _ => fun
  | [d1, d2] => { results := [.lit (.bool true)], args := [d1, d2] }
  | _ => none }
def layersContinuousRow : OpenClaim := { program := "ytkpiibllomjeaaa", sum := "189225275fe0cb39448cbe951384b472c2be8ddb3dd48208b0d7d6976713c57e", func := "tannoy/tannoylaw41.LayersContinuous", spec := "layersContinuous", unfollowed := true, recurses := true, apart := false }
def LayersContinuousSaid : Prop := layersContinuousRow.holds Try.pinned (OpenSpec.ofChange layersContinuousSpec)

/-- ITS FALSE NEIGHBOUR: 'it returns false'. Refute it at one input. -/
def layersContinuousWrong : ChangeSpec := { name := "layersContinuous", fn := fun _ => fun
  | [d1, d2] => { results := [.lit (.bool false)], args := [d1, d2] }
  | _ => none }
def LayersContinuousWrongFalsely : Prop := layersContinuousRow.holds Try.pinned (OpenSpec.ofChange layersContinuousWrong)

/- THE SECOND FORM. 'bulk': how many values and letters a reading holds, each counted each time it is reached (what is shared counts as often as it is met; a slice's spare places count too). A statement '..UptoSaid' is the law's where the arguments, and the package variables that the reading takes, are together of bulk at most 1048576: NARROWER than '..Said'. Prove '..Said' where nothing that the law and all that it calls make is longer than what came in: it says more and counts as full. Else prove '..UptoSaid'. A law counts once. -/
mutual
def uptoBulk {H : Type} : DataW H → Nat
  | .lit (.string bytes) => bytes.length + 1
  | .lit _ => 1
  | .nil => 1
  | .ptr d => uptoBulk d + 1
  | .slice elems spare => uptoBulkAll elems + uptoBulkAll spare + 1
  | .agg parts => uptoBulkAll parts + 1
  | .iface _ d => uptoBulk d + 1
  | .map entries => uptoBulkEntries entries + 1
  | .held _ => 1
def uptoBulkAll {H : Type} : List (DataW H) → Nat
  | [] => 0
  | d :: r => uptoBulk d + uptoBulkAll r
def uptoBulkEntries {H : Type} : List (Lit × DataW H) → Nat
  | [] => 0
  | x :: r => uptoBulkEntry x + uptoBulkEntries r
def uptoBulkEntry {H : Type} : Lit × DataW H → Nat
  | (.string bytes, d) => bytes.length + uptoBulk d + 1
  | (_, d) => uptoBulk d + 1
 end
def uptoSmall : (H : Type) → List (DataW H) → Bool := fun _ ds => decide (uptoBulkAll ds ≤ 1048576)
def OpenSpec.upto (s : _root_.Go.ChangeSpec) : _root_.Go.OpenSpec := { _root_.Go.OpenSpec.ofChange s with cond := some uptoSmall }

/-- 'tannoylaw41.LayersChecks', WHERE WHAT IT READS IS OF BULK AT MOST 1048576: true; the input reads as it did. -/
def layersChecksUptoRow : OpenClaim := { program := "ytkpiibllomjeaaa", sum := "189225275fe0cb39448cbe951384b472c2be8ddb3dd48208b0d7d6976713c57e", func := "tannoy/tannoylaw41.LayersChecks", spec := "layersChecks", unfollowed := true, recurses := true, apart := false, narrowed := true }
def LayersChecksUptoSaid : Prop := layersChecksUptoRow.holds Try.pinned (OpenSpec.upto layersChecksSpec)

/-- 'tannoylaw41.LayersPushes', WHERE WHAT IT READS IS OF BULK AT MOST 1048576: true; the input reads as it did. -/
def layersPushesUptoRow : OpenClaim := { program := "ytkpiibllomjeaaa", sum := "189225275fe0cb39448cbe951384b472c2be8ddb3dd48208b0d7d6976713c57e", func := "tannoy/tannoylaw41.LayersPushes", spec := "layersPushes", unfollowed := true, recurses := true, apart := false, narrowed := true }
def LayersPushesUptoSaid : Prop := layersPushesUptoRow.holds Try.pinned (OpenSpec.upto layersPushesSpec)

/-- 'tannoylaw41.LayersWaits', WHERE WHAT IT READS IS OF BULK AT MOST 1048576: true; the input reads as it did. -/
def layersWaitsUptoRow : OpenClaim := { program := "ytkpiibllomjeaaa", sum := "189225275fe0cb39448cbe951384b472c2be8ddb3dd48208b0d7d6976713c57e", func := "tannoy/tannoylaw41.LayersWaits", spec := "layersWaits", unfollowed := true, recurses := true, apart := false, narrowed := true }
def LayersWaitsUptoSaid : Prop := layersWaitsUptoRow.holds Try.pinned (OpenSpec.upto layersWaitsSpec)

/-- 'tannoylaw41.LayersKnown', WHERE WHAT IT READS IS OF BULK AT MOST 1048576: true; the input reads as it did. -/
def layersKnownUptoRow : OpenClaim := { program := "ytkpiibllomjeaaa", sum := "189225275fe0cb39448cbe951384b472c2be8ddb3dd48208b0d7d6976713c57e", func := "tannoy/tannoylaw41.LayersKnown", spec := "layersKnown", unfollowed := true, recurses := true, apart := false, narrowed := true }
def LayersKnownUptoSaid : Prop := layersKnownUptoRow.holds Try.pinned (OpenSpec.upto layersKnownSpec)

/-- 'tannoylaw41.LayersContinuous', WHERE WHAT IT READS IS OF BULK AT MOST 1048576: true; the input reads as it did. -/
def layersContinuousUptoRow : OpenClaim := { program := "ytkpiibllomjeaaa", sum := "189225275fe0cb39448cbe951384b472c2be8ddb3dd48208b0d7d6976713c57e", func := "tannoy/tannoylaw41.LayersContinuous", spec := "layersContinuous", unfollowed := true, recurses := true, apart := false, narrowed := true }
def LayersContinuousUptoSaid : Prop := layersContinuousUptoRow.holds Try.pinned (OpenSpec.upto layersContinuousSpec)

end Rows
end Go.Proofs.Ytkpiibllomjeaaa
