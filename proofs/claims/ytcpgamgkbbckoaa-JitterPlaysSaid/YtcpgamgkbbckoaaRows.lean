/-
  No cell of these rows narrows 'for every input' (looked for: loops, veiled, ifaces, maps, wideKeys, modest, calm, conditions, laid).
  DERIVED. THE GIVEN ROWS OF THIS SEAT. 6 by the template 'for every input the law returns true; each argument reads behind the call as it read before'; 0 by the template 'total and deterministic' (their statements: YtcpgamgkbbckoaaTotals.lean).
  GIVEN WITH THE SEED: the statements are not yours to turn. If you find one false, say at which input.
  Laid BY PROGRAM, IN A SANDBOX (cutbox-rows.mjs): the forced cells as the released guide's own fill.sh prints them over the translation 3f692f9117ff3eae… (all of the seat's roots in one cut). By AI agents, Wed Nov 11 2026. No macro, syntax, notation, axiom, sorry.
-/
import Derived.Test.YtcpgamgkbbckoaaChecked
import GoSem.Claim
import GoSem.ClaimJoined
import GoSem.ClaimMapViews
import Derived.JoinedTies
import Derived.KernelRfl
namespace Go.Proofs.Ytcpgamgkbbckoaa
/- THE CELL 'sum', in the pinned program and in every row, IS THE sha256 OF THE DUMP (.gsa) THAT YtcpgamgkbbckoaaProg.lean LOADS. Nothing in Lean hashes anything: it is a label: what it is worth is what the hold of that sum in a sandbox is worth. -/
noncomputable def Try.pinned : Pinned := { name := "ytcpgamgkbbckoaa", sum := "3f692f9117ff3eaebda797722d8da379e02f6cfb045c6097b18e0f396752f093", checked := Try.checked }
namespace Rows
def none {H : Type} : Left H := { results := [], args := [] }

/-- 'tannoylaw26.JitterPuts': WHATEVER THE INPUT: true; the input reads as it did. -/
def jitterPutsSpec : ChangeSpec := { name := "jitterPuts", fn := fun _ => fun
  | [d1, d2, d3, d4, d5, d6] => { results := [.lit (.bool true)], args := [d1, d2, d3, d4, d5, d6] }
  | _ => none }
def jitterPutsRow : OpenClaim := { program := "ytcpgamgkbbckoaa", sum := "3f692f9117ff3eaebda797722d8da379e02f6cfb045c6097b18e0f396752f093", func := "tannoy/tannoylaw26.JitterPuts", spec := "jitterPuts", inPlace := ["slices.overlaps[tannoy/api.Held]"], unfollowed := true, recurses := true, apart := false }
def JitterPutsSaid : Prop := jitterPutsRow.holds Try.pinned (OpenSpec.ofChange jitterPutsSpec)

/-- ITS FALSE NEIGHBOUR: 'it returns false'. Refute it at one input. -/
def jitterPutsWrong : ChangeSpec := { name := "jitterPuts", fn := fun _ => fun
  | [d1, d2, d3, d4, d5, d6] => { results := [.lit (.bool false)], args := [d1, d2, d3, d4, d5, d6] }
  | _ => none }
def JitterPutsWrongFalsely : Prop := jitterPutsRow.holds Try.pinned (OpenSpec.ofChange jitterPutsWrong)

/-- 'tannoylaw26.JitterTakes': WHATEVER THE INPUT: true; the input reads as it did. -/
def jitterTakesSpec : ChangeSpec := { name := "jitterTakes", fn := fun _ => fun
  | [d1, d2, d3, d4, d5] => { results := [.lit (.bool true)], args := [d1, d2, d3, d4, d5] }
  | _ => none }
def jitterTakesRow : OpenClaim := { program := "ytcpgamgkbbckoaa", sum := "3f692f9117ff3eaebda797722d8da379e02f6cfb045c6097b18e0f396752f093", func := "tannoy/tannoylaw26.JitterTakes", spec := "jitterTakes", inPlace := ["slices.overlaps[tannoy/api.Held]"], unfollowed := true, recurses := true, apart := false }
def JitterTakesSaid : Prop := jitterTakesRow.holds Try.pinned (OpenSpec.ofChange jitterTakesSpec)

/-- ITS FALSE NEIGHBOUR: 'it returns false'. Refute it at one input. -/
def jitterTakesWrong : ChangeSpec := { name := "jitterTakes", fn := fun _ => fun
  | [d1, d2, d3, d4, d5] => { results := [.lit (.bool false)], args := [d1, d2, d3, d4, d5] }
  | _ => none }
def JitterTakesWrongFalsely : Prop := jitterTakesRow.holds Try.pinned (OpenSpec.ofChange jitterTakesWrong)

/-- 'tannoylaw26.JitterPlays': WHATEVER THE INPUT: true; the input reads as it did. -/
def jitterPlaysSpec : ChangeSpec := { name := "jitterPlays", fn := fun _ => fun
  | [d1, d2] => { results := [.lit (.bool true)], args := [d1, d2] }
  | _ => none }
def jitterPlaysRow : OpenClaim := { program := "ytcpgamgkbbckoaa", sum := "3f692f9117ff3eaebda797722d8da379e02f6cfb045c6097b18e0f396752f093", func := "tannoy/tannoylaw26.JitterPlays", spec := "jitterPlays", inPlace := ["slices.overlaps[tannoy/api.Held]"], unfollowed := true, recurses := true, apart := false }
def JitterPlaysSaid : Prop := jitterPlaysRow.holds Try.pinned (OpenSpec.ofChange jitterPlaysSpec)

/-- ITS FALSE NEIGHBOUR: 'it returns false'. Refute it at one input. -/
def jitterPlaysWrong : ChangeSpec := { name := "jitterPlays", fn := fun _ => fun
  | [d1, d2] => { results := [.lit (.bool false)], args := [d1, d2] }
  | _ => none }
def JitterPlaysWrongFalsely : Prop := jitterPlaysRow.holds Try.pinned (OpenSpec.ofChange jitterPlaysWrong)

/-- 'tannoylaw26.JitterCounts': WHATEVER THE INPUT: true; the input reads as it did. -/
def jitterCountsSpec : ChangeSpec := { name := "jitterCounts", fn := fun _ => fun
  | [d] => { results := [.lit (.bool true)], args := [d] }
  | _ => none }
def jitterCountsRow : OpenClaim := { program := "ytcpgamgkbbckoaa", sum := "3f692f9117ff3eaebda797722d8da379e02f6cfb045c6097b18e0f396752f093", func := "tannoy/tannoylaw26.JitterCounts", spec := "jitterCounts", inPlace := ["slices.overlaps[tannoy/api.Held]"], unfollowed := true, recurses := true, apart := false }
def JitterCountsSaid : Prop := jitterCountsRow.holds Try.pinned (OpenSpec.ofChange jitterCountsSpec)

/-- ITS FALSE NEIGHBOUR: 'it returns false'. Refute it at one input. -/
def jitterCountsWrong : ChangeSpec := { name := "jitterCounts", fn := fun _ => fun
  | [d] => { results := [.lit (.bool false)], args := [d] }
  | _ => none }
def JitterCountsWrongFalsely : Prop := jitterCountsRow.holds Try.pinned (OpenSpec.ofChange jitterCountsWrong)

/-- 'tannoylaw26.JitterEven': WHATEVER THE INPUT: true; the input reads as it did. -/
def jitterEvenSpec : ChangeSpec := { name := "jitterEven", fn := fun _ => fun
  | [d1, d2] => { results := [.lit (.bool true)], args := [d1, d2] }
  | _ => none }
def jitterEvenRow : OpenClaim := { program := "ytcpgamgkbbckoaa", sum := "3f692f9117ff3eaebda797722d8da379e02f6cfb045c6097b18e0f396752f093", func := "tannoy/tannoylaw26.JitterEven", spec := "jitterEven", inPlace := ["slices.overlaps[tannoy/api.Held]"], unfollowed := true, recurses := true, apart := false }
def JitterEvenSaid : Prop := jitterEvenRow.holds Try.pinned (OpenSpec.ofChange jitterEvenSpec)

/-- ITS FALSE NEIGHBOUR: 'it returns false'. Refute it at one input. -/
def jitterEvenWrong : ChangeSpec := { name := "jitterEven", fn := fun _ => fun
  | [d1, d2] => { results := [.lit (.bool false)], args := [d1, d2] }
  | _ => none }
def JitterEvenWrongFalsely : Prop := jitterEvenRow.holds Try.pinned (OpenSpec.ofChange jitterEvenWrong)

/-- 'tannoylaw26.JitterKnown': WHATEVER THE INPUT: true; the input reads as it did. -/
def jitterKnownSpec : ChangeSpec := { name := "jitterKnown", fn := fun _ => fun
  | [] => { results := [.lit (.bool true)], args := [] }
  | _ => none }
def jitterKnownRow : OpenClaim := { program := "ytcpgamgkbbckoaa", sum := "3f692f9117ff3eaebda797722d8da379e02f6cfb045c6097b18e0f396752f093", func := "tannoy/tannoylaw26.JitterKnown", spec := "jitterKnown", inPlace := ["slices.overlaps[tannoy/api.Held]"], unfollowed := true, recurses := true, apart := false }
def JitterKnownSaid : Prop := jitterKnownRow.holds Try.pinned (OpenSpec.ofChange jitterKnownSpec)

/-- ITS FALSE NEIGHBOUR: 'it returns false'. Refute it at one input. -/
def jitterKnownWrong : ChangeSpec := { name := "jitterKnown", fn := fun _ => fun
  | [] => { results := [.lit (.bool false)], args := [] }
  | _ => none }
def JitterKnownWrongFalsely : Prop := jitterKnownRow.holds Try.pinned (OpenSpec.ofChange jitterKnownWrong)

/- THE SECOND FORM. 'bulk': how many values and letters a reading holds, each counted each time it is reached (what is shared counts as often as it is met; a slice's spare places count too). A statement '..UptoSaid' is the law's where the arguments, and the package variables that the reading takes, are together of bulk at most 1048576: NARROWER than '..Said'. Prove '..Said' where nothing that the law and all that it calls make is longer than what came in: it says more and counts as full. Else prove '..UptoSaid'. A law counts once. -/
mutual
def uptoBulk {H : Type} : DataW H → Nat
  | .lit (.string bytes) => bytes.length + 1
  | .lit _ => 1
  | .nil => 1
  | .ptr d => uptoBulk d + 1
  | .slice elems spare => uptoBulkAll elems + uptoBulkAll spare + 1
  | .agg parts => uptoBulkAll parts + 1
  | .iface _ d => uptoBulk d + 1
  | .map entries => uptoBulkEntries entries + 1
  | .held _ => 1
def uptoBulkAll {H : Type} : List (DataW H) → Nat
  | [] => 0
  | d :: r => uptoBulk d + uptoBulkAll r
def uptoBulkEntries {H : Type} : List (Lit × DataW H) → Nat
  | [] => 0
  | x :: r => uptoBulkEntry x + uptoBulkEntries r
def uptoBulkEntry {H : Type} : Lit × DataW H → Nat
  | (.string bytes, d) => bytes.length + uptoBulk d + 1
  | (_, d) => uptoBulk d + 1
 end
def uptoSmall : (H : Type) → List (DataW H) → Bool := fun _ ds => decide (uptoBulkAll ds ≤ 1048576)
def OpenSpec.upto (s : _root_.Go.ChangeSpec) : _root_.Go.OpenSpec := { _root_.Go.OpenSpec.ofChange s with cond := some uptoSmall }

/-- 'tannoylaw26.JitterPuts', WHERE WHAT IT READS IS OF BULK AT MOST 1048576: true; the input reads as it did. -/
def jitterPutsUptoRow : OpenClaim := { program := "ytcpgamgkbbckoaa", sum := "3f692f9117ff3eaebda797722d8da379e02f6cfb045c6097b18e0f396752f093", func := "tannoy/tannoylaw26.JitterPuts", spec := "jitterPuts", inPlace := ["slices.overlaps[tannoy/api.Held]"], unfollowed := true, recurses := true, apart := false, narrowed := true }
def JitterPutsUptoSaid : Prop := jitterPutsUptoRow.holds Try.pinned (OpenSpec.upto jitterPutsSpec)

/-- 'tannoylaw26.JitterTakes', WHERE WHAT IT READS IS OF BULK AT MOST 1048576: true; the input reads as it did. -/
def jitterTakesUptoRow : OpenClaim := { program := "ytcpgamgkbbckoaa", sum := "3f692f9117ff3eaebda797722d8da379e02f6cfb045c6097b18e0f396752f093", func := "tannoy/tannoylaw26.JitterTakes", spec := "jitterTakes", inPlace := ["slices.overlaps[tannoy/api.Held]"], unfollowed := true, recurses := true, apart := false, narrowed := true }
def JitterTakesUptoSaid : Prop := jitterTakesUptoRow.holds Try.pinned (OpenSpec.upto jitterTakesSpec)

/-- 'tannoylaw26.JitterPlays', WHERE WHAT IT READS IS OF BULK AT MOST 1048576: true; the input reads as it did. -/
def jitterPlaysUptoRow : OpenClaim := { program := "ytcpgamgkbbckoaa", sum := "3f692f9117ff3eaebda797722d8da379e02f6cfb045c6097b18e0f396752f093", func := "tannoy/tannoylaw26.JitterPlays", spec := "jitterPlays", inPlace := ["slices.overlaps[tannoy/api.Held]"], unfollowed := true, recurses := true, apart := false, narrowed := true }
def JitterPlaysUptoSaid : Prop := jitterPlaysUptoRow.holds Try.pinned (OpenSpec.upto jitterPlaysSpec)

/-- 'tannoylaw26.JitterCounts', WHERE WHAT IT READS IS OF BULK AT MOST 1048576: true; the input reads as it did. -/
def jitterCountsUptoRow : OpenClaim := { program := "ytcpgamgkbbckoaa", sum := "3f692f9117ff3eaebda797722d8da379e02f6cfb045c6097b18e0f396752f093", func := "tannoy/tannoylaw26.JitterCounts", spec := "jitterCounts", inPlace := ["slices.overlaps[tannoy/api.Held]"], unfollowed := true, recurses := true, apart := false, narrowed := true }
def JitterCountsUptoSaid : Prop := jitterCountsUptoRow.holds Try.pinned (OpenSpec.upto jitterCountsSpec)

/-- 'tannoylaw26.JitterEven', WHERE WHAT IT READS IS OF BULK AT MOST 1048576: true; the input reads as it did. -/
def jitterEvenUptoRow : OpenClaim := { program := "ytcpgamgkbbckoaa", sum := "3f692f9117ff3eaebda797722d8da379e02f6cfb045c6097b18e0f396752f093", func := "tannoy/tannoylaw26.JitterEven", spec := "jitterEven", inPlace := ["slices.overlaps[tannoy/api.Held]"], unfollowed := true, recurses := true, apart := false, narrowed := true }
def JitterEvenUptoSaid : Prop := jitterEvenUptoRow.holds Try.pinned (OpenSpec.upto jitterEvenSpec)

/-- 'tannoylaw26.JitterKnown', WHERE WHAT IT READS IS OF BULK AT MOST 1048576: true; the input reads as it did. -/
def jitterKnownUptoRow : OpenClaim := { program := "ytcpgamgkbbckoaa", sum := "3f692f9117ff3eaebda797722d8da379e02f6cfb045c6097b18e0f396752f093", func := "tannoy/tannoylaw26.JitterKnown", spec := "jitterKnown", inPlace := ["slices.overlaps[tannoy/api.Held]"], unfollowed := true, recurses := true, apart := false, narrowed := true }
def JitterKnownUptoSaid : Prop := jitterKnownUptoRow.holds Try.pinned (OpenSpec.upto jitterKnownSpec)

end Rows
end Go.Proofs.Ytcpgamgkbbckoaa
