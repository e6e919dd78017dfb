/-
  No cell of these rows narrows 'for every input' (looked for: loops, veiled, ifaces, maps, wideKeys, modest, calm, conditions, laid).
  DERIVED. THE GIVEN ROWS OF THIS SEAT. 9 by the template 'for every input the law returns true; each argument reads behind the call as it read before'; 0 by the template 'total and deterministic' (their statements: YtndbgcmgjnjnhaaTotals.lean).
  GIVEN WITH THE SEED: the statements are not yours to turn. If you find one false, say at which input.
  Laid BY PROGRAM, IN A SANDBOX (cutbox-rows.mjs): the forced cells as the released guide's own fill.sh prints them over the translation c4611374523bacd6… (all of the seat's roots in one cut). By AI agents, Wed Nov 11 2026. No macro, syntax, notation, axiom, sorry.
-/
import Derived.Test.YtndbgcmgjnjnhaaChecked
import GoSem.Claim
import GoSem.ClaimJoined
import GoSem.ClaimMapViews
import Derived.JoinedTies
import Derived.KernelRfl
namespace Go.Proofs.Ytndbgcmgjnjnhaa
/- THE CELL 'sum', in the pinned program and in every row, IS THE sha256 OF THE DUMP (.gsa) THAT YtndbgcmgjnjnhaaProg.lean LOADS. Nothing in Lean hashes anything: it is a label: what it is worth is what the hold of that sum in a sandbox is worth. -/
noncomputable def Try.pinned : Pinned := { name := "ytndbgcmgjnjnhaa", sum := "c4611374523bacd617c215fb2ed02aa3925dc34b44558571915690cc8b985b02", checked := Try.checked }
namespace Rows
def none {H : Type} : Left H := { results := [], args := [] }

/-- 'tannoylaw40.PictureShapes': WHATEVER THE INPUT: true; the input reads as it did. -/
def pictureShapesSpec : ChangeSpec := { name := "pictureShapes", fn := fun _ => fun
  | [d1, d2, d3] => { results := [.lit (.bool true)], args := [d1, d2, d3] }
  | _ => none }
def pictureShapesRow : OpenClaim := { program := "ytndbgcmgjnjnhaa", sum := "c4611374523bacd617c215fb2ed02aa3925dc34b44558571915690cc8b985b02", func := "tannoy/tannoylaw40.PictureShapes", spec := "pictureShapes", unfollowed := true, recurses := true, apart := false }
def PictureShapesSaid : Prop := pictureShapesRow.holds Try.pinned (OpenSpec.ofChange pictureShapesSpec)

/-- ITS FALSE NEIGHBOUR: 'it returns false'. Refute it at one input. -/
def pictureShapesWrong : ChangeSpec := { name := "pictureShapes", fn := fun _ => fun
  | [d1, d2, d3] => { results := [.lit (.bool false)], args := [d1, d2, d3] }
  | _ => none }
def PictureShapesWrongFalsely : Prop := pictureShapesRow.holds Try.pinned (OpenSpec.ofChange pictureShapesWrong)

/-- 'tannoylaw40.PictureReads': WHATEVER THE INPUT: true; the input reads as it did. -/
def pictureReadsSpec : ChangeSpec := { name := "pictureReads", fn := fun _ => fun
  | [d1, d2, d3, d4, d5, d6] => { results := [.lit (.bool true)], args := [d1, d2, d3, d4, d5, d6] }
  | _ => none }
def pictureReadsRow : OpenClaim := { program := "ytndbgcmgjnjnhaa", sum := "c4611374523bacd617c215fb2ed02aa3925dc34b44558571915690cc8b985b02", func := "tannoy/tannoylaw40.PictureReads", spec := "pictureReads", unfollowed := true, recurses := true, apart := false }
def PictureReadsSaid : Prop := pictureReadsRow.holds Try.pinned (OpenSpec.ofChange pictureReadsSpec)

/-- ITS FALSE NEIGHBOUR: 'it returns false'. Refute it at one input. -/
def pictureReadsWrong : ChangeSpec := { name := "pictureReads", fn := fun _ => fun
  | [d1, d2, d3, d4, d5, d6] => { results := [.lit (.bool false)], args := [d1, d2, d3, d4, d5, d6] }
  | _ => none }
def PictureReadsWrongFalsely : Prop := pictureReadsRow.holds Try.pinned (OpenSpec.ofChange pictureReadsWrong)

/-- 'tannoylaw40.PictureShows': WHATEVER THE INPUT: true; the input reads as it did. -/
def pictureShowsSpec : ChangeSpec := { name := "pictureShows", fn := fun _ => fun
  | [d1, d2, d3, d4] => { results := [.lit (.bool true)], args := [d1, d2, d3, d4] }
  | _ => none }
def pictureShowsRow : OpenClaim := { program := "ytndbgcmgjnjnhaa", sum := "c4611374523bacd617c215fb2ed02aa3925dc34b44558571915690cc8b985b02", func := "tannoy/tannoylaw40.PictureShows", spec := "pictureShows", unfollowed := true, recurses := true, apart := false }
def PictureShowsSaid : Prop := pictureShowsRow.holds Try.pinned (OpenSpec.ofChange pictureShowsSpec)

/-- ITS FALSE NEIGHBOUR: 'it returns false'. Refute it at one input. -/
def pictureShowsWrong : ChangeSpec := { name := "pictureShows", fn := fun _ => fun
  | [d1, d2, d3, d4] => { results := [.lit (.bool false)], args := [d1, d2, d3, d4] }
  | _ => none }
def PictureShowsWrongFalsely : Prop := pictureShowsRow.holds Try.pinned (OpenSpec.ofChange pictureShowsWrong)

/-- 'tannoylaw40.PictureStream': WHATEVER THE INPUT: true; the input reads as it did. -/
def pictureStreamSpec : ChangeSpec := { name := "pictureStream", fn := fun _ => fun
  | [d1, d2, d3] => { results := [.lit (.bool true)], args := [d1, d2, d3] }
  | _ => none }
def pictureStreamRow : OpenClaim := { program := "ytndbgcmgjnjnhaa", sum := "c4611374523bacd617c215fb2ed02aa3925dc34b44558571915690cc8b985b02", func := "tannoy/tannoylaw40.PictureStream", spec := "pictureStream", unfollowed := true, recurses := true, apart := false }
def PictureStreamSaid : Prop := pictureStreamRow.holds Try.pinned (OpenSpec.ofChange pictureStreamSpec)

/-- ITS FALSE NEIGHBOUR: 'it returns false'. Refute it at one input. -/
def pictureStreamWrong : ChangeSpec := { name := "pictureStream", fn := fun _ => fun
  | [d1, d2, d3] => { results := [.lit (.bool false)], args := [d1, d2, d3] }
  | _ => none }
def PictureStreamWrongFalsely : Prop := pictureStreamRow.holds Try.pinned (OpenSpec.ofChange pictureStreamWrong)

/-- 'tannoylaw40.PictureBack': WHATEVER THE INPUT: true; the input reads as it did. -/
def pictureBackSpec : ChangeSpec := { name := "pictureBack", fn := fun _ => fun
  | [d1, d2, d3, d4, d5] => { results := [.lit (.bool true)], args := [d1, d2, d3, d4, d5] }
  | _ => none }
def pictureBackRow : OpenClaim := { program := "ytndbgcmgjnjnhaa", sum := "c4611374523bacd617c215fb2ed02aa3925dc34b44558571915690cc8b985b02", func := "tannoy/tannoylaw40.PictureBack", spec := "pictureBack", unfollowed := true, recurses := true, apart := false }
def PictureBackSaid : Prop := pictureBackRow.holds Try.pinned (OpenSpec.ofChange pictureBackSpec)

/-- ITS FALSE NEIGHBOUR: 'it returns false'. Refute it at one input. -/
def pictureBackWrong : ChangeSpec := { name := "pictureBack", fn := fun _ => fun
  | [d1, d2, d3, d4, d5] => { results := [.lit (.bool false)], args := [d1, d2, d3, d4, d5] }
  | _ => none }
def PictureBackWrongFalsely : Prop := pictureBackRow.holds Try.pinned (OpenSpec.ofChange pictureBackWrong)

/-- 'tannoylaw40.PictureOnce': WHATEVER THE INPUT: true; the input reads as it did. -/
def pictureOnceSpec : ChangeSpec := { name := "pictureOnce", fn := fun _ => fun
  | [d] => { results := [.lit (.bool true)], args := [d] }
  | _ => none }
def pictureOnceRow : OpenClaim := { program := "ytndbgcmgjnjnhaa", sum := "c4611374523bacd617c215fb2ed02aa3925dc34b44558571915690cc8b985b02", func := "tannoy/tannoylaw40.PictureOnce", spec := "pictureOnce", unfollowed := true, recurses := true, apart := false }
def PictureOnceSaid : Prop := pictureOnceRow.holds Try.pinned (OpenSpec.ofChange pictureOnceSpec)

/-- ITS FALSE NEIGHBOUR: 'it returns false'. Refute it at one input. -/
def pictureOnceWrong : ChangeSpec := { name := "pictureOnce", fn := fun _ => fun
  | [d] => { results := [.lit (.bool false)], args := [d] }
  | _ => none }
def PictureOnceWrongFalsely : Prop := pictureOnceRow.holds Try.pinned (OpenSpec.ofChange pictureOnceWrong)

/-- 'tannoylaw40.PictureWhole': WHATEVER THE INPUT: true; the input reads as it did. -/
def pictureWholeSpec : ChangeSpec := { name := "pictureWhole", fn := fun _ => fun
  | [d1, d2, d3, d4] => { results := [.lit (.bool true)], args := [d1, d2, d3, d4] }
  | _ => none }
def pictureWholeRow : OpenClaim := { program := "ytndbgcmgjnjnhaa", sum := "c4611374523bacd617c215fb2ed02aa3925dc34b44558571915690cc8b985b02", func := "tannoy/tannoylaw40.PictureWhole", spec := "pictureWhole", unfollowed := true, recurses := true, apart := false }
def PictureWholeSaid : Prop := pictureWholeRow.holds Try.pinned (OpenSpec.ofChange pictureWholeSpec)

/-- ITS FALSE NEIGHBOUR: 'it returns false'. Refute it at one input. -/
def pictureWholeWrong : ChangeSpec := { name := "pictureWhole", fn := fun _ => fun
  | [d1, d2, d3, d4] => { results := [.lit (.bool false)], args := [d1, d2, d3, d4] }
  | _ => none }
def PictureWholeWrongFalsely : Prop := pictureWholeRow.holds Try.pinned (OpenSpec.ofChange pictureWholeWrong)

/-- 'tannoylaw40.PictureKnown': WHATEVER THE INPUT: true; the input reads as it did. -/
def pictureKnownSpec : ChangeSpec := { name := "pictureKnown", fn := fun _ => fun
  | [] => { results := [.lit (.bool true)], args := [] }
  | _ => none }
def pictureKnownRow : OpenClaim := { program := "ytndbgcmgjnjnhaa", sum := "c4611374523bacd617c215fb2ed02aa3925dc34b44558571915690cc8b985b02", func := "tannoy/tannoylaw40.PictureKnown", spec := "pictureKnown", inPlace := ["internal/abi.NoEscape", "internal/bytealg.MakeNoZero"], unfollowed := true, recurses := true, apart := false }
def PictureKnownSaid : Prop := pictureKnownRow.holds Try.pinned (OpenSpec.ofChange pictureKnownSpec)

/-- ITS FALSE NEIGHBOUR: 'it returns false'. Refute it at one input. -/
def pictureKnownWrong : ChangeSpec := { name := "pictureKnown", fn := fun _ => fun
  | [] => { results := [.lit (.bool false)], args := [] }
  | _ => none }
def PictureKnownWrongFalsely : Prop := pictureKnownRow.holds Try.pinned (OpenSpec.ofChange pictureKnownWrong)

/-- 'tannoylaw40.PictureJoins': WHATEVER THE INPUT: true; the input reads as it did. -/
def pictureJoinsSpec : ChangeSpec := { name := "pictureJoins", fn := fun _ => fun
  | [d1, d2, d3, d4, d5, d6] => { results := [.lit (.bool true)], args := [d1, d2, d3, d4, d5, d6] }
  | _ => none }
def pictureJoinsRow : OpenClaim := { program := "ytndbgcmgjnjnhaa", sum := "c4611374523bacd617c215fb2ed02aa3925dc34b44558571915690cc8b985b02", func := "tannoy/tannoylaw40.PictureJoins", spec := "pictureJoins", inPlace := ["slices.overlaps[tannoy/api.Media]"], unfollowed := true, recurses := true, apart := false }
def PictureJoinsSaid : Prop := pictureJoinsRow.holds Try.pinned (OpenSpec.ofChange pictureJoinsSpec)

/-- ITS FALSE NEIGHBOUR: 'it returns false'. Refute it at one input. -/
def pictureJoinsWrong : ChangeSpec := { name := "pictureJoins", fn := fun _ => fun
  | [d1, d2, d3, d4, d5, d6] => { results := [.lit (.bool false)], args := [d1, d2, d3, d4, d5, d6] }
  | _ => none }
def PictureJoinsWrongFalsely : Prop := pictureJoinsRow.holds Try.pinned (OpenSpec.ofChange pictureJoinsWrong)

/- THE SECOND FORM. 'bulk': how many values and letters a reading holds, each counted each time it is reached (what is shared counts as often as it is met; a slice's spare places count too). A statement '..UptoSaid' is the law's where the arguments, and the package variables that the reading takes, are together of bulk at most 1048576: NARROWER than '..Said'. Prove '..Said' where nothing that the law and all that it calls make is longer than what came in: it says more and counts as full. Else prove '..UptoSaid'. A law counts once. -/
mutual
def uptoBulk {H : Type} : DataW H → Nat
  | .lit (.string bytes) => bytes.length + 1
  | .lit _ => 1
  | .nil => 1
  | .ptr d => uptoBulk d + 1
  | .slice elems spare => uptoBulkAll elems + uptoBulkAll spare + 1
  | .agg parts => uptoBulkAll parts + 1
  | .iface _ d => uptoBulk d + 1
  | .map entries => uptoBulkEntries entries + 1
  | .held _ => 1
def uptoBulkAll {H : Type} : List (DataW H) → Nat
  | [] => 0
  | d :: r => uptoBulk d + uptoBulkAll r
def uptoBulkEntries {H : Type} : List (Lit × DataW H) → Nat
  | [] => 0
  | x :: r => uptoBulkEntry x + uptoBulkEntries r
def uptoBulkEntry {H : Type} : Lit × DataW H → Nat
  | (.string bytes, d) => bytes.length + uptoBulk d + 1
  | (_, d) => uptoBulk d + 1
 end
def uptoSmall : (H : Type) → List (DataW H) → Bool := fun _ ds => decide (uptoBulkAll ds ≤ 1048576)
def OpenSpec.upto (s : _root_.Go.ChangeSpec) : _root_.Go.OpenSpec := { _root_.Go.OpenSpec.ofChange s with cond := some uptoSmall }

/-- 'tannoylaw40.PictureShapes', WHERE WHAT IT READS IS OF BULK AT MOST 1048576: true; the input reads as it did. -/
def pictureShapesUptoRow : OpenClaim := { program := "ytndbgcmgjnjnhaa", sum := "c4611374523bacd617c215fb2ed02aa3925dc34b44558571915690cc8b985b02", func := "tannoy/tannoylaw40.PictureShapes", spec := "pictureShapes", unfollowed := true, recurses := true, apart := false, narrowed := true }
def PictureShapesUptoSaid : Prop := pictureShapesUptoRow.holds Try.pinned (OpenSpec.upto pictureShapesSpec)

/-- 'tannoylaw40.PictureReads', WHERE WHAT IT READS IS OF BULK AT MOST 1048576: true; the input reads as it did. -/
def pictureReadsUptoRow : OpenClaim := { program := "ytndbgcmgjnjnhaa", sum := "c4611374523bacd617c215fb2ed02aa3925dc34b44558571915690cc8b985b02", func := "tannoy/tannoylaw40.PictureReads", spec := "pictureReads", unfollowed := true, recurses := true, apart := false, narrowed := true }
def PictureReadsUptoSaid : Prop := pictureReadsUptoRow.holds Try.pinned (OpenSpec.upto pictureReadsSpec)

/-- 'tannoylaw40.PictureShows', WHERE WHAT IT READS IS OF BULK AT MOST 1048576: true; the input reads as it did. -/
def pictureShowsUptoRow : OpenClaim := { program := "ytndbgcmgjnjnhaa", sum := "c4611374523bacd617c215fb2ed02aa3925dc34b44558571915690cc8b985b02", func := "tannoy/tannoylaw40.PictureShows", spec := "pictureShows", unfollowed := true, recurses := true, apart := false, narrowed := true }
def PictureShowsUptoSaid : Prop := pictureShowsUptoRow.holds Try.pinned (OpenSpec.upto pictureShowsSpec)

/-- 'tannoylaw40.PictureStream', WHERE WHAT IT READS IS OF BULK AT MOST 1048576: true; the input reads as it did. -/
def pictureStreamUptoRow : OpenClaim := { program := "ytndbgcmgjnjnhaa", sum := "c4611374523bacd617c215fb2ed02aa3925dc34b44558571915690cc8b985b02", func := "tannoy/tannoylaw40.PictureStream", spec := "pictureStream", unfollowed := true, recurses := true, apart := false, narrowed := true }
def PictureStreamUptoSaid : Prop := pictureStreamUptoRow.holds Try.pinned (OpenSpec.upto pictureStreamSpec)

/-- 'tannoylaw40.PictureBack', WHERE WHAT IT READS IS OF BULK AT MOST 1048576: true; the input reads as it did. -/
def pictureBackUptoRow : OpenClaim := { program := "ytndbgcmgjnjnhaa", sum := "c4611374523bacd617c215fb2ed02aa3925dc34b44558571915690cc8b985b02", func := "tannoy/tannoylaw40.PictureBack", spec := "pictureBack", unfollowed := true, recurses := true, apart := false, narrowed := true }
def PictureBackUptoSaid : Prop := pictureBackUptoRow.holds Try.pinned (OpenSpec.upto pictureBackSpec)

/-- 'tannoylaw40.PictureOnce', WHERE WHAT IT READS IS OF BULK AT MOST 1048576: true; the input reads as it did. -/
def pictureOnceUptoRow : OpenClaim := { program := "ytndbgcmgjnjnhaa", sum := "c4611374523bacd617c215fb2ed02aa3925dc34b44558571915690cc8b985b02", func := "tannoy/tannoylaw40.PictureOnce", spec := "pictureOnce", unfollowed := true, recurses := true, apart := false, narrowed := true }
def PictureOnceUptoSaid : Prop := pictureOnceUptoRow.holds Try.pinned (OpenSpec.upto pictureOnceSpec)

/-- 'tannoylaw40.PictureWhole', WHERE WHAT IT READS IS OF BULK AT MOST 1048576: true; the input reads as it did. -/
def pictureWholeUptoRow : OpenClaim := { program := "ytndbgcmgjnjnhaa", sum := "c4611374523bacd617c215fb2ed02aa3925dc34b44558571915690cc8b985b02", func := "tannoy/tannoylaw40.PictureWhole", spec := "pictureWhole", unfollowed := true, recurses := true, apart := false, narrowed := true }
def PictureWholeUptoSaid : Prop := pictureWholeUptoRow.holds Try.pinned (OpenSpec.upto pictureWholeSpec)

/-- 'tannoylaw40.PictureKnown', WHERE WHAT IT READS IS OF BULK AT MOST 1048576: true; the input reads as it did. -/
def pictureKnownUptoRow : OpenClaim := { program := "ytndbgcmgjnjnhaa", sum := "c4611374523bacd617c215fb2ed02aa3925dc34b44558571915690cc8b985b02", func := "tannoy/tannoylaw40.PictureKnown", spec := "pictureKnown", inPlace := ["internal/abi.NoEscape", "internal/bytealg.MakeNoZero"], unfollowed := true, recurses := true, apart := false, narrowed := true }
def PictureKnownUptoSaid : Prop := pictureKnownUptoRow.holds Try.pinned (OpenSpec.upto pictureKnownSpec)

/-- 'tannoylaw40.PictureJoins', WHERE WHAT IT READS IS OF BULK AT MOST 1048576: true; the input reads as it did. -/
def pictureJoinsUptoRow : OpenClaim := { program := "ytndbgcmgjnjnhaa", sum := "c4611374523bacd617c215fb2ed02aa3925dc34b44558571915690cc8b985b02", func := "tannoy/tannoylaw40.PictureJoins", spec := "pictureJoins", inPlace := ["slices.overlaps[tannoy/api.Media]"], unfollowed := true, recurses := true, apart := false, narrowed := true }
def PictureJoinsUptoSaid : Prop := pictureJoinsUptoRow.holds Try.pinned (OpenSpec.upto pictureJoinsSpec)

end Rows
end Go.Proofs.Ytndbgcmgjnjnhaa
