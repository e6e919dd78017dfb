/-
  NARROWER THAN 'FOR EVERY INPUT', by the rows' own cells (each row's printed sentence says how): FlightCuts: laid · FlightTakes: laid · FlightTimes: laid · FlightMeets: laid · FlightAgain: laid · FlightKnown: laid.
  DERIVED. THE GIVEN ROWS OF THIS SEAT. 6 by the template 'for every input the law returns true; each argument reads behind the call as it read before'; 0 by the template 'total and deterministic' (their statements: YtlokbfkdgnopeaaGreatDoorTotals.lean).
  GIVEN WITH THE SEED: the statements are not yours to turn. If you find one false, say at which input.
  Laid BY PROGRAM, IN A SANDBOX (cutbox-rows.mjs): the forced cells as the released guide's own fill.sh prints them over the translation d61ff834e51ca684… (all of the seat's roots in one cut). By AI agents, Wed Nov 11 2026. No macro, syntax, notation, axiom, sorry.
-/
import Derived.Test.YtlokbfkdgnopeaaGreatDoorChecked
import GoSem.PinnedTables
import GoSem.Claim
import GoSem.ClaimJoined
import GoSem.ClaimMapViews
import Derived.JoinedTies
import Derived.KernelRfl
namespace Go.Proofs.YtlokbfkdgnopeaaGreatDoor
/- THE CELL 'sum', in the pinned program and in every row, IS THE sha256 OF THE DUMP (.gsa) THAT YtlokbfkdgnopeaaGreatDoorProg.lean LOADS. Nothing in Lean hashes anything: it is a label: what it is worth is what the hold of that sum in a sandbox is worth. -/
noncomputable def Tryz.pinned : Pinned := { name := "ytlokbfkdgnopeaagreatdoor", sum := "d61ff834e51ca68416c8ffcc1f5dcbe102f657589c58441cb25ad676b555dfaa", checked := Tryz.checked }
namespace Rows
def none {H : Type} : Left H := { results := [], args := [] }

/- WHAT THE LISTED PACKAGE-LEVEL VARIABLES READ AS WHEN THE CALL BEGINS. Each datum BY PROGRAM (the guide's laid-datum.mjs) off the statement by which the dump's own 'gosem.cut.vars' lays the variable. In a bare row this is a premise. The card (YtlokbfkdgnopeaaGreatDoorCards.lean) ties it to the program's text. -/
def laid_unicode_utf8_acceptRanges {H : Type} : DataW H := .agg [.agg [.lit (.int .u8 128), .lit (.int .u8 191)], .agg [.lit (.int .u8 160), .lit (.int .u8 191)], .agg [.lit (.int .u8 128), .lit (.int .u8 159)], .agg [.lit (.int .u8 144), .lit (.int .u8 191)], .agg [.lit (.int .u8 128), .lit (.int .u8 143)], .agg [.lit (.int .u8 0), .lit (.int .u8 0)], .agg [.lit (.int .u8 0), .lit (.int .u8 0)], .agg [.lit (.int .u8 0), .lit (.int .u8 0)], .agg [.lit (.int .u8 0), .lit (.int .u8 0)], .agg [.lit (.int .u8 0), .lit (.int .u8 0)], .agg [.lit (.int .u8 0), .lit (.int .u8 0)], .agg [.lit (.int .u8 0), .lit (.int .u8 0)], .agg [.lit (.int .u8 0), .lit (.int .u8 0)], .agg [.lit (.int .u8 0), .lit (.int .u8 0)], .agg [.lit (.int .u8 0), .lit (.int .u8 0)], .agg [.lit (.int .u8 0), .lit (.int .u8 0)]]
/-- One of Go's own tables, pinned by name: the form's constant. -/
def laid_unicode_utf8_first : DataW Unit := Go.Pinned.utf8First

/-- 'tannoylaw19.FlightCuts': WHATEVER THE INPUT: true; the input reads as it did. -/
def flightCutsSpec : ChangeSpec := { name := "flightCuts", fn := fun _ => fun
  | [d1, d2, d3, d4, d5, d6] => { results := [.lit (.bool true)], args := [d1, d2, d3, d4, d5, d6] }
  | _ => none }
def flightCutsRow : OpenClaim := { program := "ytlokbfkdgnopeaagreatdoor", sum := "d61ff834e51ca68416c8ffcc1f5dcbe102f657589c58441cb25ad676b555dfaa", func := "tannoy/tannoylaw19.FlightCuts", spec := "flightCuts", inPlace := ["internal/bytealg.IndexByteString", "internal/bytealg.IndexString", "internal/abi.NoEscape", "internal/bytealg.MakeNoZero", "slices.overlaps[tannoy/api.Half]"], unfollowed := true, recurses := true, named := ["unicode/utf8.first", "unicode/utf8.acceptRanges", "internal/bytealg.MaxLen"], apart := false, laid := [("unicode/utf8.acceptRanges", laid_unicode_utf8_acceptRanges), ("unicode/utf8.first", laid_unicode_utf8_first)] }
def FlightCutsSaid : Prop := flightCutsRow.holds Tryz.pinned (OpenSpec.ofChange flightCutsSpec)

/-- ITS FALSE NEIGHBOUR: 'it returns false'. Refute it at one input. -/
def flightCutsWrong : ChangeSpec := { name := "flightCuts", fn := fun _ => fun
  | [d1, d2, d3, d4, d5, d6] => { results := [.lit (.bool false)], args := [d1, d2, d3, d4, d5, d6] }
  | _ => none }
def FlightCutsWrongFalsely : Prop := flightCutsRow.holds Tryz.pinned (OpenSpec.ofChange flightCutsWrong)

/-- 'tannoylaw19.FlightTakes': WHATEVER THE INPUT: true; the input reads as it did. -/
def flightTakesSpec : ChangeSpec := { name := "flightTakes", fn := fun _ => fun
  | [d1, d2, d3, d4, d5, d6] => { results := [.lit (.bool true)], args := [d1, d2, d3, d4, d5, d6] }
  | _ => none }
def flightTakesRow : OpenClaim := { program := "ytlokbfkdgnopeaagreatdoor", sum := "d61ff834e51ca68416c8ffcc1f5dcbe102f657589c58441cb25ad676b555dfaa", func := "tannoy/tannoylaw19.FlightTakes", spec := "flightTakes", inPlace := ["internal/bytealg.IndexByteString", "internal/bytealg.IndexString", "internal/abi.NoEscape", "internal/bytealg.MakeNoZero", "slices.overlaps[tannoy/api.Half]"], unfollowed := true, recurses := true, named := ["unicode/utf8.first", "unicode/utf8.acceptRanges", "internal/bytealg.MaxLen"], apart := false, laid := [("unicode/utf8.acceptRanges", laid_unicode_utf8_acceptRanges), ("unicode/utf8.first", laid_unicode_utf8_first)] }
def FlightTakesSaid : Prop := flightTakesRow.holds Tryz.pinned (OpenSpec.ofChange flightTakesSpec)

/-- ITS FALSE NEIGHBOUR: 'it returns false'. Refute it at one input. -/
def flightTakesWrong : ChangeSpec := { name := "flightTakes", fn := fun _ => fun
  | [d1, d2, d3, d4, d5, d6] => { results := [.lit (.bool false)], args := [d1, d2, d3, d4, d5, d6] }
  | _ => none }
def FlightTakesWrongFalsely : Prop := flightTakesRow.holds Tryz.pinned (OpenSpec.ofChange flightTakesWrong)

/-- 'tannoylaw19.FlightTimes': WHATEVER THE INPUT: true; the input reads as it did. -/
def flightTimesSpec : ChangeSpec := { name := "flightTimes", fn := fun _ => fun
  | [d1, d2, d3, d4] => { results := [.lit (.bool true)], args := [d1, d2, d3, d4] }
  | _ => none }
def flightTimesRow : OpenClaim := { program := "ytlokbfkdgnopeaagreatdoor", sum := "d61ff834e51ca68416c8ffcc1f5dcbe102f657589c58441cb25ad676b555dfaa", func := "tannoy/tannoylaw19.FlightTimes", spec := "flightTimes", inPlace := ["internal/bytealg.IndexByteString", "internal/bytealg.IndexString", "internal/abi.NoEscape", "internal/bytealg.MakeNoZero", "slices.overlaps[tannoy/api.Half]"], unfollowed := true, recurses := true, named := ["unicode/utf8.first", "unicode/utf8.acceptRanges", "internal/bytealg.MaxLen"], apart := false, laid := [("unicode/utf8.acceptRanges", laid_unicode_utf8_acceptRanges), ("unicode/utf8.first", laid_unicode_utf8_first)] }
def FlightTimesSaid : Prop := flightTimesRow.holds Tryz.pinned (OpenSpec.ofChange flightTimesSpec)

/-- ITS FALSE NEIGHBOUR: 'it returns false'. Refute it at one input. -/
def flightTimesWrong : ChangeSpec := { name := "flightTimes", fn := fun _ => fun
  | [d1, d2, d3, d4] => { results := [.lit (.bool false)], args := [d1, d2, d3, d4] }
  | _ => none }
def FlightTimesWrongFalsely : Prop := flightTimesRow.holds Tryz.pinned (OpenSpec.ofChange flightTimesWrong)

/-- 'tannoylaw19.FlightMeets': WHATEVER THE INPUT: true; the input reads as it did. -/
def flightMeetsSpec : ChangeSpec := { name := "flightMeets", fn := fun _ => fun
  | [d1, d2, d3] => { results := [.lit (.bool true)], args := [d1, d2, d3] }
  | _ => none }
def flightMeetsRow : OpenClaim := { program := "ytlokbfkdgnopeaagreatdoor", sum := "d61ff834e51ca68416c8ffcc1f5dcbe102f657589c58441cb25ad676b555dfaa", func := "tannoy/tannoylaw19.FlightMeets", spec := "flightMeets", inPlace := ["internal/bytealg.IndexByteString", "internal/bytealg.IndexString", "internal/abi.NoEscape", "internal/bytealg.MakeNoZero", "slices.overlaps[tannoy/api.Half]"], unfollowed := true, recurses := true, named := ["unicode/utf8.first", "unicode/utf8.acceptRanges", "internal/bytealg.MaxLen"], apart := false, laid := [("unicode/utf8.acceptRanges", laid_unicode_utf8_acceptRanges), ("unicode/utf8.first", laid_unicode_utf8_first)] }
def FlightMeetsSaid : Prop := flightMeetsRow.holds Tryz.pinned (OpenSpec.ofChange flightMeetsSpec)

/-- ITS FALSE NEIGHBOUR: 'it returns false'. Refute it at one input. -/
def flightMeetsWrong : ChangeSpec := { name := "flightMeets", fn := fun _ => fun
  | [d1, d2, d3] => { results := [.lit (.bool false)], args := [d1, d2, d3] }
  | _ => none }
def FlightMeetsWrongFalsely : Prop := flightMeetsRow.holds Tryz.pinned (OpenSpec.ofChange flightMeetsWrong)

/-- 'tannoylaw19.FlightAgain': WHATEVER THE INPUT: true; the input reads as it did. -/
def flightAgainSpec : ChangeSpec := { name := "flightAgain", fn := fun _ => fun
  | [d1, d2, d3, d4, d5] => { results := [.lit (.bool true)], args := [d1, d2, d3, d4, d5] }
  | _ => none }
def flightAgainRow : OpenClaim := { program := "ytlokbfkdgnopeaagreatdoor", sum := "d61ff834e51ca68416c8ffcc1f5dcbe102f657589c58441cb25ad676b555dfaa", func := "tannoy/tannoylaw19.FlightAgain", spec := "flightAgain", inPlace := ["internal/bytealg.IndexByteString", "internal/bytealg.IndexString", "internal/abi.NoEscape", "internal/bytealg.MakeNoZero", "slices.overlaps[tannoy/api.Half]"], unfollowed := true, recurses := true, named := ["unicode/utf8.first", "unicode/utf8.acceptRanges", "internal/bytealg.MaxLen"], apart := false, laid := [("unicode/utf8.acceptRanges", laid_unicode_utf8_acceptRanges), ("unicode/utf8.first", laid_unicode_utf8_first)] }
def FlightAgainSaid : Prop := flightAgainRow.holds Tryz.pinned (OpenSpec.ofChange flightAgainSpec)

/-- ITS FALSE NEIGHBOUR: 'it returns false'. Refute it at one input. -/
def flightAgainWrong : ChangeSpec := { name := "flightAgain", fn := fun _ => fun
  | [d1, d2, d3, d4, d5] => { results := [.lit (.bool false)], args := [d1, d2, d3, d4, d5] }
  | _ => none }
def FlightAgainWrongFalsely : Prop := flightAgainRow.holds Tryz.pinned (OpenSpec.ofChange flightAgainWrong)

/-- 'tannoylaw19.FlightKnown': WHATEVER THE INPUT: true; the input reads as it did. -/
def flightKnownSpec : ChangeSpec := { name := "flightKnown", fn := fun _ => fun
  | [] => { results := [.lit (.bool true)], args := [] }
  | _ => none }
def flightKnownRow : OpenClaim := { program := "ytlokbfkdgnopeaagreatdoor", sum := "d61ff834e51ca68416c8ffcc1f5dcbe102f657589c58441cb25ad676b555dfaa", func := "tannoy/tannoylaw19.FlightKnown", spec := "flightKnown", inPlace := ["internal/bytealg.IndexByteString", "internal/bytealg.IndexString", "internal/abi.NoEscape", "internal/bytealg.MakeNoZero", "slices.overlaps[tannoy/api.Half]"], unfollowed := true, recurses := true, named := ["unicode/utf8.first", "unicode/utf8.acceptRanges", "internal/bytealg.MaxLen"], apart := false, laid := [("unicode/utf8.acceptRanges", laid_unicode_utf8_acceptRanges), ("unicode/utf8.first", laid_unicode_utf8_first)] }
def FlightKnownSaid : Prop := flightKnownRow.holds Tryz.pinned (OpenSpec.ofChange flightKnownSpec)

/-- ITS FALSE NEIGHBOUR: 'it returns false'. Refute it at one input. -/
def flightKnownWrong : ChangeSpec := { name := "flightKnown", fn := fun _ => fun
  | [] => { results := [.lit (.bool false)], args := [] }
  | _ => none }
def FlightKnownWrongFalsely : Prop := flightKnownRow.holds Tryz.pinned (OpenSpec.ofChange flightKnownWrong)

/- THE SECOND FORM. 'bulk': how many values and letters a reading holds, each counted each time it is reached (what is shared counts as often as it is met; a slice's spare places count too). A statement '..UptoSaid' is the law's where the arguments, and the package variables that the reading takes, are together of bulk at most 1048576: NARROWER than '..Said'. Prove '..Said' where nothing that the law and all that it calls make is longer than what came in: it says more and counts as full. Else prove '..UptoSaid'. A law counts once. -/
mutual
def uptoBulk {H : Type} : DataW H → Nat
  | .lit (.string bytes) => bytes.length + 1
  | .lit _ => 1
  | .nil => 1
  | .ptr d => uptoBulk d + 1
  | .slice elems spare => uptoBulkAll elems + uptoBulkAll spare + 1
  | .agg parts => uptoBulkAll parts + 1
  | .iface _ d => uptoBulk d + 1
  | .map entries => uptoBulkEntries entries + 1
  | .held _ => 1
def uptoBulkAll {H : Type} : List (DataW H) → Nat
  | [] => 0
  | d :: r => uptoBulk d + uptoBulkAll r
def uptoBulkEntries {H : Type} : List (Lit × DataW H) → Nat
  | [] => 0
  | x :: r => uptoBulkEntry x + uptoBulkEntries r
def uptoBulkEntry {H : Type} : Lit × DataW H → Nat
  | (.string bytes, d) => bytes.length + uptoBulk d + 1
  | (_, d) => uptoBulk d + 1
 end
def uptoSmall : (H : Type) → List (DataW H) → Bool := fun _ ds => decide (uptoBulkAll ds ≤ 1048576)
def OpenSpec.upto (s : _root_.Go.ChangeSpec) : _root_.Go.OpenSpec := { _root_.Go.OpenSpec.ofChange s with cond := some uptoSmall }

/-- 'tannoylaw19.FlightCuts', WHERE WHAT IT READS IS OF BULK AT MOST 1048576: true; the input reads as it did. -/
def flightCutsUptoRow : OpenClaim := { program := "ytlokbfkdgnopeaagreatdoor", sum := "d61ff834e51ca68416c8ffcc1f5dcbe102f657589c58441cb25ad676b555dfaa", func := "tannoy/tannoylaw19.FlightCuts", spec := "flightCuts", inPlace := ["internal/bytealg.IndexByteString", "internal/bytealg.IndexString", "internal/abi.NoEscape", "internal/bytealg.MakeNoZero", "slices.overlaps[tannoy/api.Half]"], unfollowed := true, recurses := true, named := ["unicode/utf8.first", "unicode/utf8.acceptRanges", "internal/bytealg.MaxLen"], apart := false, laid := [("unicode/utf8.acceptRanges", laid_unicode_utf8_acceptRanges), ("unicode/utf8.first", laid_unicode_utf8_first)], narrowed := true }
def FlightCutsUptoSaid : Prop := flightCutsUptoRow.holds Tryz.pinned (OpenSpec.upto flightCutsSpec)

/-- 'tannoylaw19.FlightTakes', WHERE WHAT IT READS IS OF BULK AT MOST 1048576: true; the input reads as it did. -/
def flightTakesUptoRow : OpenClaim := { program := "ytlokbfkdgnopeaagreatdoor", sum := "d61ff834e51ca68416c8ffcc1f5dcbe102f657589c58441cb25ad676b555dfaa", func := "tannoy/tannoylaw19.FlightTakes", spec := "flightTakes", inPlace := ["internal/bytealg.IndexByteString", "internal/bytealg.IndexString", "internal/abi.NoEscape", "internal/bytealg.MakeNoZero", "slices.overlaps[tannoy/api.Half]"], unfollowed := true, recurses := true, named := ["unicode/utf8.first", "unicode/utf8.acceptRanges", "internal/bytealg.MaxLen"], apart := false, laid := [("unicode/utf8.acceptRanges", laid_unicode_utf8_acceptRanges), ("unicode/utf8.first", laid_unicode_utf8_first)], narrowed := true }
def FlightTakesUptoSaid : Prop := flightTakesUptoRow.holds Tryz.pinned (OpenSpec.upto flightTakesSpec)

/-- 'tannoylaw19.FlightTimes', WHERE WHAT IT READS IS OF BULK AT MOST 1048576: true; the input reads as it did. -/
def flightTimesUptoRow : OpenClaim := { program := "ytlokbfkdgnopeaagreatdoor", sum := "d61ff834e51ca68416c8ffcc1f5dcbe102f657589c58441cb25ad676b555dfaa", func := "tannoy/tannoylaw19.FlightTimes", spec := "flightTimes", inPlace := ["internal/bytealg.IndexByteString", "internal/bytealg.IndexString", "internal/abi.NoEscape", "internal/bytealg.MakeNoZero", "slices.overlaps[tannoy/api.Half]"], unfollowed := true, recurses := true, named := ["unicode/utf8.first", "unicode/utf8.acceptRanges", "internal/bytealg.MaxLen"], apart := false, laid := [("unicode/utf8.acceptRanges", laid_unicode_utf8_acceptRanges), ("unicode/utf8.first", laid_unicode_utf8_first)], narrowed := true }
def FlightTimesUptoSaid : Prop := flightTimesUptoRow.holds Tryz.pinned (OpenSpec.upto flightTimesSpec)

/-- 'tannoylaw19.FlightMeets', WHERE WHAT IT READS IS OF BULK AT MOST 1048576: true; the input reads as it did. -/
def flightMeetsUptoRow : OpenClaim := { program := "ytlokbfkdgnopeaagreatdoor", sum := "d61ff834e51ca68416c8ffcc1f5dcbe102f657589c58441cb25ad676b555dfaa", func := "tannoy/tannoylaw19.FlightMeets", spec := "flightMeets", inPlace := ["internal/bytealg.IndexByteString", "internal/bytealg.IndexString", "internal/abi.NoEscape", "internal/bytealg.MakeNoZero", "slices.overlaps[tannoy/api.Half]"], unfollowed := true, recurses := true, named := ["unicode/utf8.first", "unicode/utf8.acceptRanges", "internal/bytealg.MaxLen"], apart := false, laid := [("unicode/utf8.acceptRanges", laid_unicode_utf8_acceptRanges), ("unicode/utf8.first", laid_unicode_utf8_first)], narrowed := true }
def FlightMeetsUptoSaid : Prop := flightMeetsUptoRow.holds Tryz.pinned (OpenSpec.upto flightMeetsSpec)

/-- 'tannoylaw19.FlightAgain', WHERE WHAT IT READS IS OF BULK AT MOST 1048576: true; the input reads as it did. -/
def flightAgainUptoRow : OpenClaim := { program := "ytlokbfkdgnopeaagreatdoor", sum := "d61ff834e51ca68416c8ffcc1f5dcbe102f657589c58441cb25ad676b555dfaa", func := "tannoy/tannoylaw19.FlightAgain", spec := "flightAgain", inPlace := ["internal/bytealg.IndexByteString", "internal/bytealg.IndexString", "internal/abi.NoEscape", "internal/bytealg.MakeNoZero", "slices.overlaps[tannoy/api.Half]"], unfollowed := true, recurses := true, named := ["unicode/utf8.first", "unicode/utf8.acceptRanges", "internal/bytealg.MaxLen"], apart := false, laid := [("unicode/utf8.acceptRanges", laid_unicode_utf8_acceptRanges), ("unicode/utf8.first", laid_unicode_utf8_first)], narrowed := true }
def FlightAgainUptoSaid : Prop := flightAgainUptoRow.holds Tryz.pinned (OpenSpec.upto flightAgainSpec)

/-- 'tannoylaw19.FlightKnown', WHERE WHAT IT READS IS OF BULK AT MOST 1048576: true; the input reads as it did. -/
def flightKnownUptoRow : OpenClaim := { program := "ytlokbfkdgnopeaagreatdoor", sum := "d61ff834e51ca68416c8ffcc1f5dcbe102f657589c58441cb25ad676b555dfaa", func := "tannoy/tannoylaw19.FlightKnown", spec := "flightKnown", inPlace := ["internal/bytealg.IndexByteString", "internal/bytealg.IndexString", "internal/abi.NoEscape", "internal/bytealg.MakeNoZero", "slices.overlaps[tannoy/api.Half]"], unfollowed := true, recurses := true, named := ["unicode/utf8.first", "unicode/utf8.acceptRanges", "internal/bytealg.MaxLen"], apart := false, laid := [("unicode/utf8.acceptRanges", laid_unicode_utf8_acceptRanges), ("unicode/utf8.first", laid_unicode_utf8_first)], narrowed := true }
def FlightKnownUptoSaid : Prop := flightKnownUptoRow.holds Tryz.pinned (OpenSpec.upto flightKnownSpec)

end Rows
end Go.Proofs.YtlokbfkdgnopeaaGreatDoor
