/-
  NARROWER THAN 'FOR EVERY INPUT', by the rows' own cells (each row's printed sentence says how): RoomContinuous: laid · RoomKnown: laid · RoomChooses: laid · RoomPushes: laid · RoomBest: laid · RoomAlone: laid · RoomChanges: laid.
  DERIVED. THE GIVEN ROWS OF THIS SEAT. 7 by the template 'for every input the law returns true; each argument reads behind the call as it read before'; 0 by the template 'total and deterministic' (their statements: YtibpegmighopbaaGreatDoorTotals.lean).
  GIVEN WITH THE SEED: the statements are not yours to turn. If you find one false, say at which input.
  Laid BY PROGRAM, IN A SANDBOX (cutbox-rows.mjs): the forced cells as the released guide's own fill.sh prints them over the translation 9d7d22d59b8c87bc… (all of the seat's roots in one cut). By AI agents, Wed Nov 11 2026. No macro, syntax, notation, axiom, sorry.
-/
import Derived.Test.YtibpegmighopbaaGreatDoorChecked
import GoSem.PinnedTables
import GoSem.Claim
import GoSem.ClaimJoined
import GoSem.ClaimMapViews
import Derived.JoinedTies
import Derived.KernelRfl
namespace Go.Proofs.YtibpegmighopbaaGreatDoor
/- THE CELL 'sum', in the pinned program and in every row, IS THE sha256 OF THE DUMP (.gsa) THAT YtibpegmighopbaaGreatDoorProg.lean LOADS. Nothing in Lean hashes anything: it is a label: what it is worth is what the hold of that sum in a sandbox is worth. -/
noncomputable def Tryz.pinned : Pinned := { name := "ytibpegmighopbaagreatdoor", sum := "9d7d22d59b8c87bc31190002fa2c534aa7684dcfbd27ccc75a750555b238b393", checked := Tryz.checked }
namespace Rows
def none {H : Type} : Left H := { results := [], args := [] }

/- WHAT THE LISTED PACKAGE-LEVEL VARIABLES READ AS WHEN THE CALL BEGINS. Each datum BY PROGRAM (the guide's laid-datum.mjs) off the statement by which the dump's own 'gosem.cut.vars' lays the variable. In a bare row this is a premise. The card (YtibpegmighopbaaGreatDoorCards.lean) ties it to the program's text. -/
def laid_unicode_utf8_acceptRanges {H : Type} : DataW H := .agg [.agg [.lit (.int .u8 128), .lit (.int .u8 191)], .agg [.lit (.int .u8 160), .lit (.int .u8 191)], .agg [.lit (.int .u8 128), .lit (.int .u8 159)], .agg [.lit (.int .u8 144), .lit (.int .u8 191)], .agg [.lit (.int .u8 128), .lit (.int .u8 143)], .agg [.lit (.int .u8 0), .lit (.int .u8 0)], .agg [.lit (.int .u8 0), .lit (.int .u8 0)], .agg [.lit (.int .u8 0), .lit (.int .u8 0)], .agg [.lit (.int .u8 0), .lit (.int .u8 0)], .agg [.lit (.int .u8 0), .lit (.int .u8 0)], .agg [.lit (.int .u8 0), .lit (.int .u8 0)], .agg [.lit (.int .u8 0), .lit (.int .u8 0)], .agg [.lit (.int .u8 0), .lit (.int .u8 0)], .agg [.lit (.int .u8 0), .lit (.int .u8 0)], .agg [.lit (.int .u8 0), .lit (.int .u8 0)], .agg [.lit (.int .u8 0), .lit (.int .u8 0)]]
/-- One of Go's own tables, pinned by name: the form's constant. -/
def laid_unicode_utf8_first : DataW Unit := Go.Pinned.utf8First

/-- 'tannoylaw42.RoomContinuous': WHATEVER THE INPUT: true; the input reads as it did. -/
def roomContinuousSpec : ChangeSpec := { name := "roomContinuous", fn := fun _ => fun
  | [d1, d2] => { results := [.lit (.bool true)], args := [d1, d2] }
  | _ => none }
def roomContinuousRow : OpenClaim := { program := "ytibpegmighopbaagreatdoor", sum := "9d7d22d59b8c87bc31190002fa2c534aa7684dcfbd27ccc75a750555b238b393", func := "tannoy/tannoylaw42.RoomContinuous", spec := "roomContinuous", inPlace := ["internal/bytealg.IndexByteString", "internal/bytealg.IndexString", "slices.overlaps[tannoy/api.Tap]"], unfollowed := true, recurses := true, named := ["unicode/utf8.first", "unicode/utf8.acceptRanges", "internal/bytealg.MaxLen"], plainKeys := false, apart := false, laid := [("unicode/utf8.acceptRanges", laid_unicode_utf8_acceptRanges), ("unicode/utf8.first", laid_unicode_utf8_first)] }
def RoomContinuousSaid : Prop := roomContinuousRow.holds Tryz.pinned (OpenSpec.ofChange roomContinuousSpec)

/-- ITS FALSE NEIGHBOUR: 'it returns false'. Refute it at one input. -/
def roomContinuousWrong : ChangeSpec := { name := "roomContinuous", fn := fun _ => fun
  | [d1, d2] => { results := [.lit (.bool false)], args := [d1, d2] }
  | _ => none }
def RoomContinuousWrongFalsely : Prop := roomContinuousRow.holds Tryz.pinned (OpenSpec.ofChange roomContinuousWrong)

/-- 'tannoylaw42.RoomKnown': WHATEVER THE INPUT: true; the input reads as it did. -/
def roomKnownSpec : ChangeSpec := { name := "roomKnown", fn := fun _ => fun
  | [] => { results := [.lit (.bool true)], args := [] }
  | _ => none }
def roomKnownRow : OpenClaim := { program := "ytibpegmighopbaagreatdoor", sum := "9d7d22d59b8c87bc31190002fa2c534aa7684dcfbd27ccc75a750555b238b393", func := "tannoy/tannoylaw42.RoomKnown", spec := "roomKnown", inPlace := ["internal/bytealg.IndexByteString", "internal/bytealg.IndexString", "slices.overlaps[tannoy/api.Tap]", "internal/abi.NoEscape", "internal/bytealg.MakeNoZero"], unfollowed := true, recurses := true, named := ["unicode/utf8.first", "unicode/utf8.acceptRanges", "internal/bytealg.MaxLen"], plainKeys := false, apart := false, laid := [("unicode/utf8.acceptRanges", laid_unicode_utf8_acceptRanges), ("unicode/utf8.first", laid_unicode_utf8_first)] }
def RoomKnownSaid : Prop := roomKnownRow.holds Tryz.pinned (OpenSpec.ofChange roomKnownSpec)

/-- ITS FALSE NEIGHBOUR: 'it returns false'. Refute it at one input. -/
def roomKnownWrong : ChangeSpec := { name := "roomKnown", fn := fun _ => fun
  | [] => { results := [.lit (.bool false)], args := [] }
  | _ => none }
def RoomKnownWrongFalsely : Prop := roomKnownRow.holds Tryz.pinned (OpenSpec.ofChange roomKnownWrong)

/-- 'tannoylaw42.RoomChooses': WHATEVER THE INPUT: true; the input reads as it did. -/
def roomChoosesSpec : ChangeSpec := { name := "roomChooses", fn := fun _ => fun
  | [d1, d2, d3] => { results := [.lit (.bool true)], args := [d1, d2, d3] }
  | _ => none }
def roomChoosesRow : OpenClaim := { program := "ytibpegmighopbaagreatdoor", sum := "9d7d22d59b8c87bc31190002fa2c534aa7684dcfbd27ccc75a750555b238b393", func := "tannoy/tannoylaw42.RoomChooses", spec := "roomChooses", inPlace := ["internal/bytealg.IndexByteString", "internal/bytealg.IndexString", "slices.overlaps[tannoy/api.Tap]"], unfollowed := true, recurses := true, named := ["unicode/utf8.first", "unicode/utf8.acceptRanges", "internal/bytealg.MaxLen"], plainKeys := false, apart := false, laid := [("unicode/utf8.acceptRanges", laid_unicode_utf8_acceptRanges), ("unicode/utf8.first", laid_unicode_utf8_first)] }
def RoomChoosesSaid : Prop := roomChoosesRow.holds Tryz.pinned (OpenSpec.ofChange roomChoosesSpec)

/-- ITS FALSE NEIGHBOUR: 'it returns false'. Refute it at one input. -/
def roomChoosesWrong : ChangeSpec := { name := "roomChooses", fn := fun _ => fun
  | [d1, d2, d3] => { results := [.lit (.bool false)], args := [d1, d2, d3] }
  | _ => none }
def RoomChoosesWrongFalsely : Prop := roomChoosesRow.holds Tryz.pinned (OpenSpec.ofChange roomChoosesWrong)

/-- 'tannoylaw42.RoomPushes': WHATEVER THE INPUT: true; the input reads as it did. -/
def roomPushesSpec : ChangeSpec := { name := "roomPushes", fn := fun _ => fun
  | [d1, d2, d3, d4, d5] => { results := [.lit (.bool true)], args := [d1, d2, d3, d4, d5] }
  | _ => none }
def roomPushesRow : OpenClaim := { program := "ytibpegmighopbaagreatdoor", sum := "9d7d22d59b8c87bc31190002fa2c534aa7684dcfbd27ccc75a750555b238b393", func := "tannoy/tannoylaw42.RoomPushes", spec := "roomPushes", inPlace := ["internal/bytealg.IndexByteString", "internal/bytealg.IndexString", "slices.overlaps[tannoy/api.Tap]"], unfollowed := true, recurses := true, named := ["unicode/utf8.first", "unicode/utf8.acceptRanges", "internal/bytealg.MaxLen"], plainKeys := false, apart := false, laid := [("unicode/utf8.acceptRanges", laid_unicode_utf8_acceptRanges), ("unicode/utf8.first", laid_unicode_utf8_first)] }
def RoomPushesSaid : Prop := roomPushesRow.holds Tryz.pinned (OpenSpec.ofChange roomPushesSpec)

/-- ITS FALSE NEIGHBOUR: 'it returns false'. Refute it at one input. -/
def roomPushesWrong : ChangeSpec := { name := "roomPushes", fn := fun _ => fun
  | [d1, d2, d3, d4, d5] => { results := [.lit (.bool false)], args := [d1, d2, d3, d4, d5] }
  | _ => none }
def RoomPushesWrongFalsely : Prop := roomPushesRow.holds Tryz.pinned (OpenSpec.ofChange roomPushesWrong)

/-- 'tannoylaw42.RoomBest': WHATEVER THE INPUT: true; the input reads as it did. -/
def roomBestSpec : ChangeSpec := { name := "roomBest", fn := fun _ => fun
  | [d1, d2, d3, d4] => { results := [.lit (.bool true)], args := [d1, d2, d3, d4] }
  | _ => none }
def roomBestRow : OpenClaim := { program := "ytibpegmighopbaagreatdoor", sum := "9d7d22d59b8c87bc31190002fa2c534aa7684dcfbd27ccc75a750555b238b393", func := "tannoy/tannoylaw42.RoomBest", spec := "roomBest", inPlace := ["internal/bytealg.IndexByteString", "internal/bytealg.IndexString", "slices.overlaps[tannoy/api.Tap]"], unfollowed := true, recurses := true, named := ["unicode/utf8.first", "unicode/utf8.acceptRanges", "internal/bytealg.MaxLen"], plainKeys := false, apart := false, laid := [("unicode/utf8.acceptRanges", laid_unicode_utf8_acceptRanges), ("unicode/utf8.first", laid_unicode_utf8_first)] }
def RoomBestSaid : Prop := roomBestRow.holds Tryz.pinned (OpenSpec.ofChange roomBestSpec)

/-- ITS FALSE NEIGHBOUR: 'it returns false'. Refute it at one input. -/
def roomBestWrong : ChangeSpec := { name := "roomBest", fn := fun _ => fun
  | [d1, d2, d3, d4] => { results := [.lit (.bool false)], args := [d1, d2, d3, d4] }
  | _ => none }
def RoomBestWrongFalsely : Prop := roomBestRow.holds Tryz.pinned (OpenSpec.ofChange roomBestWrong)

/-- 'tannoylaw42.RoomAlone': WHATEVER THE INPUT: true; the input reads as it did. -/
def roomAloneSpec : ChangeSpec := { name := "roomAlone", fn := fun _ => fun
  | [d1, d2] => { results := [.lit (.bool true)], args := [d1, d2] }
  | _ => none }
def roomAloneRow : OpenClaim := { program := "ytibpegmighopbaagreatdoor", sum := "9d7d22d59b8c87bc31190002fa2c534aa7684dcfbd27ccc75a750555b238b393", func := "tannoy/tannoylaw42.RoomAlone", spec := "roomAlone", inPlace := ["internal/bytealg.IndexByteString", "internal/bytealg.IndexString", "slices.overlaps[tannoy/api.Tap]"], unfollowed := true, recurses := true, named := ["unicode/utf8.first", "unicode/utf8.acceptRanges", "internal/bytealg.MaxLen"], plainKeys := false, apart := false, laid := [("unicode/utf8.acceptRanges", laid_unicode_utf8_acceptRanges), ("unicode/utf8.first", laid_unicode_utf8_first)] }
def RoomAloneSaid : Prop := roomAloneRow.holds Tryz.pinned (OpenSpec.ofChange roomAloneSpec)

/-- ITS FALSE NEIGHBOUR: 'it returns false'. Refute it at one input. -/
def roomAloneWrong : ChangeSpec := { name := "roomAlone", fn := fun _ => fun
  | [d1, d2] => { results := [.lit (.bool false)], args := [d1, d2] }
  | _ => none }
def RoomAloneWrongFalsely : Prop := roomAloneRow.holds Tryz.pinned (OpenSpec.ofChange roomAloneWrong)

/-- 'tannoylaw42.RoomChanges': WHATEVER THE INPUT: true; the input reads as it did. -/
def roomChangesSpec : ChangeSpec := { name := "roomChanges", fn := fun _ => fun
  | [d1, d2, d3, d4, d5, d6] => { results := [.lit (.bool true)], args := [d1, d2, d3, d4, d5, d6] }
  | _ => none }
def roomChangesRow : OpenClaim := { program := "ytibpegmighopbaagreatdoor", sum := "9d7d22d59b8c87bc31190002fa2c534aa7684dcfbd27ccc75a750555b238b393", func := "tannoy/tannoylaw42.RoomChanges", spec := "roomChanges", inPlace := ["internal/bytealg.IndexByteString", "internal/bytealg.IndexString", "slices.overlaps[tannoy/api.Tap]"], unfollowed := true, recurses := true, named := ["unicode/utf8.first", "unicode/utf8.acceptRanges", "internal/bytealg.MaxLen"], plainKeys := false, apart := false, laid := [("unicode/utf8.acceptRanges", laid_unicode_utf8_acceptRanges), ("unicode/utf8.first", laid_unicode_utf8_first)] }
def RoomChangesSaid : Prop := roomChangesRow.holds Tryz.pinned (OpenSpec.ofChange roomChangesSpec)

/-- ITS FALSE NEIGHBOUR: 'it returns false'. Refute it at one input. -/
def roomChangesWrong : ChangeSpec := { name := "roomChanges", fn := fun _ => fun
  | [d1, d2, d3, d4, d5, d6] => { results := [.lit (.bool false)], args := [d1, d2, d3, d4, d5, d6] }
  | _ => none }
def RoomChangesWrongFalsely : Prop := roomChangesRow.holds Tryz.pinned (OpenSpec.ofChange roomChangesWrong)

/- THE SECOND FORM. 'bulk': how many values and letters a reading holds, each counted each time it is reached (what is shared counts as often as it is met; a slice's spare places count too). A statement '..UptoSaid' is the law's where the arguments, and the package variables that the reading takes, are together of bulk at most 1048576: NARROWER than '..Said'. Prove '..Said' where nothing that the law and all that it calls make is longer than what came in: it says more and counts as full. Else prove '..UptoSaid'. A law counts once. -/
mutual
def uptoBulk {H : Type} : DataW H → Nat
  | .lit (.string bytes) => bytes.length + 1
  | .lit _ => 1
  | .nil => 1
  | .ptr d => uptoBulk d + 1
  | .slice elems spare => uptoBulkAll elems + uptoBulkAll spare + 1
  | .agg parts => uptoBulkAll parts + 1
  | .iface _ d => uptoBulk d + 1
  | .map entries => uptoBulkEntries entries + 1
  | .held _ => 1
def uptoBulkAll {H : Type} : List (DataW H) → Nat
  | [] => 0
  | d :: r => uptoBulk d + uptoBulkAll r
def uptoBulkEntries {H : Type} : List (Lit × DataW H) → Nat
  | [] => 0
  | x :: r => uptoBulkEntry x + uptoBulkEntries r
def uptoBulkEntry {H : Type} : Lit × DataW H → Nat
  | (.string bytes, d) => bytes.length + uptoBulk d + 1
  | (_, d) => uptoBulk d + 1
 end
def uptoSmall : (H : Type) → List (DataW H) → Bool := fun _ ds => decide (uptoBulkAll ds ≤ 1048576)
def OpenSpec.upto (s : _root_.Go.ChangeSpec) : _root_.Go.OpenSpec := { _root_.Go.OpenSpec.ofChange s with cond := some uptoSmall }

/-- 'tannoylaw42.RoomContinuous', WHERE WHAT IT READS IS OF BULK AT MOST 1048576: true; the input reads as it did. -/
def roomContinuousUptoRow : OpenClaim := { program := "ytibpegmighopbaagreatdoor", sum := "9d7d22d59b8c87bc31190002fa2c534aa7684dcfbd27ccc75a750555b238b393", func := "tannoy/tannoylaw42.RoomContinuous", spec := "roomContinuous", inPlace := ["internal/bytealg.IndexByteString", "internal/bytealg.IndexString", "slices.overlaps[tannoy/api.Tap]"], unfollowed := true, recurses := true, named := ["unicode/utf8.first", "unicode/utf8.acceptRanges", "internal/bytealg.MaxLen"], plainKeys := false, apart := false, laid := [("unicode/utf8.acceptRanges", laid_unicode_utf8_acceptRanges), ("unicode/utf8.first", laid_unicode_utf8_first)], narrowed := true }
def RoomContinuousUptoSaid : Prop := roomContinuousUptoRow.holds Tryz.pinned (OpenSpec.upto roomContinuousSpec)

/-- 'tannoylaw42.RoomKnown', WHERE WHAT IT READS IS OF BULK AT MOST 1048576: true; the input reads as it did. -/
def roomKnownUptoRow : OpenClaim := { program := "ytibpegmighopbaagreatdoor", sum := "9d7d22d59b8c87bc31190002fa2c534aa7684dcfbd27ccc75a750555b238b393", func := "tannoy/tannoylaw42.RoomKnown", spec := "roomKnown", inPlace := ["internal/bytealg.IndexByteString", "internal/bytealg.IndexString", "slices.overlaps[tannoy/api.Tap]", "internal/abi.NoEscape", "internal/bytealg.MakeNoZero"], unfollowed := true, recurses := true, named := ["unicode/utf8.first", "unicode/utf8.acceptRanges", "internal/bytealg.MaxLen"], plainKeys := false, apart := false, laid := [("unicode/utf8.acceptRanges", laid_unicode_utf8_acceptRanges), ("unicode/utf8.first", laid_unicode_utf8_first)], narrowed := true }
def RoomKnownUptoSaid : Prop := roomKnownUptoRow.holds Tryz.pinned (OpenSpec.upto roomKnownSpec)

/-- 'tannoylaw42.RoomChooses', WHERE WHAT IT READS IS OF BULK AT MOST 1048576: true; the input reads as it did. -/
def roomChoosesUptoRow : OpenClaim := { program := "ytibpegmighopbaagreatdoor", sum := "9d7d22d59b8c87bc31190002fa2c534aa7684dcfbd27ccc75a750555b238b393", func := "tannoy/tannoylaw42.RoomChooses", spec := "roomChooses", inPlace := ["internal/bytealg.IndexByteString", "internal/bytealg.IndexString", "slices.overlaps[tannoy/api.Tap]"], unfollowed := true, recurses := true, named := ["unicode/utf8.first", "unicode/utf8.acceptRanges", "internal/bytealg.MaxLen"], plainKeys := false, apart := false, laid := [("unicode/utf8.acceptRanges", laid_unicode_utf8_acceptRanges), ("unicode/utf8.first", laid_unicode_utf8_first)], narrowed := true }
def RoomChoosesUptoSaid : Prop := roomChoosesUptoRow.holds Tryz.pinned (OpenSpec.upto roomChoosesSpec)

/-- 'tannoylaw42.RoomPushes', WHERE WHAT IT READS IS OF BULK AT MOST 1048576: true; the input reads as it did. -/
def roomPushesUptoRow : OpenClaim := { program := "ytibpegmighopbaagreatdoor", sum := "9d7d22d59b8c87bc31190002fa2c534aa7684dcfbd27ccc75a750555b238b393", func := "tannoy/tannoylaw42.RoomPushes", spec := "roomPushes", inPlace := ["internal/bytealg.IndexByteString", "internal/bytealg.IndexString", "slices.overlaps[tannoy/api.Tap]"], unfollowed := true, recurses := true, named := ["unicode/utf8.first", "unicode/utf8.acceptRanges", "internal/bytealg.MaxLen"], plainKeys := false, apart := false, laid := [("unicode/utf8.acceptRanges", laid_unicode_utf8_acceptRanges), ("unicode/utf8.first", laid_unicode_utf8_first)], narrowed := true }
def RoomPushesUptoSaid : Prop := roomPushesUptoRow.holds Tryz.pinned (OpenSpec.upto roomPushesSpec)

/-- 'tannoylaw42.RoomBest', WHERE WHAT IT READS IS OF BULK AT MOST 1048576: true; the input reads as it did. -/
def roomBestUptoRow : OpenClaim := { program := "ytibpegmighopbaagreatdoor", sum := "9d7d22d59b8c87bc31190002fa2c534aa7684dcfbd27ccc75a750555b238b393", func := "tannoy/tannoylaw42.RoomBest", spec := "roomBest", inPlace := ["internal/bytealg.IndexByteString", "internal/bytealg.IndexString", "slices.overlaps[tannoy/api.Tap]"], unfollowed := true, recurses := true, named := ["unicode/utf8.first", "unicode/utf8.acceptRanges", "internal/bytealg.MaxLen"], plainKeys := false, apart := false, laid := [("unicode/utf8.acceptRanges", laid_unicode_utf8_acceptRanges), ("unicode/utf8.first", laid_unicode_utf8_first)], narrowed := true }
def RoomBestUptoSaid : Prop := roomBestUptoRow.holds Tryz.pinned (OpenSpec.upto roomBestSpec)

/-- 'tannoylaw42.RoomAlone', WHERE WHAT IT READS IS OF BULK AT MOST 1048576: true; the input reads as it did. -/
def roomAloneUptoRow : OpenClaim := { program := "ytibpegmighopbaagreatdoor", sum := "9d7d22d59b8c87bc31190002fa2c534aa7684dcfbd27ccc75a750555b238b393", func := "tannoy/tannoylaw42.RoomAlone", spec := "roomAlone", inPlace := ["internal/bytealg.IndexByteString", "internal/bytealg.IndexString", "slices.overlaps[tannoy/api.Tap]"], unfollowed := true, recurses := true, named := ["unicode/utf8.first", "unicode/utf8.acceptRanges", "internal/bytealg.MaxLen"], plainKeys := false, apart := false, laid := [("unicode/utf8.acceptRanges", laid_unicode_utf8_acceptRanges), ("unicode/utf8.first", laid_unicode_utf8_first)], narrowed := true }
def RoomAloneUptoSaid : Prop := roomAloneUptoRow.holds Tryz.pinned (OpenSpec.upto roomAloneSpec)

/-- 'tannoylaw42.RoomChanges', WHERE WHAT IT READS IS OF BULK AT MOST 1048576: true; the input reads as it did. -/
def roomChangesUptoRow : OpenClaim := { program := "ytibpegmighopbaagreatdoor", sum := "9d7d22d59b8c87bc31190002fa2c534aa7684dcfbd27ccc75a750555b238b393", func := "tannoy/tannoylaw42.RoomChanges", spec := "roomChanges", inPlace := ["internal/bytealg.IndexByteString", "internal/bytealg.IndexString", "slices.overlaps[tannoy/api.Tap]"], unfollowed := true, recurses := true, named := ["unicode/utf8.first", "unicode/utf8.acceptRanges", "internal/bytealg.MaxLen"], plainKeys := false, apart := false, laid := [("unicode/utf8.acceptRanges", laid_unicode_utf8_acceptRanges), ("unicode/utf8.first", laid_unicode_utf8_first)], narrowed := true }
def RoomChangesUptoSaid : Prop := roomChangesUptoRow.holds Tryz.pinned (OpenSpec.upto roomChangesSpec)

end Rows
end Go.Proofs.YtibpegmighopbaaGreatDoor
