/-
  No cell of these rows narrows 'for every input' (looked for: loops, veiled, ifaces, maps, wideKeys, modest, calm, conditions, laid).
  DERIVED. THE GIVEN ROWS OF THIS SEAT. 8 by the template 'for every input the law returns true; each argument reads behind the call as it read before'; 0 by the template 'total and deterministic' (their statements: YtiacdfhaopnekaaTotals.lean).
  GIVEN WITH THE SEED: the statements are not yours to turn. If you find one false, say at which input.
  Laid BY PROGRAM, IN A SANDBOX (cutbox-rows.mjs): the forced cells as the released guide's own fill.sh prints them over the translation 2a46e1a99029258d… (all of the seat's roots in one cut). By AI agents, Wed Nov 11 2026. No macro, syntax, notation, axiom, sorry.
-/
import Derived.Test.YtiacdfhaopnekaaChecked
import GoSem.Claim
import GoSem.ClaimJoined
import GoSem.ClaimMapViews
import Derived.JoinedTies
import Derived.KernelRfl
namespace Go.Proofs.Ytiacdfhaopnekaa
/- THE CELL 'sum', in the pinned program and in every row, IS THE sha256 OF THE DUMP (.gsa) THAT YtiacdfhaopnekaaProg.lean LOADS. Nothing in Lean hashes anything: it is a label: what it is worth is what the hold of that sum in a sandbox is worth. -/
noncomputable def Try.pinned : Pinned := { name := "ytiacdfhaopnekaa", sum := "2a46e1a99029258d69c38d7ea08c9f744284a27f5873eec0e3409141bba9f1c7", checked := Try.checked }
namespace Rows
def none {H : Type} : Left H := { results := [], args := [] }

/-- 'tannoylaw29.ArrivalAdds': WHATEVER THE INPUT: true; the input reads as it did. -/
def arrivalAddsSpec : ChangeSpec := { name := "arrivalAdds", fn := fun _ => fun
  | [d1, d2, d3, d4, d5, d6] => { results := [.lit (.bool true)], args := [d1, d2, d3, d4, d5, d6] }
  | _ => none }
def arrivalAddsRow : OpenClaim := { program := "ytiacdfhaopnekaa", sum := "2a46e1a99029258d69c38d7ea08c9f744284a27f5873eec0e3409141bba9f1c7", func := "tannoy/tannoylaw29.ArrivalAdds", spec := "arrivalAdds", unfollowed := true, recurses := true, apart := false }
def ArrivalAddsSaid : Prop := arrivalAddsRow.holds Try.pinned (OpenSpec.ofChange arrivalAddsSpec)

/-- ITS FALSE NEIGHBOUR: 'it returns false'. Refute it at one input. -/
def arrivalAddsWrong : ChangeSpec := { name := "arrivalAdds", fn := fun _ => fun
  | [d1, d2, d3, d4, d5, d6] => { results := [.lit (.bool false)], args := [d1, d2, d3, d4, d5, d6] }
  | _ => none }
def ArrivalAddsWrongFalsely : Prop := arrivalAddsRow.holds Try.pinned (OpenSpec.ofChange arrivalAddsWrong)

/-- 'tannoylaw29.ArrivalSteps': WHATEVER THE INPUT: true; the input reads as it did. -/
def arrivalStepsSpec : ChangeSpec := { name := "arrivalSteps", fn := fun _ => fun
  | [d] => { results := [.lit (.bool true)], args := [d] }
  | _ => none }
def arrivalStepsRow : OpenClaim := { program := "ytiacdfhaopnekaa", sum := "2a46e1a99029258d69c38d7ea08c9f744284a27f5873eec0e3409141bba9f1c7", func := "tannoy/tannoylaw29.ArrivalSteps", spec := "arrivalSteps", unfollowed := true, recurses := true, apart := false }
def ArrivalStepsSaid : Prop := arrivalStepsRow.holds Try.pinned (OpenSpec.ofChange arrivalStepsSpec)

/-- ITS FALSE NEIGHBOUR: 'it returns false'. Refute it at one input. -/
def arrivalStepsWrong : ChangeSpec := { name := "arrivalSteps", fn := fun _ => fun
  | [d] => { results := [.lit (.bool false)], args := [d] }
  | _ => none }
def ArrivalStepsWrongFalsely : Prop := arrivalStepsRow.holds Try.pinned (OpenSpec.ofChange arrivalStepsWrong)

/-- 'tannoylaw29.ArrivalLines': WHATEVER THE INPUT: true; the input reads as it did. -/
def arrivalLinesSpec : ChangeSpec := { name := "arrivalLines", fn := fun _ => fun
  | [d1, d2, d3] => { results := [.lit (.bool true)], args := [d1, d2, d3] }
  | _ => none }
def arrivalLinesRow : OpenClaim := { program := "ytiacdfhaopnekaa", sum := "2a46e1a99029258d69c38d7ea08c9f744284a27f5873eec0e3409141bba9f1c7", func := "tannoy/tannoylaw29.ArrivalLines", spec := "arrivalLines", unfollowed := true, recurses := true, apart := false }
def ArrivalLinesSaid : Prop := arrivalLinesRow.holds Try.pinned (OpenSpec.ofChange arrivalLinesSpec)

/-- ITS FALSE NEIGHBOUR: 'it returns false'. Refute it at one input. -/
def arrivalLinesWrong : ChangeSpec := { name := "arrivalLines", fn := fun _ => fun
  | [d1, d2, d3] => { results := [.lit (.bool false)], args := [d1, d2, d3] }
  | _ => none }
def ArrivalLinesWrongFalsely : Prop := arrivalLinesRow.holds Try.pinned (OpenSpec.ofChange arrivalLinesWrong)

/-- 'tannoylaw29.ArrivalCalm': WHATEVER THE INPUT: true; the input reads as it did. -/
def arrivalCalmSpec : ChangeSpec := { name := "arrivalCalm", fn := fun _ => fun
  | [d1, d2] => { results := [.lit (.bool true)], args := [d1, d2] }
  | _ => none }
def arrivalCalmRow : OpenClaim := { program := "ytiacdfhaopnekaa", sum := "2a46e1a99029258d69c38d7ea08c9f744284a27f5873eec0e3409141bba9f1c7", func := "tannoy/tannoylaw29.ArrivalCalm", spec := "arrivalCalm", unfollowed := true, recurses := true, apart := false }
def ArrivalCalmSaid : Prop := arrivalCalmRow.holds Try.pinned (OpenSpec.ofChange arrivalCalmSpec)

/-- ITS FALSE NEIGHBOUR: 'it returns false'. Refute it at one input. -/
def arrivalCalmWrong : ChangeSpec := { name := "arrivalCalm", fn := fun _ => fun
  | [d1, d2] => { results := [.lit (.bool false)], args := [d1, d2] }
  | _ => none }
def ArrivalCalmWrongFalsely : Prop := arrivalCalmRow.holds Try.pinned (OpenSpec.ofChange arrivalCalmWrong)

/-- 'tannoylaw29.ArrivalLater': WHATEVER THE INPUT: true; the input reads as it did. -/
def arrivalLaterSpec : ChangeSpec := { name := "arrivalLater", fn := fun _ => fun
  | [d1, d2] => { results := [.lit (.bool true)], args := [d1, d2] }
  | _ => none }
def arrivalLaterRow : OpenClaim := { program := "ytiacdfhaopnekaa", sum := "2a46e1a99029258d69c38d7ea08c9f744284a27f5873eec0e3409141bba9f1c7", func := "tannoy/tannoylaw29.ArrivalLater", spec := "arrivalLater", unfollowed := true, recurses := true, apart := false }
def ArrivalLaterSaid : Prop := arrivalLaterRow.holds Try.pinned (OpenSpec.ofChange arrivalLaterSpec)

/-- ITS FALSE NEIGHBOUR: 'it returns false'. Refute it at one input. -/
def arrivalLaterWrong : ChangeSpec := { name := "arrivalLater", fn := fun _ => fun
  | [d1, d2] => { results := [.lit (.bool false)], args := [d1, d2] }
  | _ => none }
def ArrivalLaterWrongFalsely : Prop := arrivalLaterRow.holds Try.pinned (OpenSpec.ofChange arrivalLaterWrong)

/-- 'tannoylaw29.ArrivalMoves': WHATEVER THE INPUT: true; the input reads as it did. -/
def arrivalMovesSpec : ChangeSpec := { name := "arrivalMoves", fn := fun _ => fun
  | [d1, d2, d3] => { results := [.lit (.bool true)], args := [d1, d2, d3] }
  | _ => none }
def arrivalMovesRow : OpenClaim := { program := "ytiacdfhaopnekaa", sum := "2a46e1a99029258d69c38d7ea08c9f744284a27f5873eec0e3409141bba9f1c7", func := "tannoy/tannoylaw29.ArrivalMoves", spec := "arrivalMoves", unfollowed := true, recurses := true, apart := false }
def ArrivalMovesSaid : Prop := arrivalMovesRow.holds Try.pinned (OpenSpec.ofChange arrivalMovesSpec)

/-- ITS FALSE NEIGHBOUR: 'it returns false'. Refute it at one input. -/
def arrivalMovesWrong : ChangeSpec := { name := "arrivalMoves", fn := fun _ => fun
  | [d1, d2, d3] => { results := [.lit (.bool false)], args := [d1, d2, d3] }
  | _ => none }
def ArrivalMovesWrongFalsely : Prop := arrivalMovesRow.holds Try.pinned (OpenSpec.ofChange arrivalMovesWrong)

/-- 'tannoylaw29.ArrivalStraight': WHATEVER THE INPUT: true; the input reads as it did. -/
def arrivalStraightSpec : ChangeSpec := { name := "arrivalStraight", fn := fun _ => fun
  | [d1, d2, d3, d4, d5] => { results := [.lit (.bool true)], args := [d1, d2, d3, d4, d5] }
  | _ => none }
def arrivalStraightRow : OpenClaim := { program := "ytiacdfhaopnekaa", sum := "2a46e1a99029258d69c38d7ea08c9f744284a27f5873eec0e3409141bba9f1c7", func := "tannoy/tannoylaw29.ArrivalStraight", spec := "arrivalStraight", unfollowed := true, recurses := true, apart := false }
def ArrivalStraightSaid : Prop := arrivalStraightRow.holds Try.pinned (OpenSpec.ofChange arrivalStraightSpec)

/-- ITS FALSE NEIGHBOUR: 'it returns false'. Refute it at one input. -/
def arrivalStraightWrong : ChangeSpec := { name := "arrivalStraight", fn := fun _ => fun
  | [d1, d2, d3, d4, d5] => { results := [.lit (.bool false)], args := [d1, d2, d3, d4, d5] }
  | _ => none }
def ArrivalStraightWrongFalsely : Prop := arrivalStraightRow.holds Try.pinned (OpenSpec.ofChange arrivalStraightWrong)

/-- 'tannoylaw29.ArrivalKnown': WHATEVER THE INPUT: true; the input reads as it did. -/
def arrivalKnownSpec : ChangeSpec := { name := "arrivalKnown", fn := fun _ => fun
  | [] => { results := [.lit (.bool true)], args := [] }
  | _ => none }
def arrivalKnownRow : OpenClaim := { program := "ytiacdfhaopnekaa", sum := "2a46e1a99029258d69c38d7ea08c9f744284a27f5873eec0e3409141bba9f1c7", func := "tannoy/tannoylaw29.ArrivalKnown", spec := "arrivalKnown", unfollowed := true, recurses := true, apart := false }
def ArrivalKnownSaid : Prop := arrivalKnownRow.holds Try.pinned (OpenSpec.ofChange arrivalKnownSpec)

/-- ITS FALSE NEIGHBOUR: 'it returns false'. Refute it at one input. -/
def arrivalKnownWrong : ChangeSpec := { name := "arrivalKnown", fn := fun _ => fun
  | [] => { results := [.lit (.bool false)], args := [] }
  | _ => none }
def ArrivalKnownWrongFalsely : Prop := arrivalKnownRow.holds Try.pinned (OpenSpec.ofChange arrivalKnownWrong)

/- THE SECOND FORM. 'bulk': how many values and letters a reading holds, each counted each time it is reached (what is shared counts as often as it is met; a slice's spare places count too). A statement '..UptoSaid' is the law's where the arguments, and the package variables that the reading takes, are together of bulk at most 1048576: NARROWER than '..Said'. Prove '..Said' where nothing that the law and all that it calls make is longer than what came in: it says more and counts as full. Else prove '..UptoSaid'. A law counts once. -/
mutual
def uptoBulk {H : Type} : DataW H → Nat
  | .lit (.string bytes) => bytes.length + 1
  | .lit _ => 1
  | .nil => 1
  | .ptr d => uptoBulk d + 1
  | .slice elems spare => uptoBulkAll elems + uptoBulkAll spare + 1
  | .agg parts => uptoBulkAll parts + 1
  | .iface _ d => uptoBulk d + 1
  | .map entries => uptoBulkEntries entries + 1
  | .held _ => 1
def uptoBulkAll {H : Type} : List (DataW H) → Nat
  | [] => 0
  | d :: r => uptoBulk d + uptoBulkAll r
def uptoBulkEntries {H : Type} : List (Lit × DataW H) → Nat
  | [] => 0
  | x :: r => uptoBulkEntry x + uptoBulkEntries r
def uptoBulkEntry {H : Type} : Lit × DataW H → Nat
  | (.string bytes, d) => bytes.length + uptoBulk d + 1
  | (_, d) => uptoBulk d + 1
 end
def uptoSmall : (H : Type) → List (DataW H) → Bool := fun _ ds => decide (uptoBulkAll ds ≤ 1048576)
def OpenSpec.upto (s : _root_.Go.ChangeSpec) : _root_.Go.OpenSpec := { _root_.Go.OpenSpec.ofChange s with cond := some uptoSmall }

/-- 'tannoylaw29.ArrivalAdds', WHERE WHAT IT READS IS OF BULK AT MOST 1048576: true; the input reads as it did. -/
def arrivalAddsUptoRow : OpenClaim := { program := "ytiacdfhaopnekaa", sum := "2a46e1a99029258d69c38d7ea08c9f744284a27f5873eec0e3409141bba9f1c7", func := "tannoy/tannoylaw29.ArrivalAdds", spec := "arrivalAdds", unfollowed := true, recurses := true, apart := false, narrowed := true }
def ArrivalAddsUptoSaid : Prop := arrivalAddsUptoRow.holds Try.pinned (OpenSpec.upto arrivalAddsSpec)

/-- 'tannoylaw29.ArrivalSteps', WHERE WHAT IT READS IS OF BULK AT MOST 1048576: true; the input reads as it did. -/
def arrivalStepsUptoRow : OpenClaim := { program := "ytiacdfhaopnekaa", sum := "2a46e1a99029258d69c38d7ea08c9f744284a27f5873eec0e3409141bba9f1c7", func := "tannoy/tannoylaw29.ArrivalSteps", spec := "arrivalSteps", unfollowed := true, recurses := true, apart := false, narrowed := true }
def ArrivalStepsUptoSaid : Prop := arrivalStepsUptoRow.holds Try.pinned (OpenSpec.upto arrivalStepsSpec)

/-- 'tannoylaw29.ArrivalLines', WHERE WHAT IT READS IS OF BULK AT MOST 1048576: true; the input reads as it did. -/
def arrivalLinesUptoRow : OpenClaim := { program := "ytiacdfhaopnekaa", sum := "2a46e1a99029258d69c38d7ea08c9f744284a27f5873eec0e3409141bba9f1c7", func := "tannoy/tannoylaw29.ArrivalLines", spec := "arrivalLines", unfollowed := true, recurses := true, apart := false, narrowed := true }
def ArrivalLinesUptoSaid : Prop := arrivalLinesUptoRow.holds Try.pinned (OpenSpec.upto arrivalLinesSpec)

/-- 'tannoylaw29.ArrivalCalm', WHERE WHAT IT READS IS OF BULK AT MOST 1048576: true; the input reads as it did. -/
def arrivalCalmUptoRow : OpenClaim := { program := "ytiacdfhaopnekaa", sum := "2a46e1a99029258d69c38d7ea08c9f744284a27f5873eec0e3409141bba9f1c7", func := "tannoy/tannoylaw29.ArrivalCalm", spec := "arrivalCalm", unfollowed := true, recurses := true, apart := false, narrowed := true }
def ArrivalCalmUptoSaid : Prop := arrivalCalmUptoRow.holds Try.pinned (OpenSpec.upto arrivalCalmSpec)

/-- 'tannoylaw29.ArrivalLater', WHERE WHAT IT READS IS OF BULK AT MOST 1048576: true; the input reads as it did. -/
def arrivalLaterUptoRow : OpenClaim := { program := "ytiacdfhaopnekaa", sum := "2a46e1a99029258d69c38d7ea08c9f744284a27f5873eec0e3409141bba9f1c7", func := "tannoy/tannoylaw29.ArrivalLater", spec := "arrivalLater", unfollowed := true, recurses := true, apart := false, narrowed := true }
def ArrivalLaterUptoSaid : Prop := arrivalLaterUptoRow.holds Try.pinned (OpenSpec.upto arrivalLaterSpec)

/-- 'tannoylaw29.ArrivalMoves', WHERE WHAT IT READS IS OF BULK AT MOST 1048576: true; the input reads as it did. -/
def arrivalMovesUptoRow : OpenClaim := { program := "ytiacdfhaopnekaa", sum := "2a46e1a99029258d69c38d7ea08c9f744284a27f5873eec0e3409141bba9f1c7", func := "tannoy/tannoylaw29.ArrivalMoves", spec := "arrivalMoves", unfollowed := true, recurses := true, apart := false, narrowed := true }
def ArrivalMovesUptoSaid : Prop := arrivalMovesUptoRow.holds Try.pinned (OpenSpec.upto arrivalMovesSpec)

/-- 'tannoylaw29.ArrivalStraight', WHERE WHAT IT READS IS OF BULK AT MOST 1048576: true; the input reads as it did. -/
def arrivalStraightUptoRow : OpenClaim := { program := "ytiacdfhaopnekaa", sum := "2a46e1a99029258d69c38d7ea08c9f744284a27f5873eec0e3409141bba9f1c7", func := "tannoy/tannoylaw29.ArrivalStraight", spec := "arrivalStraight", unfollowed := true, recurses := true, apart := false, narrowed := true }
def ArrivalStraightUptoSaid : Prop := arrivalStraightUptoRow.holds Try.pinned (OpenSpec.upto arrivalStraightSpec)

/-- 'tannoylaw29.ArrivalKnown', WHERE WHAT IT READS IS OF BULK AT MOST 1048576: true; the input reads as it did. -/
def arrivalKnownUptoRow : OpenClaim := { program := "ytiacdfhaopnekaa", sum := "2a46e1a99029258d69c38d7ea08c9f744284a27f5873eec0e3409141bba9f1c7", func := "tannoy/tannoylaw29.ArrivalKnown", spec := "arrivalKnown", unfollowed := true, recurses := true, apart := false, narrowed := true }
def ArrivalKnownUptoSaid : Prop := arrivalKnownUptoRow.holds Try.pinned (OpenSpec.upto arrivalKnownSpec)

end Rows
end Go.Proofs.Ytiacdfhaopnekaa
