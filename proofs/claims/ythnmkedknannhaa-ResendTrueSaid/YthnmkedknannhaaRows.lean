/-
  No cell of these rows narrows 'for every input' (looked for: loops, veiled, ifaces, maps, wideKeys, modest, calm, conditions, laid).
  DERIVED. THE GIVEN ROWS OF THIS SEAT. 6 by the template 'for every input the law returns true; each argument reads behind the call as it read before'; 0 by the template 'total and deterministic' (their statements: YthnmkedknannhaaTotals.lean).
  GIVEN WITH THE SEED: the statements are not yours to turn. If you find one false, say at which input.
  Laid BY PROGRAM, IN A SANDBOX (cutbox-rows.mjs): the forced cells as the released guide's own fill.sh prints them over the translation cc0338abfbd48bae… (all of the seat's roots in one cut). By AI agents, Wed Nov 11 2026. No macro, syntax, notation, axiom, sorry.
-/
import Derived.Test.YthnmkedknannhaaChecked
import GoSem.Claim
import GoSem.ClaimJoined
import GoSem.ClaimMapViews
import Derived.JoinedTies
import Derived.KernelRfl
namespace Go.Proofs.Ythnmkedknannhaa
/- THE CELL 'sum', in the pinned program and in every row, IS THE sha256 OF THE DUMP (.gsa) THAT YthnmkedknannhaaProg.lean LOADS. Nothing in Lean hashes anything: it is a label: what it is worth is what the hold of that sum in a sandbox is worth. -/
noncomputable def Try.pinned : Pinned := { name := "ythnmkedknannhaa", sum := "cc0338abfbd48bae78af93e7f07fa26bf2be723784335dc7da85efd42fcb4f24", checked := Try.checked }
namespace Rows
def none {H : Type} : Left H := { results := [], args := [] }

/-- 'tannoylaw28.ResendSees': WHATEVER THE INPUT: true; the input reads as it did. -/
def resendSeesSpec : ChangeSpec := { name := "resendSees", fn := fun _ => fun
  | [d1, d2, d3, d4, d5, d6] => { results := [.lit (.bool true)], args := [d1, d2, d3, d4, d5, d6] }
  | _ => none }
def resendSeesRow : OpenClaim := { program := "ythnmkedknannhaa", sum := "cc0338abfbd48bae78af93e7f07fa26bf2be723784335dc7da85efd42fcb4f24", func := "tannoy/tannoylaw28.ResendSees", spec := "resendSees", unfollowed := true, recurses := true, apart := false }
def ResendSeesSaid : Prop := resendSeesRow.holds Try.pinned (OpenSpec.ofChange resendSeesSpec)

/-- ITS FALSE NEIGHBOUR: 'it returns false'. Refute it at one input. -/
def resendSeesWrong : ChangeSpec := { name := "resendSees", fn := fun _ => fun
  | [d1, d2, d3, d4, d5, d6] => { results := [.lit (.bool false)], args := [d1, d2, d3, d4, d5, d6] }
  | _ => none }
def ResendSeesWrongFalsely : Prop := resendSeesRow.holds Try.pinned (OpenSpec.ofChange resendSeesWrong)

/-- 'tannoylaw28.ResendAsks': WHATEVER THE INPUT: true; the input reads as it did. -/
def resendAsksSpec : ChangeSpec := { name := "resendAsks", fn := fun _ => fun
  | [d1, d2, d3, d4, d5] => { results := [.lit (.bool true)], args := [d1, d2, d3, d4, d5] }
  | _ => none }
def resendAsksRow : OpenClaim := { program := "ythnmkedknannhaa", sum := "cc0338abfbd48bae78af93e7f07fa26bf2be723784335dc7da85efd42fcb4f24", func := "tannoy/tannoylaw28.ResendAsks", spec := "resendAsks", unfollowed := true, recurses := true, apart := false }
def ResendAsksSaid : Prop := resendAsksRow.holds Try.pinned (OpenSpec.ofChange resendAsksSpec)

/-- ITS FALSE NEIGHBOUR: 'it returns false'. Refute it at one input. -/
def resendAsksWrong : ChangeSpec := { name := "resendAsks", fn := fun _ => fun
  | [d1, d2, d3, d4, d5] => { results := [.lit (.bool false)], args := [d1, d2, d3, d4, d5] }
  | _ => none }
def ResendAsksWrongFalsely : Prop := resendAsksRow.holds Try.pinned (OpenSpec.ofChange resendAsksWrong)

/-- 'tannoylaw28.ResendKnown': WHATEVER THE INPUT: true; the input reads as it did. -/
def resendKnownSpec : ChangeSpec := { name := "resendKnown", fn := fun _ => fun
  | [] => { results := [.lit (.bool true)], args := [] }
  | _ => none }
def resendKnownRow : OpenClaim := { program := "ythnmkedknannhaa", sum := "cc0338abfbd48bae78af93e7f07fa26bf2be723784335dc7da85efd42fcb4f24", func := "tannoy/tannoylaw28.ResendKnown", spec := "resendKnown", unfollowed := true, recurses := true, apart := false }
def ResendKnownSaid : Prop := resendKnownRow.holds Try.pinned (OpenSpec.ofChange resendKnownSpec)

/-- ITS FALSE NEIGHBOUR: 'it returns false'. Refute it at one input. -/
def resendKnownWrong : ChangeSpec := { name := "resendKnown", fn := fun _ => fun
  | [] => { results := [.lit (.bool false)], args := [] }
  | _ => none }
def ResendKnownWrongFalsely : Prop := resendKnownRow.holds Try.pinned (OpenSpec.ofChange resendKnownWrong)

/-- 'tannoylaw28.ResendOnce': WHATEVER THE INPUT: true; the input reads as it did. -/
def resendOnceSpec : ChangeSpec := { name := "resendOnce", fn := fun _ => fun
  | [d] => { results := [.lit (.bool true)], args := [d] }
  | _ => none }
def resendOnceRow : OpenClaim := { program := "ythnmkedknannhaa", sum := "cc0338abfbd48bae78af93e7f07fa26bf2be723784335dc7da85efd42fcb4f24", func := "tannoy/tannoylaw28.ResendOnce", spec := "resendOnce", unfollowed := true, recurses := true, apart := false }
def ResendOnceSaid : Prop := resendOnceRow.holds Try.pinned (OpenSpec.ofChange resendOnceSpec)

/-- ITS FALSE NEIGHBOUR: 'it returns false'. Refute it at one input. -/
def resendOnceWrong : ChangeSpec := { name := "resendOnce", fn := fun _ => fun
  | [d] => { results := [.lit (.bool false)], args := [d] }
  | _ => none }
def ResendOnceWrongFalsely : Prop := resendOnceRow.holds Try.pinned (OpenSpec.ofChange resendOnceWrong)

/-- 'tannoylaw28.ResendTrue': WHATEVER THE INPUT: true; the input reads as it did. -/
def resendTrueSpec : ChangeSpec := { name := "resendTrue", fn := fun _ => fun
  | [d1, d2] => { results := [.lit (.bool true)], args := [d1, d2] }
  | _ => none }
def resendTrueRow : OpenClaim := { program := "ythnmkedknannhaa", sum := "cc0338abfbd48bae78af93e7f07fa26bf2be723784335dc7da85efd42fcb4f24", func := "tannoy/tannoylaw28.ResendTrue", spec := "resendTrue", unfollowed := true, recurses := true, apart := false }
def ResendTrueSaid : Prop := resendTrueRow.holds Try.pinned (OpenSpec.ofChange resendTrueSpec)

/-- ITS FALSE NEIGHBOUR: 'it returns false'. Refute it at one input. -/
def resendTrueWrong : ChangeSpec := { name := "resendTrue", fn := fun _ => fun
  | [d1, d2] => { results := [.lit (.bool false)], args := [d1, d2] }
  | _ => none }
def ResendTrueWrongFalsely : Prop := resendTrueRow.holds Try.pinned (OpenSpec.ofChange resendTrueWrong)

/-- 'tannoylaw28.ResendAnswers': WHATEVER THE INPUT: true; the input reads as it did. -/
def resendAnswersSpec : ChangeSpec := { name := "resendAnswers", fn := fun _ => fun
  | [d1, d2, d3, d4, d5, d6] => { results := [.lit (.bool true)], args := [d1, d2, d3, d4, d5, d6] }
  | _ => none }
def resendAnswersRow : OpenClaim := { program := "ythnmkedknannhaa", sum := "cc0338abfbd48bae78af93e7f07fa26bf2be723784335dc7da85efd42fcb4f24", func := "tannoy/tannoylaw28.ResendAnswers", spec := "resendAnswers", unfollowed := true, recurses := true, apart := false }
def ResendAnswersSaid : Prop := resendAnswersRow.holds Try.pinned (OpenSpec.ofChange resendAnswersSpec)

/-- ITS FALSE NEIGHBOUR: 'it returns false'. Refute it at one input. -/
def resendAnswersWrong : ChangeSpec := { name := "resendAnswers", fn := fun _ => fun
  | [d1, d2, d3, d4, d5, d6] => { results := [.lit (.bool false)], args := [d1, d2, d3, d4, d5, d6] }
  | _ => none }
def ResendAnswersWrongFalsely : Prop := resendAnswersRow.holds Try.pinned (OpenSpec.ofChange resendAnswersWrong)

/- THE SECOND FORM. 'bulk': how many values and letters a reading holds, each counted each time it is reached (what is shared counts as often as it is met; a slice's spare places count too). A statement '..UptoSaid' is the law's where the arguments, and the package variables that the reading takes, are together of bulk at most 1048576: NARROWER than '..Said'. Prove '..Said' where nothing that the law and all that it calls make is longer than what came in: it says more and counts as full. Else prove '..UptoSaid'. A law counts once. -/
mutual
def uptoBulk {H : Type} : DataW H → Nat
  | .lit (.string bytes) => bytes.length + 1
  | .lit _ => 1
  | .nil => 1
  | .ptr d => uptoBulk d + 1
  | .slice elems spare => uptoBulkAll elems + uptoBulkAll spare + 1
  | .agg parts => uptoBulkAll parts + 1
  | .iface _ d => uptoBulk d + 1
  | .map entries => uptoBulkEntries entries + 1
  | .held _ => 1
def uptoBulkAll {H : Type} : List (DataW H) → Nat
  | [] => 0
  | d :: r => uptoBulk d + uptoBulkAll r
def uptoBulkEntries {H : Type} : List (Lit × DataW H) → Nat
  | [] => 0
  | x :: r => uptoBulkEntry x + uptoBulkEntries r
def uptoBulkEntry {H : Type} : Lit × DataW H → Nat
  | (.string bytes, d) => bytes.length + uptoBulk d + 1
  | (_, d) => uptoBulk d + 1
 end
def uptoSmall : (H : Type) → List (DataW H) → Bool := fun _ ds => decide (uptoBulkAll ds ≤ 1048576)
def OpenSpec.upto (s : _root_.Go.ChangeSpec) : _root_.Go.OpenSpec := { _root_.Go.OpenSpec.ofChange s with cond := some uptoSmall }

/-- 'tannoylaw28.ResendSees', WHERE WHAT IT READS IS OF BULK AT MOST 1048576: true; the input reads as it did. -/
def resendSeesUptoRow : OpenClaim := { program := "ythnmkedknannhaa", sum := "cc0338abfbd48bae78af93e7f07fa26bf2be723784335dc7da85efd42fcb4f24", func := "tannoy/tannoylaw28.ResendSees", spec := "resendSees", unfollowed := true, recurses := true, apart := false, narrowed := true }
def ResendSeesUptoSaid : Prop := resendSeesUptoRow.holds Try.pinned (OpenSpec.upto resendSeesSpec)

/-- 'tannoylaw28.ResendAsks', WHERE WHAT IT READS IS OF BULK AT MOST 1048576: true; the input reads as it did. -/
def resendAsksUptoRow : OpenClaim := { program := "ythnmkedknannhaa", sum := "cc0338abfbd48bae78af93e7f07fa26bf2be723784335dc7da85efd42fcb4f24", func := "tannoy/tannoylaw28.ResendAsks", spec := "resendAsks", unfollowed := true, recurses := true, apart := false, narrowed := true }
def ResendAsksUptoSaid : Prop := resendAsksUptoRow.holds Try.pinned (OpenSpec.upto resendAsksSpec)

/-- 'tannoylaw28.ResendKnown', WHERE WHAT IT READS IS OF BULK AT MOST 1048576: true; the input reads as it did. -/
def resendKnownUptoRow : OpenClaim := { program := "ythnmkedknannhaa", sum := "cc0338abfbd48bae78af93e7f07fa26bf2be723784335dc7da85efd42fcb4f24", func := "tannoy/tannoylaw28.ResendKnown", spec := "resendKnown", unfollowed := true, recurses := true, apart := false, narrowed := true }
def ResendKnownUptoSaid : Prop := resendKnownUptoRow.holds Try.pinned (OpenSpec.upto resendKnownSpec)

/-- 'tannoylaw28.ResendOnce', WHERE WHAT IT READS IS OF BULK AT MOST 1048576: true; the input reads as it did. -/
def resendOnceUptoRow : OpenClaim := { program := "ythnmkedknannhaa", sum := "cc0338abfbd48bae78af93e7f07fa26bf2be723784335dc7da85efd42fcb4f24", func := "tannoy/tannoylaw28.ResendOnce", spec := "resendOnce", unfollowed := true, recurses := true, apart := false, narrowed := true }
def ResendOnceUptoSaid : Prop := resendOnceUptoRow.holds Try.pinned (OpenSpec.upto resendOnceSpec)

/-- 'tannoylaw28.ResendTrue', WHERE WHAT IT READS IS OF BULK AT MOST 1048576: true; the input reads as it did. -/
def resendTrueUptoRow : OpenClaim := { program := "ythnmkedknannhaa", sum := "cc0338abfbd48bae78af93e7f07fa26bf2be723784335dc7da85efd42fcb4f24", func := "tannoy/tannoylaw28.ResendTrue", spec := "resendTrue", unfollowed := true, recurses := true, apart := false, narrowed := true }
def ResendTrueUptoSaid : Prop := resendTrueUptoRow.holds Try.pinned (OpenSpec.upto resendTrueSpec)

/-- 'tannoylaw28.ResendAnswers', WHERE WHAT IT READS IS OF BULK AT MOST 1048576: true; the input reads as it did. -/
def resendAnswersUptoRow : OpenClaim := { program := "ythnmkedknannhaa", sum := "cc0338abfbd48bae78af93e7f07fa26bf2be723784335dc7da85efd42fcb4f24", func := "tannoy/tannoylaw28.ResendAnswers", spec := "resendAnswers", unfollowed := true, recurses := true, apart := false, narrowed := true }
def ResendAnswersUptoSaid : Prop := resendAnswersUptoRow.holds Try.pinned (OpenSpec.upto resendAnswersSpec)

end Rows
end Go.Proofs.Ythnmkedknannhaa
