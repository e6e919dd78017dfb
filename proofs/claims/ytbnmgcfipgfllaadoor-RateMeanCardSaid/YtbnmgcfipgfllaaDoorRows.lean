/-
  NARROWER THAN 'FOR EVERY INPUT', by the rows' own cells (each row's printed sentence says how): RateBounds: laid · RateReports: laid · RateLosses: laid · RateKeeps: laid · RateRises: laid · RateMean: laid · RateKnown: laid.
  DERIVED. THE GIVEN ROWS OF THIS SEAT. 7 by the template 'for every input the law returns true; each argument reads behind the call as it read before'; 0 by the template 'total and deterministic' (their statements: YtbnmgcfipgfllaaDoorTotals.lean).
  GIVEN WITH THE SEED: the statements are not yours to turn. If you find one false, say at which input.
  Laid BY PROGRAM, IN A SANDBOX (cutbox-rows.mjs): the forced cells as the released guide's own fill.sh prints them over the translation 213b7cc0d1dfc4f8… (all of the seat's roots in one cut). By AI agents, Wed Nov 11 2026. No macro, syntax, notation, axiom, sorry.
-/
import Derived.Test.YtbnmgcfipgfllaaDoorChecked
import GoSem.Claim
import GoSem.ClaimJoined
import GoSem.ClaimMapViews
import Derived.JoinedTies
import Derived.KernelRfl
namespace Go.Proofs.YtbnmgcfipgfllaaDoor
/- THE CELL 'sum', in the pinned program and in every row, IS THE sha256 OF THE DUMP (.gsa) THAT YtbnmgcfipgfllaaDoorProg.lean LOADS. Nothing in Lean hashes anything: it is a label: what it is worth is what the hold of that sum in a sandbox is worth. -/
noncomputable def Tryd.pinned : Pinned := { name := "ytbnmgcfipgfllaadoor", sum := "213b7cc0d1dfc4f8bbb25fd9262f75a85553c9268011ef4035916530cf7e71cc", checked := Tryd.checked }
namespace Rows
def none {H : Type} : Left H := { results := [], args := [] }

/- WHAT THE LISTED PACKAGE-LEVEL VARIABLES READ AS WHEN THE CALL BEGINS. Each datum BY PROGRAM (the guide's laid-datum.mjs) off the statement by which the dump's own 'gosem.cut.vars' lays the variable. In a bare row this is a premise. The card (YtbnmgcfipgfllaaDoorCards.lean) ties it to the program's text. -/
def laid_tannoy_rate_trends {H : Type} : DataW H := .iface "func table" (.agg [.iface "func" (.lit (.string [40, 42, 116, 97, 110, 110, 111, 121, 47, 114, 97, 116, 101, 46, 99, 104, 97, 110, 103, 101, 41, 46, 110, 111, 114, 109, 97, 108])), .iface "func" (.lit (.string [40, 42, 116, 97, 110, 110, 111, 121, 47, 114, 97, 116, 101, 46, 99, 104, 97, 110, 103, 101, 41, 46, 111, 118, 101, 114])), .iface "func" (.lit (.string [40, 42, 116, 97, 110, 110, 111, 121, 47, 114, 97, 116, 101, 46, 99, 104, 97, 110, 103, 101, 41, 46, 117, 110, 100, 101, 114]))])

/-- 'tannoylaw30.RateBounds': WHATEVER THE INPUT: true; the input reads as it did. -/
def rateBoundsSpec : ChangeSpec := { name := "rateBounds", fn := fun _ => fun
  | [d1, d2, d3, d4, d5] => { results := [.lit (.bool true)], args := [d1, d2, d3, d4, d5] }
  | _ => none }
def rateBoundsRow : OpenClaim := { program := "ytbnmgcfipgfllaadoor", sum := "213b7cc0d1dfc4f8bbb25fd9262f75a85553c9268011ef4035916530cf7e71cc", func := "tannoy/tannoylaw30.RateBounds", spec := "rateBounds", unfollowed := true, recurses := true, named := ["tannoy/rate.trends"], apart := false, laid := [("tannoy/rate.trends", laid_tannoy_rate_trends)] }
def RateBoundsSaid : Prop := rateBoundsRow.holds Tryd.pinned (OpenSpec.ofChange rateBoundsSpec)

/-- ITS FALSE NEIGHBOUR: 'it returns false'. Refute it at one input. -/
def rateBoundsWrong : ChangeSpec := { name := "rateBounds", fn := fun _ => fun
  | [d1, d2, d3, d4, d5] => { results := [.lit (.bool false)], args := [d1, d2, d3, d4, d5] }
  | _ => none }
def RateBoundsWrongFalsely : Prop := rateBoundsRow.holds Tryd.pinned (OpenSpec.ofChange rateBoundsWrong)

/-- 'tannoylaw30.RateReports': WHATEVER THE INPUT: true; the input reads as it did. -/
def rateReportsSpec : ChangeSpec := { name := "rateReports", fn := fun _ => fun
  | [d1, d2, d3, d4, d5] => { results := [.lit (.bool true)], args := [d1, d2, d3, d4, d5] }
  | _ => none }
def rateReportsRow : OpenClaim := { program := "ytbnmgcfipgfllaadoor", sum := "213b7cc0d1dfc4f8bbb25fd9262f75a85553c9268011ef4035916530cf7e71cc", func := "tannoy/tannoylaw30.RateReports", spec := "rateReports", unfollowed := true, recurses := true, named := ["tannoy/rate.trends"], apart := false, laid := [("tannoy/rate.trends", laid_tannoy_rate_trends)] }
def RateReportsSaid : Prop := rateReportsRow.holds Tryd.pinned (OpenSpec.ofChange rateReportsSpec)

/-- ITS FALSE NEIGHBOUR: 'it returns false'. Refute it at one input. -/
def rateReportsWrong : ChangeSpec := { name := "rateReports", fn := fun _ => fun
  | [d1, d2, d3, d4, d5] => { results := [.lit (.bool false)], args := [d1, d2, d3, d4, d5] }
  | _ => none }
def RateReportsWrongFalsely : Prop := rateReportsRow.holds Tryd.pinned (OpenSpec.ofChange rateReportsWrong)

/-- 'tannoylaw30.RateLosses': WHATEVER THE INPUT: true; the input reads as it did. -/
def rateLossesSpec : ChangeSpec := { name := "rateLosses", fn := fun _ => fun
  | [d1, d2, d3, d4, d5] => { results := [.lit (.bool true)], args := [d1, d2, d3, d4, d5] }
  | _ => none }
def rateLossesRow : OpenClaim := { program := "ytbnmgcfipgfllaadoor", sum := "213b7cc0d1dfc4f8bbb25fd9262f75a85553c9268011ef4035916530cf7e71cc", func := "tannoy/tannoylaw30.RateLosses", spec := "rateLosses", unfollowed := true, recurses := true, named := ["tannoy/rate.trends"], apart := false, laid := [("tannoy/rate.trends", laid_tannoy_rate_trends)] }
def RateLossesSaid : Prop := rateLossesRow.holds Tryd.pinned (OpenSpec.ofChange rateLossesSpec)

/-- ITS FALSE NEIGHBOUR: 'it returns false'. Refute it at one input. -/
def rateLossesWrong : ChangeSpec := { name := "rateLosses", fn := fun _ => fun
  | [d1, d2, d3, d4, d5] => { results := [.lit (.bool false)], args := [d1, d2, d3, d4, d5] }
  | _ => none }
def RateLossesWrongFalsely : Prop := rateLossesRow.holds Tryd.pinned (OpenSpec.ofChange rateLossesWrong)

/-- 'tannoylaw30.RateKeeps': WHATEVER THE INPUT: true; the input reads as it did. -/
def rateKeepsSpec : ChangeSpec := { name := "rateKeeps", fn := fun _ => fun
  | [d] => { results := [.lit (.bool true)], args := [d] }
  | _ => none }
def rateKeepsRow : OpenClaim := { program := "ytbnmgcfipgfllaadoor", sum := "213b7cc0d1dfc4f8bbb25fd9262f75a85553c9268011ef4035916530cf7e71cc", func := "tannoy/tannoylaw30.RateKeeps", spec := "rateKeeps", unfollowed := true, recurses := true, named := ["tannoy/rate.trends"], apart := false, laid := [("tannoy/rate.trends", laid_tannoy_rate_trends)] }
def RateKeepsSaid : Prop := rateKeepsRow.holds Tryd.pinned (OpenSpec.ofChange rateKeepsSpec)

/-- ITS FALSE NEIGHBOUR: 'it returns false'. Refute it at one input. -/
def rateKeepsWrong : ChangeSpec := { name := "rateKeeps", fn := fun _ => fun
  | [d] => { results := [.lit (.bool false)], args := [d] }
  | _ => none }
def RateKeepsWrongFalsely : Prop := rateKeepsRow.holds Tryd.pinned (OpenSpec.ofChange rateKeepsWrong)

/-- 'tannoylaw30.RateRises': WHATEVER THE INPUT: true; the input reads as it did. -/
def rateRisesSpec : ChangeSpec := { name := "rateRises", fn := fun _ => fun
  | [d1, d2] => { results := [.lit (.bool true)], args := [d1, d2] }
  | _ => none }
def rateRisesRow : OpenClaim := { program := "ytbnmgcfipgfllaadoor", sum := "213b7cc0d1dfc4f8bbb25fd9262f75a85553c9268011ef4035916530cf7e71cc", func := "tannoy/tannoylaw30.RateRises", spec := "rateRises", unfollowed := true, recurses := true, named := ["tannoy/rate.trends"], apart := false, laid := [("tannoy/rate.trends", laid_tannoy_rate_trends)] }
def RateRisesSaid : Prop := rateRisesRow.holds Tryd.pinned (OpenSpec.ofChange rateRisesSpec)

/-- ITS FALSE NEIGHBOUR: 'it returns false'. Refute it at one input. -/
def rateRisesWrong : ChangeSpec := { name := "rateRises", fn := fun _ => fun
  | [d1, d2] => { results := [.lit (.bool false)], args := [d1, d2] }
  | _ => none }
def RateRisesWrongFalsely : Prop := rateRisesRow.holds Tryd.pinned (OpenSpec.ofChange rateRisesWrong)

/-- 'tannoylaw30.RateMean': WHATEVER THE INPUT: true; the input reads as it did. -/
def rateMeanSpec : ChangeSpec := { name := "rateMean", fn := fun _ => fun
  | [d1, d2, d3] => { results := [.lit (.bool true)], args := [d1, d2, d3] }
  | _ => none }
def rateMeanRow : OpenClaim := { program := "ytbnmgcfipgfllaadoor", sum := "213b7cc0d1dfc4f8bbb25fd9262f75a85553c9268011ef4035916530cf7e71cc", func := "tannoy/tannoylaw30.RateMean", spec := "rateMean", unfollowed := true, recurses := true, named := ["tannoy/rate.trends"], apart := false, laid := [("tannoy/rate.trends", laid_tannoy_rate_trends)] }
def RateMeanSaid : Prop := rateMeanRow.holds Tryd.pinned (OpenSpec.ofChange rateMeanSpec)

/-- ITS FALSE NEIGHBOUR: 'it returns false'. Refute it at one input. -/
def rateMeanWrong : ChangeSpec := { name := "rateMean", fn := fun _ => fun
  | [d1, d2, d3] => { results := [.lit (.bool false)], args := [d1, d2, d3] }
  | _ => none }
def RateMeanWrongFalsely : Prop := rateMeanRow.holds Tryd.pinned (OpenSpec.ofChange rateMeanWrong)

/-- 'tannoylaw30.RateKnown': WHATEVER THE INPUT: true; the input reads as it did. -/
def rateKnownSpec : ChangeSpec := { name := "rateKnown", fn := fun _ => fun
  | [] => { results := [.lit (.bool true)], args := [] }
  | _ => none }
def rateKnownRow : OpenClaim := { program := "ytbnmgcfipgfllaadoor", sum := "213b7cc0d1dfc4f8bbb25fd9262f75a85553c9268011ef4035916530cf7e71cc", func := "tannoy/tannoylaw30.RateKnown", spec := "rateKnown", unfollowed := true, recurses := true, named := ["tannoy/rate.trends"], apart := false, laid := [("tannoy/rate.trends", laid_tannoy_rate_trends)] }
def RateKnownSaid : Prop := rateKnownRow.holds Tryd.pinned (OpenSpec.ofChange rateKnownSpec)

/-- ITS FALSE NEIGHBOUR: 'it returns false'. Refute it at one input. -/
def rateKnownWrong : ChangeSpec := { name := "rateKnown", fn := fun _ => fun
  | [] => { results := [.lit (.bool false)], args := [] }
  | _ => none }
def RateKnownWrongFalsely : Prop := rateKnownRow.holds Tryd.pinned (OpenSpec.ofChange rateKnownWrong)

/- THE SECOND FORM. 'bulk': how many values and letters a reading holds, each counted each time it is reached (what is shared counts as often as it is met; a slice's spare places count too). A statement '..UptoSaid' is the law's where the arguments, and the package variables that the reading takes, are together of bulk at most 1048576: NARROWER than '..Said'. Prove '..Said' where nothing that the law and all that it calls make is longer than what came in: it says more and counts as full. Else prove '..UptoSaid'. A law counts once. -/
mutual
def uptoBulk {H : Type} : DataW H → Nat
  | .lit (.string bytes) => bytes.length + 1
  | .lit _ => 1
  | .nil => 1
  | .ptr d => uptoBulk d + 1
  | .slice elems spare => uptoBulkAll elems + uptoBulkAll spare + 1
  | .agg parts => uptoBulkAll parts + 1
  | .iface _ d => uptoBulk d + 1
  | .map entries => uptoBulkEntries entries + 1
  | .held _ => 1
def uptoBulkAll {H : Type} : List (DataW H) → Nat
  | [] => 0
  | d :: r => uptoBulk d + uptoBulkAll r
def uptoBulkEntries {H : Type} : List (Lit × DataW H) → Nat
  | [] => 0
  | x :: r => uptoBulkEntry x + uptoBulkEntries r
def uptoBulkEntry {H : Type} : Lit × DataW H → Nat
  | (.string bytes, d) => bytes.length + uptoBulk d + 1
  | (_, d) => uptoBulk d + 1
 end
def uptoSmall : (H : Type) → List (DataW H) → Bool := fun _ ds => decide (uptoBulkAll ds ≤ 1048576)
def OpenSpec.upto (s : _root_.Go.ChangeSpec) : _root_.Go.OpenSpec := { _root_.Go.OpenSpec.ofChange s with cond := some uptoSmall }

/-- 'tannoylaw30.RateBounds', WHERE WHAT IT READS IS OF BULK AT MOST 1048576: true; the input reads as it did. -/
def rateBoundsUptoRow : OpenClaim := { program := "ytbnmgcfipgfllaadoor", sum := "213b7cc0d1dfc4f8bbb25fd9262f75a85553c9268011ef4035916530cf7e71cc", func := "tannoy/tannoylaw30.RateBounds", spec := "rateBounds", unfollowed := true, recurses := true, named := ["tannoy/rate.trends"], apart := false, laid := [("tannoy/rate.trends", laid_tannoy_rate_trends)], narrowed := true }
def RateBoundsUptoSaid : Prop := rateBoundsUptoRow.holds Tryd.pinned (OpenSpec.upto rateBoundsSpec)

/-- 'tannoylaw30.RateReports', WHERE WHAT IT READS IS OF BULK AT MOST 1048576: true; the input reads as it did. -/
def rateReportsUptoRow : OpenClaim := { program := "ytbnmgcfipgfllaadoor", sum := "213b7cc0d1dfc4f8bbb25fd9262f75a85553c9268011ef4035916530cf7e71cc", func := "tannoy/tannoylaw30.RateReports", spec := "rateReports", unfollowed := true, recurses := true, named := ["tannoy/rate.trends"], apart := false, laid := [("tannoy/rate.trends", laid_tannoy_rate_trends)], narrowed := true }
def RateReportsUptoSaid : Prop := rateReportsUptoRow.holds Tryd.pinned (OpenSpec.upto rateReportsSpec)

/-- 'tannoylaw30.RateLosses', WHERE WHAT IT READS IS OF BULK AT MOST 1048576: true; the input reads as it did. -/
def rateLossesUptoRow : OpenClaim := { program := "ytbnmgcfipgfllaadoor", sum := "213b7cc0d1dfc4f8bbb25fd9262f75a85553c9268011ef4035916530cf7e71cc", func := "tannoy/tannoylaw30.RateLosses", spec := "rateLosses", unfollowed := true, recurses := true, named := ["tannoy/rate.trends"], apart := false, laid := [("tannoy/rate.trends", laid_tannoy_rate_trends)], narrowed := true }
def RateLossesUptoSaid : Prop := rateLossesUptoRow.holds Tryd.pinned (OpenSpec.upto rateLossesSpec)

/-- 'tannoylaw30.RateKeeps', WHERE WHAT IT READS IS OF BULK AT MOST 1048576: true; the input reads as it did. -/
def rateKeepsUptoRow : OpenClaim := { program := "ytbnmgcfipgfllaadoor", sum := "213b7cc0d1dfc4f8bbb25fd9262f75a85553c9268011ef4035916530cf7e71cc", func := "tannoy/tannoylaw30.RateKeeps", spec := "rateKeeps", unfollowed := true, recurses := true, named := ["tannoy/rate.trends"], apart := false, laid := [("tannoy/rate.trends", laid_tannoy_rate_trends)], narrowed := true }
def RateKeepsUptoSaid : Prop := rateKeepsUptoRow.holds Tryd.pinned (OpenSpec.upto rateKeepsSpec)

/-- 'tannoylaw30.RateRises', WHERE WHAT IT READS IS OF BULK AT MOST 1048576: true; the input reads as it did. -/
def rateRisesUptoRow : OpenClaim := { program := "ytbnmgcfipgfllaadoor", sum := "213b7cc0d1dfc4f8bbb25fd9262f75a85553c9268011ef4035916530cf7e71cc", func := "tannoy/tannoylaw30.RateRises", spec := "rateRises", unfollowed := true, recurses := true, named := ["tannoy/rate.trends"], apart := false, laid := [("tannoy/rate.trends", laid_tannoy_rate_trends)], narrowed := true }
def RateRisesUptoSaid : Prop := rateRisesUptoRow.holds Tryd.pinned (OpenSpec.upto rateRisesSpec)

/-- 'tannoylaw30.RateMean', WHERE WHAT IT READS IS OF BULK AT MOST 1048576: true; the input reads as it did. -/
def rateMeanUptoRow : OpenClaim := { program := "ytbnmgcfipgfllaadoor", sum := "213b7cc0d1dfc4f8bbb25fd9262f75a85553c9268011ef4035916530cf7e71cc", func := "tannoy/tannoylaw30.RateMean", spec := "rateMean", unfollowed := true, recurses := true, named := ["tannoy/rate.trends"], apart := false, laid := [("tannoy/rate.trends", laid_tannoy_rate_trends)], narrowed := true }
def RateMeanUptoSaid : Prop := rateMeanUptoRow.holds Tryd.pinned (OpenSpec.upto rateMeanSpec)

/-- 'tannoylaw30.RateKnown', WHERE WHAT IT READS IS OF BULK AT MOST 1048576: true; the input reads as it did. -/
def rateKnownUptoRow : OpenClaim := { program := "ytbnmgcfipgfllaadoor", sum := "213b7cc0d1dfc4f8bbb25fd9262f75a85553c9268011ef4035916530cf7e71cc", func := "tannoy/tannoylaw30.RateKnown", spec := "rateKnown", unfollowed := true, recurses := true, named := ["tannoy/rate.trends"], apart := false, laid := [("tannoy/rate.trends", laid_tannoy_rate_trends)], narrowed := true }
def RateKnownUptoSaid : Prop := rateKnownUptoRow.holds Tryd.pinned (OpenSpec.upto rateKnownSpec)

end Rows
end Go.Proofs.YtbnmgcfipgfllaaDoor
