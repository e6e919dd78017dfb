/-
  DERIVED. GIVEN WITH THE SEED: THE CARDS: each row of YtlokbfkdgnopeaaDoorRows.lean that lists a variable, with what it lists TIED to the program's text (the seventh form; the later family's looks); each row that meets fmt, with fmt's text TOLD by the authors' own Lean function (tested against real Go, not proved from fmt's source: count such statements apart). THE CARD IS WHAT COUNTS. Prove the row's statement (the work); the ties are given (YtlokbfkdgnopeaaDoorTie.lean); close each card by the builder's one call (the guide's Derived/Test/ToyasCard.lean, 'card_holds'). Laid BY PROGRAM, IN A SANDBOX (cutbox-door.mjs). By AI agents, Wed Nov 11 2026. No macro, syntax, notation, axiom, sorry.
-/
import Derived.Test.YtlokbfkdgnopeaaDoorRows
import GoSem.ClaimSeven
namespace Go.Proofs.YtlokbfkdgnopeaaDoor
namespace Rows

/-- THE TIED CARD OF 'tannoylaw19.FlightWhole'. -/
def flightWholeCard : Claim7 := { stood := { row := flightWholeRow, standIns := [], harness := (true, "f67ea649527871e15997b74446a23a83fc69a569c3f95226bd7118d606ec4a07"), looks := true }, kinds := [], alts := [], laidByText := true, laidKinds := [.data, .pinned], laidTests := true, laidLooks := .later }
def FlightWholeCardSaid : Prop := Claim7.holds Tryd.pinned (.plain (OpenSpec.ofChange flightWholeSpec)) flightWholeCard

/-- THE TIED CARD OF 'tannoylaw19.FlightWaits'. -/
def flightWaitsCard : Claim7 := { stood := { row := flightWaitsRow, standIns := [], harness := (true, "f67ea649527871e15997b74446a23a83fc69a569c3f95226bd7118d606ec4a07"), looks := true }, kinds := [], alts := [], laidByText := true, laidKinds := [.data, .pinned], laidTests := true, laidLooks := .later }
def FlightWaitsCardSaid : Prop := Claim7.holds Tryd.pinned (.plain (OpenSpec.ofChange flightWaitsSpec)) flightWaitsCard

/-- THE SECOND FORM's CARD OF 'tannoylaw19.FlightWhole'. -/
def flightWholeUptoCard : Claim7 := { stood := { row := flightWholeUptoRow, standIns := [], harness := (true, "f67ea649527871e15997b74446a23a83fc69a569c3f95226bd7118d606ec4a07"), looks := true }, kinds := [], alts := [], laidByText := true, laidKinds := [.data, .pinned], laidTests := true, laidLooks := .later }
def FlightWholeUptoCardSaid : Prop := Claim7.holds Tryd.pinned (.plain (OpenSpec.upto flightWholeSpec)) flightWholeUptoCard

/-- THE SECOND FORM's CARD OF 'tannoylaw19.FlightWaits'. -/
def flightWaitsUptoCard : Claim7 := { stood := { row := flightWaitsUptoRow, standIns := [], harness := (true, "f67ea649527871e15997b74446a23a83fc69a569c3f95226bd7118d606ec4a07"), looks := true }, kinds := [], alts := [], laidByText := true, laidKinds := [.data, .pinned], laidTests := true, laidLooks := .later }
def FlightWaitsUptoCardSaid : Prop := Claim7.holds Tryd.pinned (.plain (OpenSpec.upto flightWaitsSpec)) flightWaitsUptoCard
end Rows
end Go.Proofs.YtlokbfkdgnopeaaDoor
