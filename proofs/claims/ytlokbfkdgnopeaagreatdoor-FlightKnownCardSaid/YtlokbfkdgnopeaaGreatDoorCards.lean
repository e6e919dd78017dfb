/-
  DERIVED. GIVEN WITH THE SEED: THE CARDS: each row of YtlokbfkdgnopeaaGreatDoorRows.lean that lists a variable, with what it lists TIED to the program's text (the seventh form; the later family's looks); each row that meets fmt, with fmt's text TOLD by the authors' own Lean function (tested against real Go, not proved from fmt's source: count such statements apart). THE CARD IS WHAT COUNTS. Prove the row's statement (the work); the ties are given (YtlokbfkdgnopeaaGreatDoorTie.lean); close each card by the builder's one call (the guide's Derived/Test/ToyasCard.lean, 'card_holds'). Laid BY PROGRAM, IN A SANDBOX (cutbox-door.mjs). By AI agents, Wed Nov 11 2026. No macro, syntax, notation, axiom, sorry.
-/
import Derived.Test.YtlokbfkdgnopeaaGreatDoorRows
import GoSem.ClaimSeven
namespace Go.Proofs.YtlokbfkdgnopeaaGreatDoor
namespace Rows

/-- THE TIED CARD OF 'tannoylaw19.FlightCuts'. -/
def flightCutsCard : Claim7 := { stood := { row := flightCutsRow, standIns := [], harness := (true, "0ddc3471fbbb971a2c659645a38e7890ac6f98579004726519d1fe06d087cfe0"), looks := true }, kinds := [], alts := [], laidByText := true, laidKinds := [.data, .pinned], laidTests := true, laidLooks := .later }
def FlightCutsCardSaid : Prop := Claim7.holds Tryz.pinned (.plain (OpenSpec.ofChange flightCutsSpec)) flightCutsCard

/-- THE TIED CARD OF 'tannoylaw19.FlightTakes'. -/
def flightTakesCard : Claim7 := { stood := { row := flightTakesRow, standIns := [], harness := (true, "0ddc3471fbbb971a2c659645a38e7890ac6f98579004726519d1fe06d087cfe0"), looks := true }, kinds := [], alts := [], laidByText := true, laidKinds := [.data, .pinned], laidTests := true, laidLooks := .later }
def FlightTakesCardSaid : Prop := Claim7.holds Tryz.pinned (.plain (OpenSpec.ofChange flightTakesSpec)) flightTakesCard

/-- THE TIED CARD OF 'tannoylaw19.FlightTimes'. -/
def flightTimesCard : Claim7 := { stood := { row := flightTimesRow, standIns := [], harness := (true, "0ddc3471fbbb971a2c659645a38e7890ac6f98579004726519d1fe06d087cfe0"), looks := true }, kinds := [], alts := [], laidByText := true, laidKinds := [.data, .pinned], laidTests := true, laidLooks := .later }
def FlightTimesCardSaid : Prop := Claim7.holds Tryz.pinned (.plain (OpenSpec.ofChange flightTimesSpec)) flightTimesCard

/-- THE TIED CARD OF 'tannoylaw19.FlightMeets'. -/
def flightMeetsCard : Claim7 := { stood := { row := flightMeetsRow, standIns := [], harness := (true, "0ddc3471fbbb971a2c659645a38e7890ac6f98579004726519d1fe06d087cfe0"), looks := true }, kinds := [], alts := [], laidByText := true, laidKinds := [.data, .pinned], laidTests := true, laidLooks := .later }
def FlightMeetsCardSaid : Prop := Claim7.holds Tryz.pinned (.plain (OpenSpec.ofChange flightMeetsSpec)) flightMeetsCard

/-- THE TIED CARD OF 'tannoylaw19.FlightAgain'. -/
def flightAgainCard : Claim7 := { stood := { row := flightAgainRow, standIns := [], harness := (true, "0ddc3471fbbb971a2c659645a38e7890ac6f98579004726519d1fe06d087cfe0"), looks := true }, kinds := [], alts := [], laidByText := true, laidKinds := [.data, .pinned], laidTests := true, laidLooks := .later }
def FlightAgainCardSaid : Prop := Claim7.holds Tryz.pinned (.plain (OpenSpec.ofChange flightAgainSpec)) flightAgainCard

/-- THE TIED CARD OF 'tannoylaw19.FlightKnown'. -/
def flightKnownCard : Claim7 := { stood := { row := flightKnownRow, standIns := [], harness := (true, "0ddc3471fbbb971a2c659645a38e7890ac6f98579004726519d1fe06d087cfe0"), looks := true }, kinds := [], alts := [], laidByText := true, laidKinds := [.data, .pinned], laidTests := true, laidLooks := .later }
def FlightKnownCardSaid : Prop := Claim7.holds Tryz.pinned (.plain (OpenSpec.ofChange flightKnownSpec)) flightKnownCard

/-- THE SECOND FORM's CARD OF 'tannoylaw19.FlightCuts'. -/
def flightCutsUptoCard : Claim7 := { stood := { row := flightCutsUptoRow, standIns := [], harness := (true, "0ddc3471fbbb971a2c659645a38e7890ac6f98579004726519d1fe06d087cfe0"), looks := true }, kinds := [], alts := [], laidByText := true, laidKinds := [.data, .pinned], laidTests := true, laidLooks := .later }
def FlightCutsUptoCardSaid : Prop := Claim7.holds Tryz.pinned (.plain (OpenSpec.upto flightCutsSpec)) flightCutsUptoCard

/-- THE SECOND FORM's CARD OF 'tannoylaw19.FlightTakes'. -/
def flightTakesUptoCard : Claim7 := { stood := { row := flightTakesUptoRow, standIns := [], harness := (true, "0ddc3471fbbb971a2c659645a38e7890ac6f98579004726519d1fe06d087cfe0"), looks := true }, kinds := [], alts := [], laidByText := true, laidKinds := [.data, .pinned], laidTests := true, laidLooks := .later }
def FlightTakesUptoCardSaid : Prop := Claim7.holds Tryz.pinned (.plain (OpenSpec.upto flightTakesSpec)) flightTakesUptoCard

/-- THE SECOND FORM's CARD OF 'tannoylaw19.FlightTimes'. -/
def flightTimesUptoCard : Claim7 := { stood := { row := flightTimesUptoRow, standIns := [], harness := (true, "0ddc3471fbbb971a2c659645a38e7890ac6f98579004726519d1fe06d087cfe0"), looks := true }, kinds := [], alts := [], laidByText := true, laidKinds := [.data, .pinned], laidTests := true, laidLooks := .later }
def FlightTimesUptoCardSaid : Prop := Claim7.holds Tryz.pinned (.plain (OpenSpec.upto flightTimesSpec)) flightTimesUptoCard

/-- THE SECOND FORM's CARD OF 'tannoylaw19.FlightMeets'. -/
def flightMeetsUptoCard : Claim7 := { stood := { row := flightMeetsUptoRow, standIns := [], harness := (true, "0ddc3471fbbb971a2c659645a38e7890ac6f98579004726519d1fe06d087cfe0"), looks := true }, kinds := [], alts := [], laidByText := true, laidKinds := [.data, .pinned], laidTests := true, laidLooks := .later }
def FlightMeetsUptoCardSaid : Prop := Claim7.holds Tryz.pinned (.plain (OpenSpec.upto flightMeetsSpec)) flightMeetsUptoCard

/-- THE SECOND FORM's CARD OF 'tannoylaw19.FlightAgain'. -/
def flightAgainUptoCard : Claim7 := { stood := { row := flightAgainUptoRow, standIns := [], harness := (true, "0ddc3471fbbb971a2c659645a38e7890ac6f98579004726519d1fe06d087cfe0"), looks := true }, kinds := [], alts := [], laidByText := true, laidKinds := [.data, .pinned], laidTests := true, laidLooks := .later }
def FlightAgainUptoCardSaid : Prop := Claim7.holds Tryz.pinned (.plain (OpenSpec.upto flightAgainSpec)) flightAgainUptoCard

/-- THE SECOND FORM's CARD OF 'tannoylaw19.FlightKnown'. -/
def flightKnownUptoCard : Claim7 := { stood := { row := flightKnownUptoRow, standIns := [], harness := (true, "0ddc3471fbbb971a2c659645a38e7890ac6f98579004726519d1fe06d087cfe0"), looks := true }, kinds := [], alts := [], laidByText := true, laidKinds := [.data, .pinned], laidTests := true, laidLooks := .later }
def FlightKnownUptoCardSaid : Prop := Claim7.holds Tryz.pinned (.plain (OpenSpec.upto flightKnownSpec)) flightKnownUptoCard
end Rows
end Go.Proofs.YtlokbfkdgnopeaaGreatDoor
