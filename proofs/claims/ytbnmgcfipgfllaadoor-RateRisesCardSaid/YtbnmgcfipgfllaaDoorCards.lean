/-
  DERIVED. GIVEN WITH THE SEED: THE CARDS: each row of YtbnmgcfipgfllaaDoorRows.lean that lists a variable, with what it lists TIED to the program's text (the seventh form; the later family's looks); each row that meets fmt, with fmt's text TOLD by the authors' own Lean function (tested against real Go, not proved from fmt's source: count such statements apart). THE CARD IS WHAT COUNTS. Prove the row's statement (the work); the ties are given (YtbnmgcfipgfllaaDoorTie.lean); close each card by the builder's one call (the guide's Derived/Test/ToyasCard.lean, 'card_holds'). Laid BY PROGRAM, IN A SANDBOX (cutbox-door.mjs). By AI agents, Wed Nov 11 2026. No macro, syntax, notation, axiom, sorry.
-/
import Derived.Test.YtbnmgcfipgfllaaDoorRows
import GoSem.ClaimSeven
namespace Go.Proofs.YtbnmgcfipgfllaaDoor
namespace Rows

/-- THE TIED CARD OF 'tannoylaw30.RateBounds'. -/
def rateBoundsCard : Claim7 := { stood := { row := rateBoundsRow, standIns := [], harness := (true, "0c278706389ffe6a0f9ee8a74ed5bfe8394cb0dbf5671908d046817b18ee5f8f"), looks := false }, kinds := [], alts := [], laidByText := true, laidKinds := [.funcs], laidTests := true, laidLooks := .later }
def RateBoundsCardSaid : Prop := Claim7.holds Tryd.pinned (.plain (OpenSpec.ofChange rateBoundsSpec)) rateBoundsCard

/-- THE TIED CARD OF 'tannoylaw30.RateReports'. -/
def rateReportsCard : Claim7 := { stood := { row := rateReportsRow, standIns := [], harness := (true, "0c278706389ffe6a0f9ee8a74ed5bfe8394cb0dbf5671908d046817b18ee5f8f"), looks := false }, kinds := [], alts := [], laidByText := true, laidKinds := [.funcs], laidTests := true, laidLooks := .later }
def RateReportsCardSaid : Prop := Claim7.holds Tryd.pinned (.plain (OpenSpec.ofChange rateReportsSpec)) rateReportsCard

/-- THE TIED CARD OF 'tannoylaw30.RateLosses'. -/
def rateLossesCard : Claim7 := { stood := { row := rateLossesRow, standIns := [], harness := (true, "0c278706389ffe6a0f9ee8a74ed5bfe8394cb0dbf5671908d046817b18ee5f8f"), looks := false }, kinds := [], alts := [], laidByText := true, laidKinds := [.funcs], laidTests := true, laidLooks := .later }
def RateLossesCardSaid : Prop := Claim7.holds Tryd.pinned (.plain (OpenSpec.ofChange rateLossesSpec)) rateLossesCard

/-- THE TIED CARD OF 'tannoylaw30.RateKeeps'. -/
def rateKeepsCard : Claim7 := { stood := { row := rateKeepsRow, standIns := [], harness := (true, "0c278706389ffe6a0f9ee8a74ed5bfe8394cb0dbf5671908d046817b18ee5f8f"), looks := false }, kinds := [], alts := [], laidByText := true, laidKinds := [.funcs], laidTests := true, laidLooks := .later }
def RateKeepsCardSaid : Prop := Claim7.holds Tryd.pinned (.plain (OpenSpec.ofChange rateKeepsSpec)) rateKeepsCard

/-- THE TIED CARD OF 'tannoylaw30.RateRises'. -/
def rateRisesCard : Claim7 := { stood := { row := rateRisesRow, standIns := [], harness := (true, "0c278706389ffe6a0f9ee8a74ed5bfe8394cb0dbf5671908d046817b18ee5f8f"), looks := false }, kinds := [], alts := [], laidByText := true, laidKinds := [.funcs], laidTests := true, laidLooks := .later }
def RateRisesCardSaid : Prop := Claim7.holds Tryd.pinned (.plain (OpenSpec.ofChange rateRisesSpec)) rateRisesCard

/-- THE TIED CARD OF 'tannoylaw30.RateMean'. -/
def rateMeanCard : Claim7 := { stood := { row := rateMeanRow, standIns := [], harness := (true, "0c278706389ffe6a0f9ee8a74ed5bfe8394cb0dbf5671908d046817b18ee5f8f"), looks := false }, kinds := [], alts := [], laidByText := true, laidKinds := [.funcs], laidTests := true, laidLooks := .later }
def RateMeanCardSaid : Prop := Claim7.holds Tryd.pinned (.plain (OpenSpec.ofChange rateMeanSpec)) rateMeanCard

/-- THE TIED CARD OF 'tannoylaw30.RateKnown'. -/
def rateKnownCard : Claim7 := { stood := { row := rateKnownRow, standIns := [], harness := (true, "0c278706389ffe6a0f9ee8a74ed5bfe8394cb0dbf5671908d046817b18ee5f8f"), looks := false }, kinds := [], alts := [], laidByText := true, laidKinds := [.funcs], laidTests := true, laidLooks := .later }
def RateKnownCardSaid : Prop := Claim7.holds Tryd.pinned (.plain (OpenSpec.ofChange rateKnownSpec)) rateKnownCard

/-- THE SECOND FORM's CARD OF 'tannoylaw30.RateBounds'. -/
def rateBoundsUptoCard : Claim7 := { stood := { row := rateBoundsUptoRow, standIns := [], harness := (true, "0c278706389ffe6a0f9ee8a74ed5bfe8394cb0dbf5671908d046817b18ee5f8f"), looks := false }, kinds := [], alts := [], laidByText := true, laidKinds := [.funcs], laidTests := true, laidLooks := .later }
def RateBoundsUptoCardSaid : Prop := Claim7.holds Tryd.pinned (.plain (OpenSpec.upto rateBoundsSpec)) rateBoundsUptoCard

/-- THE SECOND FORM's CARD OF 'tannoylaw30.RateReports'. -/
def rateReportsUptoCard : Claim7 := { stood := { row := rateReportsUptoRow, standIns := [], harness := (true, "0c278706389ffe6a0f9ee8a74ed5bfe8394cb0dbf5671908d046817b18ee5f8f"), looks := false }, kinds := [], alts := [], laidByText := true, laidKinds := [.funcs], laidTests := true, laidLooks := .later }
def RateReportsUptoCardSaid : Prop := Claim7.holds Tryd.pinned (.plain (OpenSpec.upto rateReportsSpec)) rateReportsUptoCard

/-- THE SECOND FORM's CARD OF 'tannoylaw30.RateLosses'. -/
def rateLossesUptoCard : Claim7 := { stood := { row := rateLossesUptoRow, standIns := [], harness := (true, "0c278706389ffe6a0f9ee8a74ed5bfe8394cb0dbf5671908d046817b18ee5f8f"), looks := false }, kinds := [], alts := [], laidByText := true, laidKinds := [.funcs], laidTests := true, laidLooks := .later }
def RateLossesUptoCardSaid : Prop := Claim7.holds Tryd.pinned (.plain (OpenSpec.upto rateLossesSpec)) rateLossesUptoCard

/-- THE SECOND FORM's CARD OF 'tannoylaw30.RateKeeps'. -/
def rateKeepsUptoCard : Claim7 := { stood := { row := rateKeepsUptoRow, standIns := [], harness := (true, "0c278706389ffe6a0f9ee8a74ed5bfe8394cb0dbf5671908d046817b18ee5f8f"), looks := false }, kinds := [], alts := [], laidByText := true, laidKinds := [.funcs], laidTests := true, laidLooks := .later }
def RateKeepsUptoCardSaid : Prop := Claim7.holds Tryd.pinned (.plain (OpenSpec.upto rateKeepsSpec)) rateKeepsUptoCard

/-- THE SECOND FORM's CARD OF 'tannoylaw30.RateRises'. -/
def rateRisesUptoCard : Claim7 := { stood := { row := rateRisesUptoRow, standIns := [], harness := (true, "0c278706389ffe6a0f9ee8a74ed5bfe8394cb0dbf5671908d046817b18ee5f8f"), looks := false }, kinds := [], alts := [], laidByText := true, laidKinds := [.funcs], laidTests := true, laidLooks := .later }
def RateRisesUptoCardSaid : Prop := Claim7.holds Tryd.pinned (.plain (OpenSpec.upto rateRisesSpec)) rateRisesUptoCard

/-- THE SECOND FORM's CARD OF 'tannoylaw30.RateMean'. -/
def rateMeanUptoCard : Claim7 := { stood := { row := rateMeanUptoRow, standIns := [], harness := (true, "0c278706389ffe6a0f9ee8a74ed5bfe8394cb0dbf5671908d046817b18ee5f8f"), looks := false }, kinds := [], alts := [], laidByText := true, laidKinds := [.funcs], laidTests := true, laidLooks := .later }
def RateMeanUptoCardSaid : Prop := Claim7.holds Tryd.pinned (.plain (OpenSpec.upto rateMeanSpec)) rateMeanUptoCard

/-- THE SECOND FORM's CARD OF 'tannoylaw30.RateKnown'. -/
def rateKnownUptoCard : Claim7 := { stood := { row := rateKnownUptoRow, standIns := [], harness := (true, "0c278706389ffe6a0f9ee8a74ed5bfe8394cb0dbf5671908d046817b18ee5f8f"), looks := false }, kinds := [], alts := [], laidByText := true, laidKinds := [.funcs], laidTests := true, laidLooks := .later }
def RateKnownUptoCardSaid : Prop := Claim7.holds Tryd.pinned (.plain (OpenSpec.upto rateKnownSpec)) rateKnownUptoCard
end Rows
end Go.Proofs.YtbnmgcfipgfllaaDoor
