/-
  DERIVED. GIVEN WITH THE SEED: THE CARDS: each row of YtibpegmighopbaaGreatDoorRows.lean that lists a variable, with what it lists TIED to the program's text (the seventh form; the later family's looks); each row that meets fmt, with fmt's text TOLD by the authors' own Lean function (tested against real Go, not proved from fmt's source: count such statements apart). THE CARD IS WHAT COUNTS. Prove the row's statement (the work); the ties are given (YtibpegmighopbaaGreatDoorTie.lean); close each card by the builder's one call (the guide's Derived/Test/ToyasCard.lean, 'card_holds'). Laid BY PROGRAM, IN A SANDBOX (cutbox-door.mjs). By AI agents, Wed Nov 11 2026. No macro, syntax, notation, axiom, sorry.
-/
import Derived.Test.YtibpegmighopbaaGreatDoorRows
import GoSem.ClaimSeven
namespace Go.Proofs.YtibpegmighopbaaGreatDoor
namespace Rows

/-- THE TIED CARD OF 'tannoylaw42.RoomContinuous'. -/
def roomContinuousCard : Claim7 := { stood := { row := roomContinuousRow, standIns := [], harness := (true, "e3f44798c788cbbe550b35ad57d5ddb195f1e46d9459bcabf553cd95add1a784"), looks := true }, kinds := [], alts := [], laidByText := true, laidKinds := [.data, .pinned], laidTests := true, laidLooks := .later }
def RoomContinuousCardSaid : Prop := Claim7.holds Tryz.pinned (.plain (OpenSpec.ofChange roomContinuousSpec)) roomContinuousCard

/-- THE TIED CARD OF 'tannoylaw42.RoomKnown'. -/
def roomKnownCard : Claim7 := { stood := { row := roomKnownRow, standIns := [], harness := (true, "e3f44798c788cbbe550b35ad57d5ddb195f1e46d9459bcabf553cd95add1a784"), looks := true }, kinds := [], alts := [], laidByText := true, laidKinds := [.data, .pinned], laidTests := true, laidLooks := .later }
def RoomKnownCardSaid : Prop := Claim7.holds Tryz.pinned (.plain (OpenSpec.ofChange roomKnownSpec)) roomKnownCard

/-- THE TIED CARD OF 'tannoylaw42.RoomChooses'. -/
def roomChoosesCard : Claim7 := { stood := { row := roomChoosesRow, standIns := [], harness := (true, "e3f44798c788cbbe550b35ad57d5ddb195f1e46d9459bcabf553cd95add1a784"), looks := true }, kinds := [], alts := [], laidByText := true, laidKinds := [.data, .pinned], laidTests := true, laidLooks := .later }
def RoomChoosesCardSaid : Prop := Claim7.holds Tryz.pinned (.plain (OpenSpec.ofChange roomChoosesSpec)) roomChoosesCard

/-- THE TIED CARD OF 'tannoylaw42.RoomPushes'. -/
def roomPushesCard : Claim7 := { stood := { row := roomPushesRow, standIns := [], harness := (true, "e3f44798c788cbbe550b35ad57d5ddb195f1e46d9459bcabf553cd95add1a784"), looks := true }, kinds := [], alts := [], laidByText := true, laidKinds := [.data, .pinned], laidTests := true, laidLooks := .later }
def RoomPushesCardSaid : Prop := Claim7.holds Tryz.pinned (.plain (OpenSpec.ofChange roomPushesSpec)) roomPushesCard

/-- THE TIED CARD OF 'tannoylaw42.RoomBest'. -/
def roomBestCard : Claim7 := { stood := { row := roomBestRow, standIns := [], harness := (true, "e3f44798c788cbbe550b35ad57d5ddb195f1e46d9459bcabf553cd95add1a784"), looks := true }, kinds := [], alts := [], laidByText := true, laidKinds := [.data, .pinned], laidTests := true, laidLooks := .later }
def RoomBestCardSaid : Prop := Claim7.holds Tryz.pinned (.plain (OpenSpec.ofChange roomBestSpec)) roomBestCard

/-- THE TIED CARD OF 'tannoylaw42.RoomAlone'. -/
def roomAloneCard : Claim7 := { stood := { row := roomAloneRow, standIns := [], harness := (true, "e3f44798c788cbbe550b35ad57d5ddb195f1e46d9459bcabf553cd95add1a784"), looks := true }, kinds := [], alts := [], laidByText := true, laidKinds := [.data, .pinned], laidTests := true, laidLooks := .later }
def RoomAloneCardSaid : Prop := Claim7.holds Tryz.pinned (.plain (OpenSpec.ofChange roomAloneSpec)) roomAloneCard

/-- THE TIED CARD OF 'tannoylaw42.RoomChanges'. -/
def roomChangesCard : Claim7 := { stood := { row := roomChangesRow, standIns := [], harness := (true, "e3f44798c788cbbe550b35ad57d5ddb195f1e46d9459bcabf553cd95add1a784"), looks := true }, kinds := [], alts := [], laidByText := true, laidKinds := [.data, .pinned], laidTests := true, laidLooks := .later }
def RoomChangesCardSaid : Prop := Claim7.holds Tryz.pinned (.plain (OpenSpec.ofChange roomChangesSpec)) roomChangesCard

/-- THE SECOND FORM's CARD OF 'tannoylaw42.RoomContinuous'. -/
def roomContinuousUptoCard : Claim7 := { stood := { row := roomContinuousUptoRow, standIns := [], harness := (true, "e3f44798c788cbbe550b35ad57d5ddb195f1e46d9459bcabf553cd95add1a784"), looks := true }, kinds := [], alts := [], laidByText := true, laidKinds := [.data, .pinned], laidTests := true, laidLooks := .later }
def RoomContinuousUptoCardSaid : Prop := Claim7.holds Tryz.pinned (.plain (OpenSpec.upto roomContinuousSpec)) roomContinuousUptoCard

/-- THE SECOND FORM's CARD OF 'tannoylaw42.RoomKnown'. -/
def roomKnownUptoCard : Claim7 := { stood := { row := roomKnownUptoRow, standIns := [], harness := (true, "e3f44798c788cbbe550b35ad57d5ddb195f1e46d9459bcabf553cd95add1a784"), looks := true }, kinds := [], alts := [], laidByText := true, laidKinds := [.data, .pinned], laidTests := true, laidLooks := .later }
def RoomKnownUptoCardSaid : Prop := Claim7.holds Tryz.pinned (.plain (OpenSpec.upto roomKnownSpec)) roomKnownUptoCard

/-- THE SECOND FORM's CARD OF 'tannoylaw42.RoomChooses'. -/
def roomChoosesUptoCard : Claim7 := { stood := { row := roomChoosesUptoRow, standIns := [], harness := (true, "e3f44798c788cbbe550b35ad57d5ddb195f1e46d9459bcabf553cd95add1a784"), looks := true }, kinds := [], alts := [], laidByText := true, laidKinds := [.data, .pinned], laidTests := true, laidLooks := .later }
def RoomChoosesUptoCardSaid : Prop := Claim7.holds Tryz.pinned (.plain (OpenSpec.upto roomChoosesSpec)) roomChoosesUptoCard

/-- THE SECOND FORM's CARD OF 'tannoylaw42.RoomPushes'. -/
def roomPushesUptoCard : Claim7 := { stood := { row := roomPushesUptoRow, standIns := [], harness := (true, "e3f44798c788cbbe550b35ad57d5ddb195f1e46d9459bcabf553cd95add1a784"), looks := true }, kinds := [], alts := [], laidByText := true, laidKinds := [.data, .pinned], laidTests := true, laidLooks := .later }
def RoomPushesUptoCardSaid : Prop := Claim7.holds Tryz.pinned (.plain (OpenSpec.upto roomPushesSpec)) roomPushesUptoCard

/-- THE SECOND FORM's CARD OF 'tannoylaw42.RoomBest'. -/
def roomBestUptoCard : Claim7 := { stood := { row := roomBestUptoRow, standIns := [], harness := (true, "e3f44798c788cbbe550b35ad57d5ddb195f1e46d9459bcabf553cd95add1a784"), looks := true }, kinds := [], alts := [], laidByText := true, laidKinds := [.data, .pinned], laidTests := true, laidLooks := .later }
def RoomBestUptoCardSaid : Prop := Claim7.holds Tryz.pinned (.plain (OpenSpec.upto roomBestSpec)) roomBestUptoCard

/-- THE SECOND FORM's CARD OF 'tannoylaw42.RoomAlone'. -/
def roomAloneUptoCard : Claim7 := { stood := { row := roomAloneUptoRow, standIns := [], harness := (true, "e3f44798c788cbbe550b35ad57d5ddb195f1e46d9459bcabf553cd95add1a784"), looks := true }, kinds := [], alts := [], laidByText := true, laidKinds := [.data, .pinned], laidTests := true, laidLooks := .later }
def RoomAloneUptoCardSaid : Prop := Claim7.holds Tryz.pinned (.plain (OpenSpec.upto roomAloneSpec)) roomAloneUptoCard

/-- THE SECOND FORM's CARD OF 'tannoylaw42.RoomChanges'. -/
def roomChangesUptoCard : Claim7 := { stood := { row := roomChangesUptoRow, standIns := [], harness := (true, "e3f44798c788cbbe550b35ad57d5ddb195f1e46d9459bcabf553cd95add1a784"), looks := true }, kinds := [], alts := [], laidByText := true, laidKinds := [.data, .pinned], laidTests := true, laidLooks := .later }
def RoomChangesUptoCardSaid : Prop := Claim7.holds Tryz.pinned (.plain (OpenSpec.upto roomChangesSpec)) roomChangesUptoCard
end Rows
end Go.Proofs.YtibpegmighopbaaGreatDoor
