/- RoomContinuous: what the row says of the program's text. -/
import Derived.Test.YtibpegmighopbaaGreatDoorX14
import Derived.Test.YtibpegmighopbaaGreatDoorCards
import Derived.Test.YtibpegmighopbaaGreatDoorTie
import Derived.LaidMore
import Derived.Lay
import Derived.LaidOnce
import Derived.SevenTiedAt
set_option maxRecDepth 100000
set_option maxHeartbeats 20000000
set_option linter.unusedSimpArgs false
set_option linter.unusedVariables false
namespace Go.Proofs.YtibpegmighopbaaGreatDoor
theorem jf:joinedFacts Tryz.pinned.checked.prog 3 Tryz.f3 Rows.roomContinuousSpec Rows.roomContinuousRow=true:=by kernel_rfl
end Go.Proofs.YtibpegmighopbaaGreatDoor
