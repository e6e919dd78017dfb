/- What the texts of chapter 30 share. -/
import Derived.Test.YtbnmgcfipgfllaaDoorRatKIR
import Derived.Test.YtbnmgcfipgfllaaDoorAbExecs
namespace Go.Proofs.Rate
open Go.Ab
theorem mo' : Tryd.prog.follows .mixedOrders = true := by kernel_rfl
end Go.Proofs.Rate
