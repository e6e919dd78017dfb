/- The small language's text of the functions; printed by ShowI.lean. -/
import Derived.Test.YtibpegmighopbaaGreatDoorX3
import Derived.Test.YtibpegmighopbaaGreatDoorProg
set_option maxRecDepth 100000
set_option maxHeartbeats 20000000
set_option linter.unusedSimpArgs false
set_option linter.unusedVariables false
namespace Go.Proofs.Rom
open Go.Ab
noncomputable def i10:cZ:=(⟨_,rfl⟩:dI (cF:ah PL Tryz.f10 =some _)).1
theorem Zj:ah ay Tryz.f10 =some i10:=by kernel_rfl
noncomputable def i18:cZ:=(⟨_,rfl⟩:dI (cF:ah PL Tryz.f18 =some _)).1
theorem Xh:ah ay Tryz.f18 =some i18:=by kernel_rfl
noncomputable def i26:cZ:=(⟨_,rfl⟩:dI (cW:ah PL Tryz.f26 =some _)).1
theorem Y8:ah ay Tryz.f26 =some i26:=by kernel_rfl
noncomputable def i27:cZ:=(⟨_,rfl⟩:dI (cW:ah PL Tryz.f27 =some _)).1
theorem UT:ah ay Tryz.f27 =some i27:=by kernel_rfl
end Go.Proofs.Rom
