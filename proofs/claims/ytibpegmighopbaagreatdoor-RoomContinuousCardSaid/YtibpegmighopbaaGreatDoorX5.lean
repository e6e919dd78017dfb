/- The small language's text of the functions; printed by ShowI.lean. -/
import Derived.Test.YtibpegmighopbaaGreatDoorX3
import Derived.Test.YtibpegmighopbaaGreatDoorProg
set_option maxRecDepth 100000
set_option maxHeartbeats 20000000
set_option linter.unusedSimpArgs false
set_option linter.unusedVariables false
namespace Go.Proofs.Rom
open Go.Ab
noncomputable def i11:cZ:=(⟨_,rfl⟩:dI (cF:ah PL Tryz.f11 =some _)).1
theorem Y1:ah ay Tryz.f11 =some i11:=by kernel_rfl
noncomputable def i12:cZ:=(⟨_,rfl⟩:dI (cF:ah PL Tryz.f12 =some _)).1
theorem Uz:ah ay Tryz.f12 =some i12:=by kernel_rfl
noncomputable def i43:cZ:=(⟨_,rfl⟩:dI (cW:ah PL Tryz.f43 =some _)).1
theorem Zq:ah ay Tryz.f43 =some i43:=by kernel_rfl
noncomputable def i51:cZ:=(⟨_,rfl⟩:dI (cF:ah PL Tryz.f51 =some _)).1
theorem VY:ah ay Tryz.f51 =some i51:=by kernel_rfl
noncomputable def i53:cZ:=(⟨_,rfl⟩:dI (cF:ah PL Tryz.f53 =some _)).1
theorem Wd:ah ay Tryz.f53 =some i53:=by kernel_rfl
noncomputable abbrev aef:List bq:=Zv (⟨_,rfl⟩:qF (cV:(i53.code.sub [1,1,1,0,0]).ops =_))
noncomputable abbrev adl:List bq:=Zv (⟨_,rfl⟩:qF (cV:(i53.code.sub [1,1,1,1,0]).ops =_))
noncomputable abbrev ad9:List bq:=Zv (⟨_,rfl⟩:qF (cV:(i53.code.sub [1,1,1,0,1,0,0]).ops =_))
noncomputable abbrev acf:List bq:=Zv (⟨_,rfl⟩:qF (cV:(i53.code.sub [1,1,1,1,1,0,0]).ops =_))
noncomputable abbrev DJ:bb:=Zv (⟨_,rfl⟩:qF (cV:i53.code.sub [1,1,1,1,1,0,1,0,0] =_))
noncomputable abbrev VC:List bq:=Zv (⟨_,rfl⟩:qF (cV:(i53.code.sub [1,1,1,1,1,1,0,0]).ops =_))
noncomputable abbrev YY:List bq:=Zv (⟨_,rfl⟩:qF (cV:(i53.code.sub [1,1,1,1,1,1,1,0,0]).ops =_))
noncomputable abbrev Yr:List bq:=Zv (⟨_,rfl⟩:qF (cV:(i53.code.sub [1,1,1,1,1,1,1,1,0]).ops =_))
noncomputable abbrev XY:List bq:=Zv (⟨_,rfl⟩:qF (cV:(i53.code.sub [1,1,1,1,1,1,0,1,0,0]).ops =_))
noncomputable abbrev Yx:List bq:=Zv (⟨_,rfl⟩:qF (cV:(i53.code.sub [1,1,1,1,1,1,1,1,1,0]).ops =_))
noncomputable abbrev YA:List bq:=Zv (⟨_,rfl⟩:qF (cV:(i53.code.sub [1,1,1,1,1,1,1,0,1,0,0]).ops =_))
noncomputable abbrev WZ:List (bq × List Nat):=Zv (⟨_,rfl⟩:qF (cV:(i53.code.sub [1,1,1,1,1,1,1,1,1,1,0]).afH =_))
noncomputable def i57:cZ:=(⟨_,rfl⟩:dI (cW:ah PL Tryz.f57 =some _)).1
theorem WY:ah ay Tryz.f57 =some i57:=by kernel_rfl
noncomputable def i87:cZ:=(⟨_,rfl⟩:dI (cF:ah PL Tryz.f87 =some _)).1
theorem Zc:ah ay Tryz.f87 =some i87:=by kernel_rfl
noncomputable def i112:cZ:=(⟨_,rfl⟩:dI (cF:ah PL Tryz.f112 =some _)).1
theorem SM:ah ay Tryz.f112 =some i112:=by kernel_rfl
noncomputable abbrev Gx:bb:=Zv (⟨_,rfl⟩:qF (cV:i112.code.sub [1,1,0,1,0,0] =_))
noncomputable abbrev G0:bb:=Zv (⟨_,rfl⟩:qF (cV:i112.code.sub [1,1,1,1,0,1,0,0] =_))
noncomputable abbrev Ng:bb:=Zv (⟨_,rfl⟩:qF (cV:i112.code.sub [1,1,0,1,0,0,1,0,0,1,1,0,0] =_))
noncomputable def i113:cZ:=(⟨_,rfl⟩:dI (cW:ah PL Tryz.f113 =some _)).1
theorem OS:ah ay Tryz.f113 =some i113:=by kernel_rfl
noncomputable def i118:cZ:=(⟨_,rfl⟩:dI (cF:ah PL Tryz.f118 =some _)).1
theorem Ra:ah ay Tryz.f118 =some i118:=by kernel_rfl
noncomputable abbrev LD:bb:=Zv (⟨_,rfl⟩:qF (cV:i118.code.sub [1,1,1,0,1,0,0] =_))
noncomputable abbrev Yy:List bq:=Zv (⟨_,rfl⟩:qF (cV:(i118.code.sub [1,1,1,0,1,0,0,1,0,0,1,1]).ops =_))
noncomputable def i124:cZ:=(⟨_,rfl⟩:dI (cF:ah PL Tryz.f124 =some _)).1
theorem Sc:ah ay Tryz.f124 =some i124:=by kernel_rfl
noncomputable def i125:cZ:=(⟨_,rfl⟩:dI (cF:ah PL Tryz.f125 =some _)).1
theorem Nu:ah ay Tryz.f125 =some i125:=by kernel_rfl
noncomputable def i126:cZ:=(⟨_,rfl⟩:dI (cF:ah PL Tryz.f126 =some _)).1
theorem NL:ah ay Tryz.f126 =some i126:=by kernel_rfl
end Go.Proofs.Rom
