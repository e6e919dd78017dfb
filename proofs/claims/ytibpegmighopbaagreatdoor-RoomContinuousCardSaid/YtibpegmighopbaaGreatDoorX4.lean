/- The small language's text of the functions; printed by ShowI.lean. -/
import Derived.Test.YtibpegmighopbaaGreatDoorX3
import Derived.Test.YtibpegmighopbaaGreatDoorProg
set_option maxRecDepth 100000
set_option maxHeartbeats 20000000
set_option linter.unusedSimpArgs false
set_option linter.unusedVariables false
namespace Go.Proofs.Rom
open Go.Ab
noncomputable def i13:cZ:=(⟨_,rfl⟩:dI (cF:ah PL Tryz.f13 =some _)).1
theorem Zp:ah ay Tryz.f13 =some i13:=by kernel_rfl
noncomputable def i14:cZ:=(⟨_,rfl⟩:dI (cW:ah PL Tryz.f14 =some _)).1
theorem Ut:ah ay Tryz.f14 =some i14:=by kernel_rfl
noncomputable def i15:cZ:=(⟨_,rfl⟩:dI (cW:ah PL Tryz.f15 =some _)).1
theorem Zs:ah ay Tryz.f15 =some i15:=by kernel_rfl
noncomputable def i16:cZ:=(⟨_,rfl⟩:dI (cW:ah PL Tryz.f16 =some _)).1
theorem UY:ah ay Tryz.f16 =some i16:=by kernel_rfl
noncomputable def i17:cZ:=(⟨_,rfl⟩:dI (cF:ah PL Tryz.f17 =some _)).1
theorem Yz:ah ay Tryz.f17 =some i17:=by kernel_rfl
noncomputable def i20:cZ:=(⟨_,rfl⟩:dI (cW:ah PL Tryz.f20 =some _)).1
theorem Vf:ah ay Tryz.f20 =some i20:=by kernel_rfl
noncomputable def i23:cZ:=(⟨_,rfl⟩:dI (cF:ah PL Tryz.f23 =some _)).1
theorem Uy:ah ay Tryz.f23 =some i23:=by kernel_rfl
noncomputable def i24:cZ:=(⟨_,rfl⟩:dI (cF:ah PL Tryz.f24 =some _)).1
theorem XJ:ah ay Tryz.f24 =some i24:=by kernel_rfl
noncomputable def i28:cZ:=(⟨_,rfl⟩:dI (cW:ah PL Tryz.f28 =some _)).1
theorem WD:ah ay Tryz.f28 =some i28:=by kernel_rfl
noncomputable def i59:cZ:=(⟨_,rfl⟩:dI (cW:ah PL Tryz.f59 =some _)).1
theorem IS:ah ay Tryz.f59 =some i59:=by kernel_rfl
noncomputable def i60:cZ:=(⟨_,rfl⟩:dI (cF:ah PL Tryz.f60 =some _)).1
theorem Ee:ah ay Tryz.f60 =some i60:=by kernel_rfl
noncomputable def i62:cZ:=(⟨_,rfl⟩:dI (cW:ah PL Tryz.f62 =some _)).1
theorem LR:ah ay Tryz.f62 =some i62:=by kernel_rfl
noncomputable def i64:cZ:=(⟨_,rfl⟩:dI (cW:ah PL Tryz.f64 =some _)).1
theorem Xu:ah ay Tryz.f64 =some i64:=by kernel_rfl
noncomputable def i67:cZ:=(⟨_,rfl⟩:dI (cF:ah PL Tryz.f67 =some _)).1
theorem AS:ah ay Tryz.f67 =some i67:=by kernel_rfl
noncomputable def i68:cZ:=(⟨_,rfl⟩:dI (cF:ah PL Tryz.f68 =some _)).1
theorem JH:ah ay Tryz.f68 =some i68:=by kernel_rfl
noncomputable def i69:cZ:=(⟨_,rfl⟩:dI (cW:ah PL Tryz.f69 =some _)).1
theorem Vw:ah ay Tryz.f69 =some i69:=by kernel_rfl
noncomputable def i71:cZ:=(⟨_,rfl⟩:dI (cW:ah PL Tryz.f71 =some _)).1
theorem YS:ah ay Tryz.f71 =some i71:=by kernel_rfl
noncomputable def i72:cZ:=(⟨_,rfl⟩:dI (cF:ah PL Tryz.f72 =some _)).1
theorem D8:ah ay Tryz.f72 =some i72:=by kernel_rfl
noncomputable abbrev T8:bb:=Zv (⟨_,rfl⟩:qF (cV:i72.code.sub [1,1,0,1,0,0] =_))
noncomputable def i73:cZ:=(⟨_,rfl⟩:dI (cW:ah PL Tryz.f73 =some _)).1
theorem Y3:ah ay Tryz.f73 =some i73:=by kernel_rfl
noncomputable def i74:cZ:=(⟨_,rfl⟩:dI (cW:ah PL Tryz.f74 =some _)).1
theorem Y4:ah ay Tryz.f74 =some i74:=by kernel_rfl
noncomputable def i76:cZ:=(⟨_,rfl⟩:dI (cF:ah PL Tryz.f76 =some _)).1
theorem Kh:ah ay Tryz.f76 =some i76:=by kernel_rfl
noncomputable def i77:cZ:=(⟨_,rfl⟩:dI (cF:ah PL Tryz.f77 =some _)).1
theorem E9:ah ay Tryz.f77 =some i77:=by kernel_rfl
noncomputable def i78:cZ:=(⟨_,rfl⟩:dI (cF:ah PL Tryz.f78 =some _)).1
theorem Wm:ah ay Tryz.f78 =some i78:=by kernel_rfl
noncomputable def i79:cZ:=(⟨_,rfl⟩:dI (cF:ah PL Tryz.f79 =some _)).1
theorem ES:ah ay Tryz.f79 =some i79:=by kernel_rfl
noncomputable def i80:cZ:=(⟨_,rfl⟩:dI (cF:ah PL Tryz.f80 =some _)).1
theorem Xq:ah ay Tryz.f80 =some i80:=by kernel_rfl
noncomputable def i81:cZ:=(⟨_,rfl⟩:dI (cF:ah PL Tryz.f81 =some _)).1
theorem V4:ah ay Tryz.f81 =some i81:=by kernel_rfl
noncomputable def i82:cZ:=(⟨_,rfl⟩:dI (cF:ah PL Tryz.f82 =some _)).1
theorem XB:ah ay Tryz.f82 =some i82:=by kernel_rfl
noncomputable def i83:cZ:=(⟨_,rfl⟩:dI (cW:ah PL Tryz.f83 =some _)).1
theorem Zg:ah ay Tryz.f83 =some i83:=by kernel_rfl
noncomputable abbrev acn:List bq:=Zv (⟨_,rfl⟩:qF (cV:(i83.code.sub [0]).ops =_))
noncomputable def i84:cZ:=(⟨_,rfl⟩:dI (cW:ah PL Tryz.f84 =some _)).1
theorem A3:ah ay Tryz.f84 =some i84:=by kernel_rfl
noncomputable def i85:cZ:=(⟨_,rfl⟩:dI (cF:ah PL Tryz.f85 =some _)).1
theorem DB:ah ay Tryz.f85 =some i85:=by kernel_rfl
noncomputable abbrev aai:bb:=Zv (⟨_,rfl⟩:qF (cV:i85.code.sub [1,1,1,0,1,0,0] =_))
noncomputable abbrev Zw:bb:=Zv (⟨_,rfl⟩:qF (cV:i85.code.sub [1,1,1,1,0,1,0,0] =_))
noncomputable def i86:cZ:=(⟨_,rfl⟩:dI (cF:ah PL Tryz.f86 =some _)).1
theorem I0:ah ay Tryz.f86 =some i86:=by kernel_rfl
noncomputable abbrev XI:List bq:=Zv (⟨_,rfl⟩:qF (cV:(i86.code.sub [1,1,1,1,1,0]).ops =_))
noncomputable abbrev zF:bb:=Zv (⟨_,rfl⟩:qF (cV:i86.code.sub [1,1,1,1,0,1,0,0] =_))
noncomputable abbrev zZ:bb:=Zv (⟨_,rfl⟩:qF (cV:i86.code.sub [1,1,1,1,0,1,0,1] =_))
noncomputable def i89:cZ:=(⟨_,rfl⟩:dI (cF:ah PL Tryz.f89 =some _)).1
theorem BG:ah ay Tryz.f89 =some i89:=by kernel_rfl
noncomputable def i91:cZ:=(⟨_,rfl⟩:dI (cF:ah PL Tryz.f91 =some _)).1
theorem XN:ah ay Tryz.f91 =some i91:=by kernel_rfl
noncomputable def i92:cZ:=(⟨_,rfl⟩:dI (cF:ah PL Tryz.f92 =some _)).1
theorem Yq:ah ay Tryz.f92 =some i92:=by kernel_rfl
noncomputable abbrev TV:bb:=Zv (⟨_,rfl⟩:qF (cV:i92.code.sub [1,1,1,0,1,0,0] =_))
noncomputable def i93:cZ:=(⟨_,rfl⟩:dI (cF:ah PL Tryz.f93 =some _)).1
theorem Br:ah ay Tryz.f93 =some i93:=by kernel_rfl
noncomputable def i94:cZ:=(⟨_,rfl⟩:dI (cW:ah PL Tryz.f94 =some _)).1
theorem UB:ah ay Tryz.f94 =some i94:=by kernel_rfl
noncomputable def i95:cZ:=(⟨_,rfl⟩:dI (cW:ah PL Tryz.f95 =some _)).1
theorem Xz:ah ay Tryz.f95 =some i95:=by kernel_rfl
noncomputable def i96:cZ:=(⟨_,rfl⟩:dI (cF:ah PL Tryz.f96 =some _)).1
theorem XA:ah ay Tryz.f96 =some i96:=by kernel_rfl
noncomputable def i103:cZ:=(⟨_,rfl⟩:dI (cW:ah PL Tryz.f103 =some _)).1
theorem Ov:ah ay Tryz.f103 =some i103:=by kernel_rfl
noncomputable abbrev Vt:List bq:=Zv (⟨_,rfl⟩:qF (cV:(i103.code.sub [0]).ops =_))
noncomputable def i104:cZ:=(⟨_,rfl⟩:dI (cF:ah PL Tryz.f104 =some _)).1
theorem A4:ah ay Tryz.f104 =some i104:=by kernel_rfl
noncomputable abbrev Nf:bb:=Zv (⟨_,rfl⟩:qF (cV:i104.code.sub [1,1,1,0,1,0,0] =_))
noncomputable def i108:cZ:=(⟨_,rfl⟩:dI (cW:ah PL Tryz.f108 =some _)).1
theorem M5:ah ay Tryz.f108 =some i108:=by kernel_rfl
noncomputable def i109:cZ:=(⟨_,rfl⟩:dI (cF:ah PL Tryz.f109 =some _)).1
theorem RF:ah ay Tryz.f109 =some i109:=by kernel_rfl
noncomputable def i110:cZ:=(⟨_,rfl⟩:dI (cF:ah PL Tryz.f110 =some _)).1
theorem Gl:ah ay Tryz.f110 =some i110:=by kernel_rfl
noncomputable def i134:cZ:=(⟨_,rfl⟩:dI (cW:ah PL Tryz.f134 =some _)).1
theorem A0:ah ay Tryz.f134 =some i134:=by kernel_rfl
noncomputable abbrev Eb:List bq:=Zv (⟨_,rfl⟩:qF (cV:(i134.code.sub [0]).ops =_))
noncomputable def i135:cZ:=(⟨_,rfl⟩:dI (cW:ah PL Tryz.f135 =some _)).1
theorem fU:ah ay Tryz.f135 =some i135:=by kernel_rfl
noncomputable def i138:cZ:=(⟨_,rfl⟩:dI (cF:ah PL Tryz.f138 =some _)).1
theorem OY:ah ay Tryz.f138 =some i138:=by kernel_rfl
noncomputable def i139:cZ:=(⟨_,rfl⟩:dI (cW:ah PL Tryz.f139 =some _)).1
theorem R9:ah ay Tryz.f139 =some i139:=by kernel_rfl
noncomputable def i140:cZ:=(⟨_,rfl⟩:dI (cW:ah PL Tryz.f140 =some _)).1
theorem Se:ah ay Tryz.f140 =some i140:=by kernel_rfl
noncomputable def i144:cZ:=(⟨_,rfl⟩:dI (cF:ah PL Tryz.f144 =some _)).1
theorem Rp:ah ay Tryz.f144 =some i144:=by kernel_rfl
noncomputable def i145:cZ:=(⟨_,rfl⟩:dI (cF:ah PL Tryz.f145 =some _)).1
theorem Sj:ah ay Tryz.f145 =some i145:=by kernel_rfl
noncomputable def i146:cZ:=(⟨_,rfl⟩:dI (cF:ah PL Tryz.f146 =some _)).1
theorem OV:ah ay Tryz.f146 =some i146:=by kernel_rfl
noncomputable def i147:cZ:=(⟨_,rfl⟩:dI (cW:ah PL Tryz.f147 =some _)).1
theorem S3:ah ay Tryz.f147 =some i147:=by kernel_rfl
noncomputable def i148:cZ:=(⟨_,rfl⟩:dI (cF:ah PL Tryz.f148 =some _)).1
theorem Ny:ah ay Tryz.f148 =some i148:=by kernel_rfl
noncomputable def i149:cZ:=(⟨_,rfl⟩:dI (cF:ah PL Tryz.f149 =some _)).1
theorem RH:ah ay Tryz.f149 =some i149:=by kernel_rfl
noncomputable def i150:cZ:=(⟨_,rfl⟩:dI (cF:ah PL Tryz.f150 =some _)).1
theorem NP:ah ay Tryz.f150 =some i150:=by kernel_rfl
noncomputable def i151:cZ:=(⟨_,rfl⟩:dI (cW:ah PL Tryz.f151 =some _)).1
theorem Pk:ah ay Tryz.f151 =some i151:=by kernel_rfl
noncomputable def i152:cZ:=(⟨_,rfl⟩:dI (cW:ah PL Tryz.f152 =some _)).1
theorem Gp:ah ay Tryz.f152 =some i152:=by kernel_rfl
noncomputable def i153:cZ:=(⟨_,rfl⟩:dI (cW:ah PL Tryz.f153 =some _)).1
theorem G7:ah ay Tryz.f153 =some i153:=by kernel_rfl
noncomputable def i154:cZ:=(⟨_,rfl⟩:dI (cF:ah PL Tryz.f154 =some _)).1
theorem FP:ah ay Tryz.f154 =some i154:=by kernel_rfl
noncomputable def i155:cZ:=(⟨_,rfl⟩:dI (cF:ah PL Tryz.f155 =some _)).1
theorem MS:ah ay Tryz.f155 =some i155:=by kernel_rfl
noncomputable def i157:cZ:=(⟨_,rfl⟩:dI (cF:ah PL Tryz.f157 =some _)).1
theorem BJ:ah ay Tryz.f157 =some i157:=by kernel_rfl
noncomputable def i158:cZ:=(⟨_,rfl⟩:dI (cW:ah PL Tryz.f158 =some _)).1
theorem RX:ah ay Tryz.f158 =some i158:=by kernel_rfl
noncomputable def i159:cZ:=(⟨_,rfl⟩:dI (cW:ah PL Tryz.f159 =some _)).1
theorem Ry:ah ay Tryz.f159 =some i159:=by kernel_rfl
noncomputable def i160:cZ:=(⟨_,rfl⟩:dI (cW:ah PL Tryz.f160 =some _)).1
theorem G3:ah ay Tryz.f160 =some i160:=by kernel_rfl
noncomputable def i163:cZ:=(⟨_,rfl⟩:dI (cW:ah PL Tryz.f163 =some _)).1
theorem PQ:ah ay Tryz.f163 =some i163:=by kernel_rfl
noncomputable def i165:cZ:=(⟨_,rfl⟩:dI (cF:ah PL Tryz.f165 =some _)).1
theorem MR:ah ay Tryz.f165 =some i165:=by kernel_rfl
noncomputable def i170:cZ:=(⟨_,rfl⟩:dI (cW:ah PL Tryz.f170 =some _)).1
theorem PT:ah ay Tryz.f170 =some i170:=by kernel_rfl
noncomputable def i173:cZ:=(⟨_,rfl⟩:dI (cW:ah PL Tryz.f173 =some _)).1
theorem Nv:ah ay Tryz.f173 =some i173:=by kernel_rfl
noncomputable def i193:cZ:=(⟨_,rfl⟩:dI (cW:ah PL Tryz.f193 =some _)).1
theorem BO:ah ay Tryz.f193 =some i193:=by kernel_rfl
noncomputable def i198:cZ:=(⟨_,rfl⟩:dI (cF:ah PL Tryz.f198 =some _)).1
theorem Ot:ah ay Tryz.f198 =some i198:=by kernel_rfl
noncomputable def i199:cZ:=(⟨_,rfl⟩:dI (cF:ah PL Tryz.f199 =some _)).1
theorem FH:ah ay Tryz.f199 =some i199:=by kernel_rfl
noncomputable def i200:cZ:=(⟨_,rfl⟩:dI (cF:ah PL Tryz.f200 =some _)).1
theorem PK:ah ay Tryz.f200 =some i200:=by kernel_rfl
end Go.Proofs.Rom
