/- The small language's text of the functions; printed by ShowI.lean. -/
import Derived.Test.YtibpegmighopbaaGreatDoorX3
import Derived.Test.YtibpegmighopbaaGreatDoorProg
set_option maxRecDepth 100000
set_option maxHeartbeats 20000000
set_option linter.unusedSimpArgs false
set_option linter.unusedVariables false
namespace Go.Proofs.Rom
open Go.Ab
abbrev WR:List (bq×List Nat):=[(fH 2 0,[]),(gk 3 2,[]),(cA 4 18 3,[]),(iL 5 1 4,[]),(fH 6 0,[0,1,2,3]),(gk 7 6,[0,1,2,3]),(cA 8 0 7,[0,1,2,3]),(cA 9 4 8,[0,1,2,3]),(iL 10 1 9,[0,1,2,3]),(oo 11 (.bin .neq (.t 5) (.t 10)),[]),(ot 12 (.mv (.t 11)),[]),(IK 13 0 12,[]),(Js 14 13 12,[]),(AP 15 18 14 12,[]),(Jf 16 1 15 12,[]),(IK 17 0 12,[11,12,13,14]),(Js 18 17 12,[11,12,13,14]),(AP 19 0 18 12,[11,12,13,14]),(AP 20 3 19 12,[11,12,13,14]),(Jf 21 1 20 12,[11,12,13,14]),(og 22 (.bin .eql (.t 16) (.t 21)) 12 false false,[]),(KA 23 12 22,[]),(ot 24 (.mv (.t 23)),[]),(IK 25 0 24,[]),(Js 26 25 24,[]),(AP 27 28 26 24,[]),(AP 28 0 27 24,[]),(Jf 29 1 28 24,[]),(og 30 (.not (.t 29)) 24 false false,[]),(KA 31 24 30,[]),(ot 32 (.mv (.t 31)),[]),(IK 33 0 32,[]),(Js 34 33 32,[]),(AP 35 28 34 32,[]),(AP 36 1 35 32,[]),(Jf 37 1 36 32,[]),(og 38 (.not (.t 37)) 32 false false,[]),(KA 39 32 38,[]),(ot 40 (.mv (.t 39)),[]),(IK 41 0 40,[]),(Js 42 41 40,[]),(AP 43 28 42 40,[]),(AP 44 7 43 40,[]),(Jf 45 1 44 40,[]),(og 46 (.bin .neq (.t 45) (.c (.i .i64 0))) 40 false false,[]),(ot 47 (.pick (.t 40) (.c (.b true)) (.t 46)),[])]
abbrev UF:List (bq×List Nat):=[(fH 48 0,[]),(fH 49 0,[0]),(fH 50 0,[0,1]),(fH 51 0,[0,1,2]),(fH 52 0,[0,1,2,3]),(gk 53 52,[0,1,2,3]),(cA 54 18 53,[0,1,2,3]),(iL 55 1 54,[0,1,2,3]),(fH 56 0,[0,1,2,3,4,5,6,7]),(gk 57 56,[0,1,2,3,4,5,6,7]),(cA 58 28 57,[0,1,2,3,4,5,6,7]),(cA 59 4 58,[0,1,2,3,4,5,6,7]),(iL 60 1 59,[0,1,2,3,4,5,6,7]),(gk 61 48,[1,2,3]),(cA 62 0 61,[1,2,3]),(cA 63 3 62,[1,2,3]),(qW 1 63 55,[1,2,3]),(gk 64 49,[2,3]),(cA 65 0 64,[2,3]),(cA 66 8 65,[2,3]),(qW 1 66 60,[2,3]),(gk 67 50,[3]),(cA 68 0 67,[3]),(cA 69 9 68,[3]),(ZL (.st 1 (.t 69) (.c (.b true))),[3]),(gk 70 51,[]),(cA 71 0 70,[]),(cA 72 5 71,[]),(ZL (.st 1 (.t 72) (.c (.i .i64 0))),[])]
abbrev Wv:List (bq×List Nat):=[(fH 73 0,[]),(fH 74 0,[0]),(gk 75 74,[0]),(cA 76 0 75,[0]),(cA 77 14 76,[0]),(cA 78 0 77,[0]),(iL 79 1 78,[0]),(I6 80 79 1,[0]),(fH 81 0,[0,1,2,3,4,5,6,7]),(gk 82 81,[0,1,2,3,4,5,6,7]),(cA 83 19 82,[0,1,2,3,4,5,6,7]),(cA 84 2 83,[0,1,2,3,4,5,6,7]),(iL 85 1 84,[0,1,2,3,4,5,6,7]),(B5 86 225 80 85,[0]),(gk 87 73,[]),(cA 88 0 87,[]),(cA 89 10 88,[]),(qW 1 89 86,[])]
abbrev V5:List (bq×List Nat):=[(fH 90 0,[]),(fH 91 0,[0]),(gk 92 91,[0]),(cA 93 0 92,[0]),(cA 94 14 93,[0]),(cA 95 1 94,[0]),(iL 96 1 95,[0]),(fH 97 0,[0,1,2,3,4,5,6]),(gk 98 97,[0,1,2,3,4,5,6]),(cA 99 0 98,[0,1,2,3,4,5,6]),(cA 100 2 99,[0,1,2,3,4,5,6]),(iL 101 1 100,[0,1,2,3,4,5,6]),(oo 102 (.bin .add (.t 96) (.t 101)),[0]),(fH 103 0,[0,1,2,3,4,5,6,7,8,9,10,11,12]),(gk 104 103,[0,1,2,3,4,5,6,7,8,9,10,11,12]),(cA 105 19 104,[0,1,2,3,4,5,6,7,8,9,10,11,12]),(cA 106 3 105,[0,1,2,3,4,5,6,7,8,9,10,11,12]),(iL 107 1 106,[0,1,2,3,4,5,6,7,8,9,10,11,12]),(B5 108 226 102 107,[0]),(gk 109 90,[]),(cA 110 0 109,[]),(cA 111 11 110,[]),(qW 1 111 108,[])]
abbrev VI:List (bq×List Nat):=[(fH 112 0,[]),(fH 113 0,[0]),(gk 114 113,[0]),(cA 115 0 114,[0]),(cA 116 14 115,[0]),(cA 117 2 116,[0]),(iL 118 1 117,[0]),(I6 119 118 1,[0]),(fH 120 0,[0,1,2,3,4,5,6,7]),(gk 121 120,[0,1,2,3,4,5,6,7]),(cA 122 28 121,[0,1,2,3,4,5,6,7]),(cA 123 4 122,[0,1,2,3,4,5,6,7]),(iL 124 1 123,[0,1,2,3,4,5,6,7]),(oo 125 (.neg (.t 124)),[0,1,2,3,4,5,6,7]),(B5 126 227 119 125,[0]),(gk 127 112,[]),(cA 128 0 127,[]),(cA 129 12 128,[]),(qW 1 129 126,[])]
abbrev YM:List (bq×List Nat):=[(fH 130 0,[]),(fH 131 0,[0]),(gk 132 131,[0]),(cA 133 0 132,[0]),(cA 134 14 133,[0]),(cA 135 3 134,[0]),(iL 136 1 135,[0]),(I6 137 136 1,[0]),(fH 138 0,[0,1,2,3,4,5,6,7]),(gk 139 138,[0,1,2,3,4,5,6,7]),(cA 140 28 139,[0,1,2,3,4,5,6,7]),(cA 141 5 140,[0,1,2,3,4,5,6,7]),(iL 142 1 141,[0,1,2,3,4,5,6,7]),(B5 143 228 137 142,[0]),(gk 144 130,[]),(cA 145 0 144,[]),(cA 146 13 145,[]),(qW 1 146 143,[])]
abbrev X4:=[fH 147 0,fH 148 0,gk 149 148,cA 150 19 149,cA 151 2 150,iL 152 1 151,oo 153 (.call (.c (.fn 225 [])) [.t 152,.c (.i .i64 1)]),gk 154 147,cA 155 0 154,cA 156 7 155,qW 1 156 153]
abbrev ac1:bb:=(.seq (.seq (.jv WR) (.cond (.t 47) .ret .skip)) (.seq (.jv UF) (.seq (.jv Wv) (.seq (.jv V5) (.seq (.jv VI) (.seq (.jv YM) (.dY X4)))))))
def i187:cZ:=⟨1,157,[47],ac1,[]⟩
theorem Qt:ah ay Tryz.f187=some i187:=by kernel_rfl
abbrev Wu:List (bq×List Nat):=[(fH 5 0,[]),(fH 6 0,[0]),(gk 7 6,[0]),(cA 8 19 7,[0]),(cA 9 2 8,[0]),(iL 10 1 9,[0]),(fH 11 0,[0,1,2,3,4,5]),(gk 12 11,[0,1,2,3,4,5]),(cA 13 0 12,[0,1,2,3,4,5]),(cA 14 10 13,[0,1,2,3,4,5]),(iL 15 1 14,[0,1,2,3,4,5]),(B5 16 231 10 15,[0]),(fH 17 0,[0,1,2,3,4,5,6,7,8,9,10,11]),(gk 18 17,[0,1,2,3,4,5,6,7,8,9,10,11]),(cA 19 19 18,[0,1,2,3,4,5,6,7,8,9,10,11]),(cA 20 3 19,[0,1,2,3,4,5,6,7,8,9,10,11]),(iL 21 1 20,[0,1,2,3,4,5,6,7,8,9,10,11]),(fH 22 0,[0,1,2,3,4,5,6,7,8,9,10,11,12,13,14,15,16]),(gk 23 22,[0,1,2,3,4,5,6,7,8,9,10,11,12,13,14,15,16]),(cA 24 0 23,[0,1,2,3,4,5,6,7,8,9,10,11,12,13,14,15,16]),(cA 25 11 24,[0,1,2,3,4,5,6,7,8,9,10,11,12,13,14,15,16]),(iL 26 1 25,[0,1,2,3,4,5,6,7,8,9,10,11,12,13,14,15,16]),(B5 27 232 21 26,[0]),(fH 28 0,[0,1,2,3,4,5,6,7,8,9,10,11,12,13,14,15,16,17,18,19,20,21,22]),(gk 29 28,[0,1,2,3,4,5,6,7,8,9,10,11,12,13,14,15,16,17,18,19,20,21,22]),(cA 30 28 29,[0,1,2,3,4,5,6,7,8,9,10,11,12,13,14,15,16,17,18,19,20,21,22]),(cA 31 4 30,[0,1,2,3,4,5,6,7,8,9,10,11,12,13,14,15,16,17,18,19,20,21,22]),(iL 32 1 31,[0,1,2,3,4,5,6,7,8,9,10,11,12,13,14,15,16,17,18,19,20,21,22]),(fH 33 0,[0,1,2,3,4,5,6,7,8,9,10,11,12,13,14,15,16,17,18,19,20,21,22,23,24,25,26,27]),(gk 34 33,[0,1,2,3,4,5,6,7,8,9,10,11,12,13,14,15,16,17,18,19,20,21,22,23,24,25,26,27]),(cA 35 0 34,[0,1,2,3,4,5,6,7,8,9,10,11,12,13,14,15,16,17,18,19,20,21,22,23,24,25,26,27]),(cA 36 12 35,[0,1,2,3,4,5,6,7,8,9,10,11,12,13,14,15,16,17,18,19,20,21,22,23,24,25,26,27]),(iL 37 1 36,[0,1,2,3,4,5,6,7,8,9,10,11,12,13,14,15,16,17,18,19,20,21,22,23,24,25,26,27]),(B5 38 227 32 37,[0]),(fH 39 0,[0,1,2,3,4,5,6,7,8,9,10,11,12,13,14,15,16,17,18,19,20,21,22,23,24,25,26,27,28,29,30,31,32,33]),(gk 40 39,[0,1,2,3,4,5,6,7,8,9,10,11,12,13,14,15,16,17,18,19,20,21,22,23,24,25,26,27,28,29,30,31,32,33]),(cA 41 28 40,[0,1,2,3,4,5,6,7,8,9,10,11,12,13,14,15,16,17,18,19,20,21,22,23,24,25,26,27,28,29,30,31,32,33]),(cA 42 5 41,[0,1,2,3,4,5,6,7,8,9,10,11,12,13,14,15,16,17,18,19,20,21,22,23,24,25,26,27,28,29,30,31,32,33]),(iL 43 1 42,[0,1,2,3,4,5,6,7,8,9,10,11,12,13,14,15,16,17,18,19,20,21,22,23,24,25,26,27,28,29,30,31,32,33]),(fH 44 0,[0,1,2,3,4,5,6,7,8,9,10,11,12,13,14,15,16,17,18,19,20,21,22,23,24,25,26,27,28,29,30,31,32,33,34,35,36,37,38]),(gk 45 44,[0,1,2,3,4,5,6,7,8,9,10,11,12,13,14,15,16,17,18,19,20,21,22,23,24,25,26,27,28,29,30,31,32,33,34,35,36,37,38]),(cA 46 0 45,[0,1,2,3,4,5,6,7,8,9,10,11,12,13,14,15,16,17,18,19,20,21,22,23,24,25,26,27,28,29,30,31,32,33,34,35,36,37,38]),(cA 47 13 46,[0,1,2,3,4,5,6,7,8,9,10,11,12,13,14,15,16,17,18,19,20,21,22,23,24,25,26,27,28,29,30,31,32,33,34,35,36,37,38]),(iL 48 1 47,[0,1,2,3,4,5,6,7,8,9,10,11,12,13,14,15,16,17,18,19,20,21,22,23,24,25,26,27,28,29,30,31,32,33,34,35,36,37,38]),(B5 49 233 43 48,[0]),(oo 50 (.build [.i .i64 0,.i .i64 0,.i .i64 0,.i .i64 0] [(0,1,.t 16),(1,1,.t 27),(2,1,.t 38),(3,1,.t 49)]),[0]),(gk 51 5,[]),(cA 52 0 51,[]),(cA 53 14 52,[]),(qW 4 53 50,[])]
abbrev X2:=[fH 54 0,gk 55 54,cA 56 19 55,oo 57 (.ld true 9 (.t 56)),oo 2 (.new [.b false,.i .i64 0,.i .i64 0,.i .i64 0,.i .i64 0,.ns,.ns,.i .i64 0,.s []]),qW 9 2 57]
abbrev WQ:List (bq×List Nat):=[(cA 59 8 2,[]),(iL 60 1 59,[]),(fH 61 0,[0,1]),(gk 62 61,[0,1]),(cA 63 0 62,[0,1]),(cA 64 14 63,[0,1]),(cA 65 2 64,[0,1]),(iL 66 1 65,[0,1]),(fH 67 0,[0,1,2,3,4,5,6,7]),(gk 68 67,[0,1,2,3,4,5,6,7]),(cA 69 0 68,[0,1,2,3,4,5,6,7]),(cA 70 14 69,[0,1,2,3,4,5,6,7]),(cA 71 3 70,[0,1,2,3,4,5,6,7]),(iL 72 1 71,[0,1,2,3,4,5,6,7]),(oo 73 (.call (.c (.fn 234 [])) [.t 60,.t 66,.t 72]),[]),(fH 58 73,[]),(oo 74 (.ext (.t 58) 0),[]),(oo 75 (.ext (.t 58) 1),[16]),(fH 3 74,[17]),(fH 4 75,[])]
abbrev Zf:=[fH 76 4,oo 77 (.bin .eql (.t 76) (.c (.i .i64 0))),oo 78 (.call (.c (.fn 229 [])) [.t 77])]
abbrev Vr:List (bq×List Nat):=[(fH 79 0,[]),(gk 80 79,[]),(cA 81 0 80,[]),(cA 82 1 81,[]),(iL 83 1 82,[]),(fH 84 0,[0,1,2,3,4]),(gk 85 84,[0,1,2,3,4]),(cA 86 0 85,[0,1,2,3,4]),(cA 87 14 86,[0,1,2,3,4]),(cA 88 0 87,[0,1,2,3,4]),(iL 89 1 88,[0,1,2,3,4]),(fH 90 0,[0,1,2,3,4,5,6,7,8,9,10]),(gk 91 90,[0,1,2,3,4,5,6,7,8,9,10]),(cA 92 0 91,[0,1,2,3,4,5,6,7,8,9,10]),(cA 93 14 92,[0,1,2,3,4,5,6,7,8,9,10]),(cA 94 1 93,[0,1,2,3,4,5,6,7,8,9,10]),(iL 95 1 94,[0,1,2,3,4,5,6,7,8,9,10]),(fH 96 3,[0,1,2,3,4,5,6,7,8,9,10,11,12,13,14,15,16]),(cA 97 4 2,[5,6,7,8,9,10,11,12,13,14,15,16,17]),(qW 1 97 83,[5,6,7,8,9,10,11,12,13,14,15,16,17]),(cA 98 2 2,[11,12,13,14,15,16,17]),(qW 1 98 89,[11,12,13,14,15,16,17]),(cA 99 3 2,[17]),(qW 1 99 95,[17]),(cA 100 8 2,[]),(qW 1 100 96,[])]
abbrev W5:List (bq×List Nat):=[(cA 101 5 2,[]),(iL 102 1 101,[]),(oo 103 (.call (.c (.fn 90 [])) [.t 102]),[]),(cA 104 6 2,[0,1,2]),(iL 105 1 104,[0,1,2]),(oo 106 (.call (.c (.fn 235 [])) [.t 105]),[]),(cA 107 5 2,[5]),(qW 1 107 103,[]),(cA 108 6 2,[]),(qW 1 108 106,[])]
abbrev Wt:List (bq×List Nat):=[(fH 109 0,[]),(fH 110 0,[0]),(gk 111 110,[0]),(cA 112 36 111,[0]),(iL 113 1 112,[0]),(oo 114 (.ld true 9 (.t 2)),[0,1,2,3,4]),(oo 115 (.ZX [.b false,.i .i64 0,.i .i64 0,.i .i64 0,.i .i64 0,.ns,.ns,.i .i64 0,.s []] 1 [(0,9,.t 114)]),[0,1,2,3,4]),(oo 116 (.app 9 112 [.b false,.i .i64 0,.i .i64 0,.i .i64 0,.i .i64 0,.ns,.ns,.i .i64 0,.s []] (.t 113) (.t 115)),[0]),(gk 117 109,[]),(cA 118 36 117,[]),(qW 1 118 116,[])]
abbrev ad6:bb:=(.seq (.jv Wu) (lU X2 (.seq (.jv WQ) (lU Zf (.seq (.jv Vr) (.seq (.jv W5) (.jv Wt)))))))
def i191:cZ:=⟨1,119,[],ad6,[]⟩
theorem Sm:ah ay Tryz.f191=some i191:=by kernel_rfl
noncomputable def i50:cZ:=(⟨_,rfl⟩:dI (cF:ah PL Tryz.f50 =some _)).1
theorem U1:ah ay Tryz.f50 =some i50:=by kernel_rfl
noncomputable def i58:cZ:=(⟨_,rfl⟩:dI (cF:ah PL Tryz.f58 =some _)).1
theorem YE:ah ay Tryz.f58 =some i58:=by kernel_rfl
noncomputable abbrev Wj:bb:=Zv (⟨_,rfl⟩:qF (cV:i58.code.sub [1,1,1,0,1,0,0] =_))
noncomputable abbrev Vm:bb:=Zv (⟨_,rfl⟩:qF (cV:i58.code.sub [1,1,1,0,1,0,0,1,0,0,1,1,1,1,1,1,1,0,0] =_))
noncomputable def i61:cZ:=(⟨_,rfl⟩:dI (cF:ah PL Tryz.f61 =some _)).1
theorem Xv:ah ay Tryz.f61 =some i61:=by kernel_rfl
noncomputable abbrev acF:bb:=Zv (⟨_,rfl⟩:qF (cV:i61.code.sub [1,1,0,1,0,0] =_))
noncomputable abbrev ZY:List bq:=Zv (⟨_,rfl⟩:qF (cV:(i61.code.sub [1,1,1,0,0]).ops =_))
noncomputable abbrev V6:List bq:=Zv (⟨_,rfl⟩:qF (cV:(i61.code.sub [1,1,1,1,0]).ops =_))
noncomputable abbrev aaF:List bq:=Zv (⟨_,rfl⟩:qF (cV:(i61.code.sub [1,1,1,0,1,0,0]).ops =_))
noncomputable def i65:cZ:=(⟨_,rfl⟩:dI (cW:ah PL Tryz.f65 =some _)).1
theorem WN:ah ay Tryz.f65 =some i65:=by kernel_rfl
noncomputable def i66:cZ:=(⟨_,rfl⟩:dI (cF:ah PL Tryz.f66 =some _)).1
theorem Wq:ah ay Tryz.f66 =some i66:=by kernel_rfl
noncomputable def i70:cZ:=(⟨_,rfl⟩:dI (cW:ah PL Tryz.f70 =some _)).1
theorem Wz:ah ay Tryz.f70 =some i70:=by kernel_rfl
noncomputable def i90:cZ:=(⟨_,rfl⟩:dI (cW:ah PL Tryz.f90 =some _)).1
theorem xg:ah ay Tryz.f90 =some i90:=by kernel_rfl
noncomputable def i102:cZ:=(⟨_,rfl⟩:dI (cW:ah PL Tryz.f102 =some _)).1
theorem RM:ah ay Tryz.f102 =some i102:=by kernel_rfl
noncomputable def i105:cZ:=(⟨_,rfl⟩:dI (cF:ah PL Tryz.f105 =some _)).1
theorem PW:ah ay Tryz.f105 =some i105:=by kernel_rfl
noncomputable def i121:cZ:=(⟨_,rfl⟩:dI (cF:ah PL Tryz.f121 =some _)).1
theorem On:ah ay Tryz.f121 =some i121:=by kernel_rfl
noncomputable def i122:cZ:=(⟨_,rfl⟩:dI (cW:ah PL Tryz.f122 =some _)).1
theorem SY:ah ay Tryz.f122 =some i122:=by kernel_rfl
noncomputable def i123:cZ:=(⟨_,rfl⟩:dI (cF:ah PL Tryz.f123 =some _)).1
theorem Pp:ah ay Tryz.f123 =some i123:=by kernel_rfl
noncomputable def i133:cZ:=(⟨_,rfl⟩:dI (cF:ah PL Tryz.f133 =some _)).1
theorem RW:ah ay Tryz.f133 =some i133:=by kernel_rfl
noncomputable def i136:cZ:=(⟨_,rfl⟩:dI (cW:ah PL Tryz.f136 =some _)).1
theorem Nk:ah ay Tryz.f136 =some i136:=by kernel_rfl
noncomputable def i137:cZ:=(⟨_,rfl⟩:dI (cF:ah PL Tryz.f137 =some _)).1
theorem OD:ah ay Tryz.f137 =some i137:=by kernel_rfl
noncomputable def i143:cZ:=(⟨_,rfl⟩:dI (cF:ah PL Tryz.f143 =some _)).1
theorem RD:ah ay Tryz.f143 =some i143:=by kernel_rfl
noncomputable def i169:cZ:=(⟨_,rfl⟩:dI (cF:ah PL Tryz.f169 =some _)).1
theorem RU:ah ay Tryz.f169 =some i169:=by kernel_rfl
noncomputable def i182:cZ:=(⟨_,rfl⟩:dI (cW:ah PL Tryz.f182 =some _)).1
theorem PF:ah ay Tryz.f182 =some i182:=by kernel_rfl
noncomputable def i183:cZ:=(⟨_,rfl⟩:dI (cF:ah PL Tryz.f183 =some _)).1
theorem QO:ah ay Tryz.f183 =some i183:=by kernel_rfl
noncomputable def i184:cZ:=(⟨_,rfl⟩:dI (cF:ah PL Tryz.f184 =some _)).1
theorem Rl:ah ay Tryz.f184 =some i184:=by kernel_rfl
noncomputable def i185:cZ:=(⟨_,rfl⟩:dI (cW:ah PL Tryz.f185 =some _)).1
theorem Pa:ah ay Tryz.f185 =some i185:=by kernel_rfl
noncomputable def i186:cZ:=(⟨_,rfl⟩:dI (cW:ah PL Tryz.f186 =some _)).1
theorem Nh:ah ay Tryz.f186 =some i186:=by kernel_rfl
noncomputable def i188:cZ:=(⟨_,rfl⟩:dI (cF:ah PL Tryz.f188 =some _)).1
theorem R4:ah ay Tryz.f188 =some i188:=by kernel_rfl
noncomputable def i189:cZ:=(⟨_,rfl⟩:dI (cF:ah PL Tryz.f189 =some _)).1
theorem Pb:ah ay Tryz.f189 =some i189:=by kernel_rfl
noncomputable def i190:cZ:=(⟨_,rfl⟩:dI (cF:ah PL Tryz.f190 =some _)).1
theorem Sb:ah ay Tryz.f190 =some i190:=by kernel_rfl
noncomputable def i194:cZ:=(⟨_,rfl⟩:dI (cW:ah PL Tryz.f194 =some _)).1
theorem Ps:ah ay Tryz.f194 =some i194:=by kernel_rfl
noncomputable def i195:cZ:=(⟨_,rfl⟩:dI (cW:ah PL Tryz.f195 =some _)).1
theorem Q9:ah ay Tryz.f195 =some i195:=by kernel_rfl
noncomputable def i196:cZ:=(⟨_,rfl⟩:dI (cW:ah PL Tryz.f196 =some _)).1
theorem Pq:ah ay Tryz.f196 =some i196:=by kernel_rfl
noncomputable def i210:cZ:=(⟨_,rfl⟩:dI (cF:ah PL Tryz.f210 =some _)).1
theorem Rb:ah ay Tryz.f210 =some i210:=by kernel_rfl
noncomputable def i225:cZ:=(⟨_,rfl⟩:dI (cW:ah PL Tryz.f225 =some _)).1
theorem RG:ah ay Tryz.f225 =some i225:=by kernel_rfl
noncomputable def i226:cZ:=(⟨_,rfl⟩:dI (cW:ah PL Tryz.f226 =some _)).1
theorem PG:ah ay Tryz.f226 =some i226:=by kernel_rfl
noncomputable def i227:cZ:=(⟨_,rfl⟩:dI (cW:ah PL Tryz.f227 =some _)).1
theorem Pl:ah ay Tryz.f227 =some i227:=by kernel_rfl
noncomputable def i228:cZ:=(⟨_,rfl⟩:dI (cW:ah PL Tryz.f228 =some _)).1
theorem Q0:ah ay Tryz.f228 =some i228:=by kernel_rfl
noncomputable def i229:cZ:=(⟨_,rfl⟩:dI (cW:ah PL Tryz.f229 =some _)).1
theorem Ga:ah ay Tryz.f229 =some i229:=by kernel_rfl
noncomputable def i230:cZ:=(⟨_,rfl⟩:dI (cW:ah PL Tryz.f230 =some _)).1
theorem R6:ah ay Tryz.f230 =some i230:=by kernel_rfl
noncomputable def i231:cZ:=(⟨_,rfl⟩:dI (cW:ah PL Tryz.f231 =some _)).1
theorem M3:ah ay Tryz.f231 =some i231:=by kernel_rfl
noncomputable def i232:cZ:=(⟨_,rfl⟩:dI (cW:ah PL Tryz.f232 =some _)).1
theorem Ph:ah ay Tryz.f232 =some i232:=by kernel_rfl
noncomputable def i233:cZ:=(⟨_,rfl⟩:dI (cW:ah PL Tryz.f233 =some _)).1
theorem Q7:ah ay Tryz.f233 =some i233:=by kernel_rfl
noncomputable def i234:cZ:=(⟨_,rfl⟩:dI (cF:ah PL Tryz.f234 =some _)).1
theorem Ob:ah ay Tryz.f234 =some i234:=by kernel_rfl
noncomputable def i235:cZ:=(⟨_,rfl⟩:dI (cW:ah PL Tryz.f235 =some _)).1
theorem QT:ah ay Tryz.f235 =some i235:=by kernel_rfl
noncomputable def i236:cZ:=(⟨_,rfl⟩:dI (cW:ah PL Tryz.f236 =some _)).1
theorem RJ:ah ay Tryz.f236 =some i236:=by kernel_rfl
noncomputable def i248:cZ:=(⟨_,rfl⟩:dI (cF:ah PL Tryz.f248 =some _)).1
theorem FJ:ah ay Tryz.f248 =some i248:=by kernel_rfl
end Go.Proofs.Rom
