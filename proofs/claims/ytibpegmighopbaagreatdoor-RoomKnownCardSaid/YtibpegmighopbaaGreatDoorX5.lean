/- Texts laid as one. -/
import Derived.Test.YtibpegmighopbaaGreatDoorX4
import Derived.Test.YtibpegmighopbaaGreatDoorProg
import Derived.Shelf.Strings.Builder1
import Derived.Shelf.Strings.Builder2
import Derived.Shelf.Strings.SlTrimAscii
import Derived.Shelf.Strings.BuilderF
import Derived.Shelf.Strings.Prefix
import Derived.Shelf.Bits.Mul64
import Derived.Shelf.Strings.Repeat
set_option maxRecDepth 100000
set_option maxHeartbeats 20000000
set_option linter.unusedSimpArgs false
set_option linter.unusedVariables false
namespace Go.Proofs.Rom
open Go.Ab
abbrev afE:=[cD 2 0,cD 3 1,dk 4,gA 5,bT 6 0]
abbrev ag2:=[AN 7]
abbrev aok:=[bI 11 3 2,uG 12 60 3 7,cK 13 59 11 12,aa 10 13,bh 14 10 0,bh 15 10 1,dk 8,aZ 3 8 14,aa 9 15]
abbrev ajw:List (aj×List Nat):=[(bI 16 3 8,[]),(aB 17 1 7,[0]),(aa 18 9,[0,1]),(aZ 3 4 16,[1,2]),(aa 5 17,[2]),(aa 6 18,[])]
abbrev atW:=(ay afE (ay ag2 (ay aok (.seq (.cG ajw) .ret))))
def i13:dm:=⟨2,19,[],atW,[.c 4 true 3,.t 5,.t 6]⟩
theorem U5:aK av Tryz.f13=some i13:=by kernel_rfl
abbrev aoR:=[cD 7 0,cD 8 1,cD 9 2,cD 10 3,cD 11 4,cD 12 5,cD 13 6,dk 14,bT 15 0]
abbrev afI:=[bI 16 3 7,oo 17 (.Co 67 [.t 8,.t 9,.t 12,.t 13,.t 10,.t 11]),cK 18 59 16 17,bh 19 18 0,bh 20 18 1,aZ 3 14 19,aa 15 20]
abbrev aqY:=(ay aoR (ay afI .ret))
def i14:dm:=⟨7,21,[],aqY,[.c 14 true 3,.t 15]⟩
theorem XS:aK av Tryz.f14=some i14:=by kernel_rfl
abbrev aiY:=[cD 3 0,cD 4 1,cD 5 2,dk 6,bT 7 0]
abbrev ahC:=[bI 8 3 3,uG 9 77 4 5,cK 10 59 8 9,bh 11 10 0,bh 12 10 1,aZ 3 6 11,aa 7 12]
abbrev aub:=(ay aiY (ay ahC .ret))
def i15:dm:=⟨3,13,[],aub,[.c 6 true 3,.t 7]⟩
theorem Zy:aK av Tryz.f15=some i15:=by kernel_rfl
abbrev amj:=[cD 3 0,cD 4 1,cD 5 2,dk 6,bT 7 0]
abbrev agM:=[bI 8 3 3,uG 9 79 4 5,cK 10 59 8 9,bh 11 10 0,bh 12 10 1,aZ 3 6 11,aa 7 12]
abbrev aul:=(ay amj (ay agM .ret))
def i16:dm:=⟨3,13,[],aul,[.c 6 true 3,.t 7]⟩
theorem acF:aK av Tryz.f16=some i16:=by kernel_rfl
abbrev ahI:=[cD 1 0,bT 2 0]
abbrev aiv:=[bI 7 3 1,oo 8 (.build [.ns,.ns,.ns] [(0,3,.t 7)]),cD 9 8,aa 3 9]
abbrev ai0:=[oo 10 (.Qb (.s [])),aa 11 3,uF 12 80 11,xp (.KB 1 (.t 10) (.c (.s [109,101,109,98,101,114,115])) (.t 12)),aa 13 3,uF 14 81 13,xp (.KB 1 (.t 10) (.c (.s [115,104,111,119,115])) (.t 14)),aa 15 3,uF 16 82 15,xp (.KB 1 (.t 10) (.c (.s [116,97,112,115])) (.t 16)),aa 17 10,aa 4 17]
abbrev ajm:=[oo 18 (.build [.s [],.s [],.s []] [(0,1,.c (.s [109,101,109,98,101,114,115])),(1,1,.c (.s [115,104,111,119,115])),(2,1,.c (.s [116,97,112,115]))]),bT 19 0]
abbrev ah6:=[nB 20 19 3]
abbrev am2:=[oo 21 (.Rg 3 1 false (.t 18) (.t 19)),aa 6 21]
abbrev aiF:=[aa 22 4,aa 23 6,oo 24 (.mpG 1 false (.nf) (.t 22) (.t 23)),AL 25 24,nC 26 25]
abbrev afb:=[bT 2 420]
abbrev aja:=[dA 27 19 1,aa 19 27]
abbrev amu:=(ay ah6 (.seq (.cond (.t 20) .skip (.exit 0)) (.seq (.block 1 (ay am2 (ay aiF (.cond (.t 26) (ay afb .ret) .skip)))) (.cQ aja))))
abbrev WY:=[bT 2 0]
abbrev ap3:=(ay ahI (ay aiv (ay ai0 (.seq (ay ajm (.block 0 (.loop amu))) (ay WY .ret)))))
def i17:dm:=⟨1,28,[20,26],ap3,[.t 2]⟩
theorem Sc:aK av Tryz.f17=some i17:=by kernel_rfl
abbrev ajN:=[cD 2 0,cD 3 1,gA 4,bT 5 0]
abbrev akL:=[uG 6 84 2 3,du 7 83 6,bh 8 7 0,bh 9 7 1,aa 4 8,aa 5 9]
abbrev auB:=(ay ajN (ay akL .ret))
def i20:dm:=⟨2,10,[],auB,[.t 4,.t 5]⟩
theorem T2:aK av Tryz.f20=some i20:=by kernel_rfl
abbrev anp:=[cD 5 0,cD 6 1,cD 7 2,cD 8 3,cD 9 4,dk 10,bT 11 0,bT 12 0]
abbrev alQ:=[bI 16 3 5,oo 17 (.Co 89 [.t 6,.t 7,.t 8,.t 9]),cK 18 59 16 17,aa 15 18,bh 19 15 0,bh 20 15 1,dk 13,aZ 3 13 19,aa 14 20]
abbrev aoD:List (aj×List Nat):=[(bI 21 3 13,[]),(ak 22 1 13,[0]),(aB 23 1 22,[0]),(cm 24 23,[0]),(kB 25 24 1,[0]),(oo 26 (.mx (.c (.i .i64 0)) [.t 25]),[0]),(aa 27 14,[0,1,2,3,4,5]),(aZ 3 10 21,[1,2,3,4,5,6]),(aa 11 26,[6]),(aa 12 27,[])]
abbrev asv:=(ay anp (ay alQ (.seq (.cG aoD) .ret)))
def i23:dm:=⟨5,28,[],asv,[.c 10 true 3,.t 11,.t 12]⟩
theorem YP:aK av Tryz.f23=some i23:=by kernel_rfl
abbrev aia:=[cD 2 0,cD 3 1,dk 4,bT 5 0,bT 6 0]
abbrev ali:=[bI 10 3 2,oV 11 93 3,cK 12 59 10 11,aa 9 12,bh 13 9 0,bh 14 9 1,dk 7,aZ 3 7 13,aa 8 14]
abbrev alo:List (aj×List Nat):=[(bI 15 3 7,[]),(ak 16 0 7,[0]),(aB 17 1 16,[0]),(cm 18 17,[0]),(kB 19 18 1,[0]),(oo 20 (.mx (.c (.i .i64 0)) [.t 19]),[0]),(aa 21 8,[0,1,2,3,4,5]),(aZ 3 4 15,[1,2,3,4,5,6]),(aa 5 20,[6]),(aa 6 21,[])]
abbrev atz:=(ay aia (ay ali (.seq (.cG alo) .ret)))
def i24:dm:=⟨2,22,[],atz,[.c 4 true 3,.t 5,.t 6]⟩
theorem adb:aK av Tryz.f24=some i24:=by kernel_rfl
abbrev anR:=[cD 1 0,gA 2,bT 3 0]
abbrev amP:=[oV 4 104 1,du 5 103 4,bh 6 5 0,bh 7 5 1,aa 2 6,aa 3 7]
abbrev aut:=(ay anR (ay amP .ret))
def i28:dm:=⟨1,8,[],aut,[.t 2,.t 3]⟩
theorem Wq:aK av Tryz.f28=some i28:=by kernel_rfl
abbrev ahS:=[cD 2 0,cD 3 1,dk 4,bT 5 0]
abbrev ahr:=[uG 6 135 2 3,du 7 134 6,bh 8 7 0,bh 9 7 1,aZ 3 4 8,aa 5 9]
abbrev as4:=(ay ahS (ay ahr .ret))
def i59:dm:=⟨2,10,[],as4,[.c 4 true 3,.t 5]⟩
theorem Iw:aK av Tryz.f59=some i59:=by kernel_rfl
abbrev afW:=[bI 13 9 1,du 14 61 13,aa 4 14]
abbrev anY:=[aa 15 4,jZ 16 15 0,aa 17 4,cK 18 62 16 17]
abbrev alw:=[aa 19 0,bE 20 19,ak 21 0 20,ak 22 1 21,aB 23 1 22,oV 24 64 1,cK 25 63 23 24,aa 5 25]
abbrev amr:=[aa 26 5,vC 27 26 0,jd 28 62 27 4]
abbrev akC:=[ak 30 8 1,aB 31 1 30,du 32 66 31,aa 29 32,bh 33 29 0,bh 34 29 1,bh 35 29 2,aa 4 35]
abbrev ahH:=[aa 36 4,jZ 37 36 0,aa 38 4,cK 39 62 37 38]
abbrev anc:=[aa 40 0,bE 41 40,ak 42 0 41,ak 43 2 42,aB 44 1 43,cm 45 44,bT 46 0]
abbrev aiH:=[ei 47 46 45]
abbrev ajD:=[aa 48 46,aa 6 48]
abbrev akh:=[aa 49 0,bE 50 49,ak 51 0 50,ak 52 2 51,aB 53 1 52,aa 54 6,cU 55 22 53 54,aa 7 55]
abbrev YT:=[aa 56 7,bE 57 56,ak 58 1 57,aB 59 1 58,aa 60 5,uD 61 59 60]
abbrev Vq:List (aj×List Nat):=[(aa 63 7,[]),(bE 64 63,[]),(ak 65 4 64,[]),(bI 66 18 65,[]),(bI 67 9 1,[0,1,2,3]),(cK 68 50 66 67,[]),(aa 62 68,[]),(bh 69 62 0,[]),(bh 70 62 1,[7]),(bh 71 62 2,[7,8]),(oo 8 (.new pJ),[0,1,2,3,4,5,6,7,8,9]),(aZ 18 8 69,[8,9]),(aa 9 70,[9]),(aa 10 71,[])]
abbrev acp:=[aa 72 10,jZ 73 72 0,aa 74 10,cK 75 62 73 74]
abbrev XI:=[aa 76 7,bI 77 18 8,bE 78 76,ak 79 4 78,aZ 18 79 77]
abbrev T0:=[aa 80 9,cm 81 80,bT 82 0]
abbrev Xr:=[ei 83 82 81]
abbrev abG:=[cU 84 9 80 82,bI 85 9 84,C9 12 0 0 0 0 0,aZ 9 12 85]
abbrev UE:List (aj×List Nat):=[(aB 86 1 2,[]),(aa 87 7,[0]),(bE 88 87,[0]),(ak 89 0 88,[0]),(aB 90 1 89,[0]),(bI 91 9 12,[0,1,2,3,4]),(oo 92 (.build [.i .i64 0,.b false,.i .i64 0,.i .i64 0,.i .i64 0,.i .i64 0,.ns,.ns,.i .i64 0,.s []] [(0,1,.t 90),(1,9,.t 91)]),[0]),(oo 93 (.lC [.i .i64 0,.b false,.i .i64 0,.i .i64 0,.i .i64 0,.i .i64 0,.ns,.ns,.i .i64 0,.s []] 1 [(0,10,.t 92)]),[0]),(oo 94 (.app 10 120 [.i .i64 0,.b false,.i .i64 0,.i .i64 0,.i .i64 0,.i .i64 0,.ns,.ns,.i .i64 0,.s []] (.t 86) (.t 93)),[]),(aZ 1 2 94,[])]
abbrev acg:=[dA 95 82 1,aa 82 95]
abbrev acS:=(ay Xr (.seq (.cond (.t 83) .skip (.exit 2)) (.seq (.block 3 (ay abG (.cG UE))) (.cQ acg))))
abbrev Zn:=[dA 96 46 1,aa 46 96]
abbrev aej:=(ay aiH (.seq (.cond (.t 47) .skip (.exit 0)) (.seq (.block 1 (ay ajD (ay akh (.seq (ay YT (.cond (.t 61) (.exit 1) .skip)) (.seq (.cG Vq) (ay acp (ay XI (ay T0 (.block 2 (.loop acS)))))))))) (.cQ Zn))))
abbrev aqv:=(ay afW (ay anY (ay alw (ay amr (ay akC (ay ahH (ay anc (.block 0 (.loop aej)))))))))
def i60:dm:=⟨3,97,[47,61,83],aqv,[]⟩
theorem DV:aK av Tryz.f60=some i60:=by kernel_rfl
abbrev ajA:=[aa 4 0,nC 5 4]
abbrev aiJ:=[aa 6 1,oo 7 (.build [.i .i64 0] [(0,1,.t 6)]),oo 8 (.Kw 216 (.t 7)),Bu 8]
abbrev att:=(ay ajA (.cond (.t 5) (.cQ aiJ) .skip))
def i62:dm:=⟨2,9,[5],att,[]⟩
theorem I8:aK av Tryz.f62=some i62:=by kernel_rfl
abbrev afs:=[cD 2 0,cI 3]
abbrev amb:=[ak 4 1 2,aB 5 1 4,ak 6 4 1,aB 7 1 6,cK 8 65 5 7,aa 3 8]
abbrev apV:=(ay afs (ay amb .ret))
def i64:dm:=⟨2,9,[],apV,[.t 3]⟩
theorem Vw:aK av Tryz.f64=some i64:=by kernel_rfl
abbrev afw:=[aa 15 0,aB 16 1 1,aB 17 1 2,xM 18 68 15 16 17,aa 14 18,bh 19 14 0,bh 20 14 1,aa 8 19,aa 9 20]
abbrev aeY:List (aj×List Nat):=[(aa 21 0,[]),(bE 22 21,[]),(ak 23 0 22,[]),(ak 24 1 23,[]),(aB 25 1 24,[]),(aB 26 1 2,[0,1,2,3,4]),(cU 27 4 25 26,[]),(bI 28 4 27,[]),(qZ 10 0 0,[0,1,2,3,4,5,6,7]),(aZ 4 10 28,[])]
abbrev agB:=[bI 29 4 10,aB 30 1 1,cK 31 69 29 30,lV 32 31,jd 33 62 32 421]
abbrev ahz:=[ak 35 1 10,aB 36 1 35,aB 37 1 3,aB 38 1 4,oo 39 (.build xz []),oo 40 (.call (.c (.fn 70 [])) [.t 36,.t 37,.t 38,.t 39]),aa 34 40,bh 41 34 0,bh 42 34 1,oo 11 (.new pJ),aZ 18 11 41,aa 12 42]
abbrev agD:=[aa 43 9,lV 44 43,aO 45 44,cw 46 1 5 45,A8 47 71 1 46 10 45,bF 48 45 47,aO 49 48,cw 50 1 6 49,cr 51 1 10 49,cw 52 1 51 49,rS 53 52 49,BG 54 53 1 49,A0 55 71 0 50 54 49,bF 56 49 55,aO 57 56,bb 58 12 57,cq 59 58 0 57,bF 60 57 59,jd 61 62 60 2]
abbrev anq:=[aa 62 0,aB 63 1 1,cK 64 72 62 63,aa 13 64]
abbrev ajE:=[aa 65 13,oV 66 74 3,cK 67 73 65 66,lV 68 67,jd 69 62 68 2]
abbrev afA:=[aa 70 13,cm 71 70,uq 72 71 5,jd 73 62 72 3]
abbrev afy:List (aj×List Nat):=[(aa 74 0,[]),(aa 75 0,[0]),(bE 76 75,[0]),(ak 77 0 76,[0]),(ak 78 2 77,[0]),(aB 79 1 78,[0]),(aa 80 8,[0,1,2,3,4,5]),(aB 81 1 1,[0,1,2,3,4,5,6]),(aB 82 1 2,[0,1,2,3,4,5,6,7]),(aB 83 1 5,[0,1,2,3,4,5,6,7,8]),(aB 84 1 6,[0,1,2,3,4,5,6,7,8,9]),(bI 85 18 11,[0,1,2,3,4,5,6,7,8,9,10]),(oo 86 (.build nK [(0,1,.t 81),(1,1,.t 82),(2,1,.t 83),(3,1,.t 84),(4,18,.t 85)]),[0,1,2,3,4,5,6]),(oo 87 (.lC nK 1 [(0,22,.t 86)]),[0,1,2,3,4,5,6]),(xM 88 75 79 80 87,[0]),(bE 89 74,[]),(ak 90 0 89,[]),(ak 91 2 90,[]),(aZ 1 91 88,[])]
abbrev anB:=[aa 92 0,aB 93 1 1,cK 94 76 92 93]
abbrev aqP:=(ay afw (.seq (.cG aeY) (ay agB (ay ahz (ay agD (ay anq (ay ajE (ay afA (.seq (.cG afy) (.cQ anB))))))))))
def i67:dm:=⟨7,95,[],aqP,[]⟩
theorem zH:aK av Tryz.f67=some i67:=by kernel_rfl
abbrev anF:=[bT 6 0,cI 7]
abbrev amM:=[aa 8 1,aa 9 0,bE 10 9,ak 11 0 10,ak 12 0 11,aB 13 1 12,cm 14 13,kB 15 14 1,yc 16 71 0 8 15,aO 17 16,bb 18 2 17,bb 19 0 17,uw 20 19 17,cr 21 0 20 17,cr 22 1 21 17,cw 23 1 22 17,rS 24 23 17,BG 25 24 1 17,A0 26 71 0 18 25 17,bF 27 17 26,jd 28 62 27 2]
abbrev ajF:=[aa 29 0,bE 30 29,ak 31 0 30,ak 32 2 31,aB 33 1 32,aa 34 1,aa 35 2,oo 36 (.build nK [(0,1,.t 34),(1,1,.t 35)]),oo 37 (.call (.c (.fn 138 [])) [.t 33,.t 36,.c (.fn 139 [])]),bh 38 37 0,bh 39 37 1,aa 6 38,aa 7 39]
abbrev atQ:=(ay anF (ay amM (ay ajF .ret)))
def i68:dm:=⟨3,40,[],atQ,[.t 6,.t 7]⟩
theorem JT:aK av Tryz.f68=some i68:=by kernel_rfl
abbrev agN:=[cD 2 0,cI 4]
abbrev alh:=[ak 5 0 2,aB 6 1 5,aa 7 1,yb 8 6 7,aO 9 8,cE 10 3 2 9,cP 11 1 10 9,fB 12 1 9,yz 13 11 12 9,og 14 (.bin .and (.t 13) (.c (.i .u64 1))) 9 false false,og 15 (.bin .eql (.t 14) (.c (.i .u64 1))) 9 false false,ep 16 9 15,aa 4 16]
abbrev aqJ:=(ay agN (ay alh .ret))
def i69:dm:=⟨2,17,[],aqJ,[.t 4]⟩
theorem acA:aK av Tryz.f69=some i69:=by kernel_rfl
abbrev aka:=[cI 6]
abbrev afB:=[aa 7 1,aa 8 0,oo 9 (.bin .geq (.t 7) (.t 8)),aO 10 9,bb 11 1 10,bb 12 2 10,BQ 13 11 12 10,bF 14 10 13,aa 6 14]
abbrev ap9:=(ay aka (ay afB .ret))
def i71:dm:=⟨3,15,[],ap9,[.t 6]⟩
theorem VX:aK av Tryz.f71=some i71:=by kernel_rfl
abbrev anh:=[gA 4]
abbrev afx:=[gA 5]
abbrev ahP:=[aa 7 0,bE 8 7,ak 9 0 8,ak 10 2 9,aB 11 1 10,cm 12 11,bT 13 0]
abbrev agv:=[ei 14 13 12]
abbrev anm:=[aa 15 13,aa 6 15]
abbrev akr:=[aa 16 0,bE 17 16,ak 18 0 17,ak 19 2 18,aB 20 1 19,aa 21 6,cU 22 22 20 21,ak 23 0 22,aB 24 1 23,aa 25 1,zX 26 24 25]
abbrev ajB:=[aa 27 5,aa 28 0,bE 29 28,ak 30 0 29,ak 31 2 30,aB 32 1 31,aa 33 6,cU 34 22 32 33,oo 35 (.lC [.np] 1 [(0,1,.t 34)]),oo 36 (.app 1 8 [.np] (.t 27) (.t 35)),aa 5 36]
abbrev aj8:=[dA 37 13 1,aa 13 37]
abbrev J2:=(ay agv (.seq (.cond (.t 14) .skip (.exit 0)) (.seq (.block 1 (ay anm (ay akr (.cond (.t 26) (.cQ ajB) .skip)))) (.cQ aj8))))
abbrev aiM:=[aa 38 5,aa 4 38]
abbrev auq:=(ay anh (ay afx (.seq (ay ahP (.block 0 (.loop J2))) (ay aiM .ret))))
def i72:dm:=⟨2,39,[14,26],auq,[.t 4]⟩
theorem Ds:aK av Tryz.f72=some i72:=by kernel_rfl
abbrev alN:=[cI 4]
abbrev ajY:=[aa 5 0,aa 6 1,cK 7 140 5 6,vC 8 7 0,aa 4 8]
abbrev arX:=(ay alN (ay ajY .ret))
def i73:dm:=⟨2,9,[],arX,[.t 4]⟩
theorem X8:aK av Tryz.f73=some i73:=by kernel_rfl
abbrev aga:=[cI 3]
abbrev af6:List (aj×List Nat):=[(aa 4 0,[]),(bE 5 4,[]),(ak 6 4 5,[]),(ak 7 1 6,[]),(aB 8 1 7,[]),(aB 9 1 1,[0,1,2,3,4]),(yb 10 8 9,[]),(aa 3 10,[])]
abbrev atx:=(ay aga (.seq (.cG af6) .ret))
def i74:dm:=⟨2,11,[],atx,[.t 3]⟩
theorem U4:aK av Tryz.f74=some i74:=by kernel_rfl
abbrev amd:=[aa 9 0,aa 10 1,cK 11 86 9 10,aa 4 11]
abbrev ahQ:=[aa 12 0,aa 13 1,cK 14 72 12 13,cm 15 14,bT 16 0]
abbrev alg:=[ei 17 16 15]
abbrev anr:=[aa 18 16,cU 19 1 14 16,aB 20 1 19,aa 5 18,aa 6 20]
abbrev akU:List (aj×List Nat):=[(aa 22 6,[]),(bE 23 22,[]),(ak 24 4 23,[]),(bI 25 18 24,[]),(aa 26 4,[0,1,2,3]),(aa 27 5,[0,1,2,3,4]),(cU 28 1 26 27,[0,1,2,3]),(aB 29 1 28,[0,1,2,3]),(oo 30 (.call (.c (.fn 143 [])) [.t 25,.t 29,.c (.i .i64 3)]),[]),(aa 21 30,[]),(bh 31 21 0,[]),(bh 32 21 1,[10]),(oo 7 (.new pJ),[0,1,2,3,4,5,6,7,8,9,10,11]),(aZ 18 7 31,[11]),(aa 8 32,[])]
abbrev amR:=[aa 33 8,jZ 34 33 0,aa 35 8,cK 36 62 34 35]
abbrev afT:=[aa 37 6,bI 38 18 7,bE 39 37,ak 40 4 39,aZ 18 40 38]
abbrev afH:=[dA 41 16 1,aa 16 41]
abbrev ahl:=(ay alg (.seq (.cond (.t 17) .skip (.exit 0)) (.seq (.block 1 (ay anr (.seq (.cG akU) (ay amR (.cQ afT))))) (.cQ afH))))
abbrev aqr:=(ay amd (ay ahQ (.block 0 (.loop ahl))))
def i76:dm:=⟨2,42,[17],aqr,[]⟩
theorem HI:aK av Tryz.f76=some i76:=by kernel_rfl
abbrev akb:=[aa 7 0,aB 8 1 1,aB 9 1 2,xM 10 68 7 8 9,aa 6 10,bh 11 6 0,bh 12 6 1,aa 4 11,aa 5 12]
abbrev akn:=[aa 13 5,jd 14 62 13 4]
abbrev agC:=[aa 15 0,aa 16 0,bE 17 16,ak 18 0 17,ak 19 2 18,aB 20 1 19,aa 21 4,aa 22 4,dA 23 22 1,xM 24 78 20 21 23,bE 25 15,ak 26 0 25,ak 27 2 26,aZ 1 27 24]
abbrev afn:=[aa 28 0,aB 29 1 1,cK 30 76 28 29]
abbrev aqp:=(ay akb (ay akn (ay agC (.cQ afn))))
def i77:dm:=⟨3,31,[],aqp,[]⟩
theorem CY:aK av Tryz.f77=some i77:=by kernel_rfl
abbrev amL:=[gA 6]
abbrev ah5:=[aa 8 0,aa 9 1,aa 10 2,aa 11 0,cm 12 11,oo 13 (.qT 22 (.t 8) (some (.t 9)) (some (.t 10)) (some (.t 12)))]
abbrev agj:=[aa 14 1,aa 15 2,zX 16 14 15]
abbrev ahu:=[aa 17 0,aa 6 17]
abbrev ae1:=[aa 18 0,cm 19 18,aa 7 19]
abbrev amo:List (aj×List Nat):=[(aa 20 0,[]),(aa 21 1,[0]),(zc 22 22 20 21,[]),(aa 23 0,[0,1,2]),(aa 24 2,[0,1,2,3]),(BE 25 22 23 24,[0,1,2]),(oo 26 (.app 22 192 nK (.t 22) (.t 25)),[]),(aa 0 26,[])]
abbrev ajV:=[aa 27 0,aa 28 0,cm 29 28,aa 30 7,oo 31 (.qT 22 (.t 27) (some (.t 29)) (some (.t 30)) none),xp (.Rt 22 nK (.t 31))]
abbrev alx:=[aa 32 0,aa 6 32]
abbrev at2:=(ay amL (ay ah5 (.seq (ay agj (.cond (.t 16) (ay ahu .ret) .skip)) (ay ae1 (.seq (.cG amo) (ay ajV (ay alx .ret)))))))
def i78:dm:=⟨3,33,[16],at2,[.t 6]⟩
theorem adI:aK av Tryz.f78=some i78:=by kernel_rfl
abbrev akH:List (aj×List Nat):=[(aB 4 1 1,[]),(aa 5 0,[0]),(bE 6 5,[0]),(ak 7 0 6,[0]),(ak 8 0 7,[0]),(aB 9 1 8,[0]),(cm 10 9,[0]),(kB 11 10 1,[0]),(yc 12 71 0 4 11,[]),(aO 13 12,[]),(cw 14 1 2 13,[]),(A8 15 71 0 14 1073741824 13,[]),(bF 16 13 15,[]),(jd 17 62 16 2,[])]
abbrev ak7:List (aj×List Nat):=[(aa 18 0,[]),(bE 19 18,[]),(ak 20 0 19,[]),(ak 21 0 20,[]),(aB 22 1 21,[]),(aB 23 1 1,[0,1,2,3,4]),(aB 24 1 2,[0,1,2,3,4,5]),(cU 25 2 22 23,[]),(ak 26 1 25,[]),(aZ 1 26 24,[])]
abbrev agw:=[aa 27 0,aB 28 1 1,cK 29 76 27 28]
abbrev asF:bG:=(.seq (.cG akH) (.seq (.cG ak7) (.cQ agw)))
def i79:dm:=⟨3,30,[],asF,[]⟩
theorem Dh:aK av Tryz.f79=some i79:=by kernel_rfl
abbrev afL:=[cD 1 0,cI 2]
abbrev alL:=[aB 3 1 1,bE 4 3,ak 5 0 4,ak 6 0 5,aB 7 1 6,cm 8 7,oo 9 (.bin .leq (.t 8) (.c (.i .i64 6))),aO 10 9,cw 11 1 1 10,uw 12 11 10,cr 13 0 12 10,cr 14 0 13 10,cw 15 1 14 10,og 16 (.Co 145 [.t 1]) 10 true false,so 17 144 15 16 10,bF 18 10 17,aa 2 18]
abbrev ato:=(ay afL (ay alL .ret))
def i80:dm:=⟨1,19,[],ato,[.t 2]⟩
theorem Vc:aK av Tryz.f80=some i80:=by kernel_rfl
abbrev agZ:=[cD 1 0,cI 2]
abbrev aoE:=[aB 3 1 1,bE 4 3,ak 5 0 4,ak 6 1 5,aB 7 1 6,cm 8 7,oo 9 (.bin .leq (.t 8) (.c (.i .i64 6))),aO 10 9,cw 11 1 1 10,uw 12 11 10,cr 13 0 12 10,cr 14 1 13 10,cw 15 1 14 10,og 16 (.Co 147 [.t 1]) 10 true false,so 17 146 15 16 10,bF 18 10 17,aO 19 18,cw 20 1 1 19,og 21 (.call (.c (.fn 92 [])) [.t 20,.c (.ns)]) 19 true false,bF 22 19 21,aa 2 22]
abbrev arp:=(ay agZ (ay aoE .ret))
def i81:dm:=⟨1,23,[],arp,[.t 2]⟩
theorem adM:aK av Tryz.f81=some i81:=by kernel_rfl
abbrev anS:=[cD 1 0,cI 2]
abbrev ahW:=[aB 8 1 1,bE 9 8,ak 10 0 9,ak 11 2 10,aB 12 1 11,oV 13 149 1,cK 14 148 12 13,nC 15 14]
abbrev aiO:=[cI 2]
abbrev akd:=[aB 16 1 1,bE 17 16,ak 18 0 17,ak 19 0 18,aB 20 1 19,cm 21 20,bT 22 0]
abbrev aoH:=[ei 23 22 21]
abbrev alR:=[aa 24 22,aa 3 24]
abbrev amx:=[oo 25 (.Qb (.i [])),aa 4 25]
abbrev ahc:=[aB 26 1 1,aa 27 3,cK 28 72 26 27,aa 5 28]
abbrev ag6:=[aa 29 5,cm 30 29,bT 31 0]
abbrev aoS:=[ei 32 31 30]
abbrev T6:=[cU 33 1 29 31,aB 34 1 33,aa 7 34]
abbrev Tc:=[aa 35 4,aa 36 7,bE 37 36,ak 38 4 37,ak 39 1 38,aB 40 1 39,xp (.KB 0 (.t 35) (.t 40) (.c (.b true)))]
abbrev abS:=[dA 41 31 1,aa 31 41]
abbrev aaz:=(ay aoS (.seq (.cond (.t 32) .skip (.exit 2)) (.seq (.block 3 (ay T6 (.cQ Tc))) (.cQ abS))))
abbrev ZQ:=[aa 42 4,oo 43 (.J1 (.t 42)),aa 44 5,cm 45 44,oo 46 (.bin .lss (.t 43) (.t 45)),aO 47 46,fB 48 5 47,kU 49 48 47,Dg 50 49 5 47,jV 51 47 50]
abbrev Th:=[cI 2]
abbrev XH:=[dA 52 22 1,aa 22 52]
abbrev ZV:=(ay aoH (.seq (.cond (.t 23) .skip (.exit 0)) (.seq (.block 1 (ay alR (ay amx (ay ahc (.seq (ay ag6 (.block 2 (.loop aaz))) (ay ZQ (.cond (.t 51) (ay Th .ret) .skip))))))) (.cQ XH))))
abbrev ab3:=[pY 2]
abbrev asN:=(ay anS (.seq (ay ahW (.cond (.t 15) (ay aiO .ret) .skip)) (.seq (ay akd (.block 0 (.loop ZV))) (ay ab3 .ret))))
def i82:dm:=⟨1,53,[15,23,32,51],asN,[.t 2]⟩
theorem Wu:aK av Tryz.f82=some i82:=by kernel_rfl
abbrev Qm:=[AN 2,wm 3 0]
abbrev alZ:=[uG 4 151 2 3,xp (.w9 (.t 4) [])]
abbrev ajZ:=[aa 5 0,AL 6 5,aZ 1 2 6,nA 1 3 0]
abbrev aqg:=(ay Qm (ay alZ (ay ajZ .ret)))
def i83:dm:=⟨1,7,[],aqg,[.c 2 false 1,.c 3 false 1]⟩
theorem ac9:aK av Tryz.f83=some i83:=by kernel_rfl
abbrev aoT:=[gA 2]
abbrev aiC:=[bI 4 3 0,du 5 85 4,aa 3 5]
abbrev aiU:List (aj×List Nat):=[(aB 6 1 1,[]),(aa 7 3,[0]),(bE 8 7,[0]),(ak 9 0 8,[0]),(ak 10 0 9,[0]),(aB 11 1 10,[0]),(cm 12 11,[0]),(kB 13 12 1,[0]),(yc 14 71 0 6 13,[]),(jd 15 62 14 2,[])]
abbrev afu:=[aa 16 3,aB 17 1 1,cK 18 86 16 17,aa 2 18]
abbrev asu:=(ay aoT (ay aiC (.seq (.cG aiU) (ay afu .ret))))
def i84:dm:=⟨2,19,[],asu,[.t 2]⟩
theorem y0:aK av Tryz.f84=some i84:=by kernel_rfl
abbrev aoG:=[cD 1 0,oo 2 (.mv (.c (.np)))]
abbrev aeV:=[bI 8 3 1,du 9 17 8,jZ 10 9 0,jd 11 62 10 420]
abbrev akJ:=[ak 12 0 1,aB 13 1 12,du 14 152 13,oo 15 (.build [.ns,.ns,.ns] [(0,1,.t 14)]),oo 16 (.build [.ns,.ns,.ns] [(0,3,.t 15)]),cD 17 16,aa 3 17]
abbrev aiR:=[ak 18 1 1,aB 19 1 18,cm 20 19,bT 21 0]
abbrev anE:=[ei 22 21 20]
abbrev amO:=[cU 23 4 19 21,bI 24 4 23,qZ 5 0 0,aZ 4 5 24]
abbrev alE:List (aj×List Nat):=[(ak 25 1 5,[]),(aB 26 1 25,[]),(du 27 90 26,[]),(ak 28 2 5,[0,1,2]),(aB 29 1 28,[0,1,2]),(du 30 90 29,[]),(ak 31 1 5,[5]),(aZ 1 31 27,[]),(ak 32 2 5,[]),(aZ 1 32 30,[])]
abbrev alW:List (aj×List Nat):=[(aa 33 3,[]),(aa 34 3,[0]),(bE 35 34,[0]),(ak 36 0 35,[0]),(ak 37 1 36,[0]),(aB 38 1 37,[0]),(bI 39 4 5,[0,1,2,3,4,5]),(Ak 40 0 0 1 0 4 39,[0,1,2,3,4,5]),(yQ 41 4 64 0 0 38 40,[0]),(bE 42 33,[]),(ak 43 0 42,[]),(ak 44 1 43,[]),(aZ 1 44 41,[])]
abbrev af5:=[dA 45 21 1,aa 21 45]
abbrev Qr:=(ay anE (.seq (.cond (.t 22) .skip (.exit 0)) (.seq (.block 1 (ay amO (.seq (.cG alE) (.cG alW)))) (.cQ af5))))
abbrev WZ:=[ak 46 2 1,aB 47 1 46,cm 48 47,bT 49 0]
abbrev X6:=[ei 50 49 48]
abbrev Us:=[cU 51 22 47 49,bI 52 22 51,oo 7 (.new nK),aZ 22 7 52]
abbrev ZM:=[ak 53 4 7,ak 54 0 53,aB 55 1 54,du 56 90 55,ak 57 4 7,ak 58 0 57,aZ 1 58 56]
abbrev S9:List (aj×List Nat):=[(aa 59 3,[]),(aa 60 3,[0]),(bE 61 60,[0]),(ak 62 0 61,[0]),(ak 63 2 62,[0]),(aB 64 1 63,[0]),(bI 65 22 7,[0,1,2,3,4,5]),(oo 66 (.lC nK 1 [(0,22,.t 65)]),[0,1,2,3,4,5]),(oo 67 (.app 22 192 nK (.t 64) (.t 66)),[0]),(bE 68 59,[]),(ak 69 0 68,[]),(ak 70 2 69,[]),(aZ 1 70 67,[])]
abbrev adK:=[dA 71 49 1,aa 49 71]
abbrev IA:=(ay X6 (.seq (.cond (.t 50) .skip (.exit 2)) (.seq (.block 3 (ay Us (ay ZM (.cG S9)))) (.cQ adK))))
abbrev X7:=[aa 72 3,aa 2 72]
abbrev aqQ:=(ay aoG (ay aeV (ay akJ (.seq (ay aiR (.block 0 (.loop Qr))) (.seq (ay WZ (.block 2 (.loop IA))) (ay X7 .ret))))))
def i85:dm:=⟨1,73,[22,50],aqQ,[.t 2]⟩
theorem DI:aK av Tryz.f85=some i85:=by kernel_rfl
abbrev ahi:=[cD 2 0,gA 4]
abbrev afi:List (aj×List Nat):=[(aB 11 1 2,[]),(aa 12 1,[0]),(cK 13 72 11 12,[]),(aB 14 1 2,[0,1,2]),(bE 15 14,[0,1,2]),(ak 16 0 15,[0,1,2]),(ak 17 0 16,[0,1,2]),(aB 18 1 17,[0,1,2]),(aa 19 1,[0,1,2,3,4,5,6,7]),(cU 20 2 18 19,[0,1,2]),(ak 21 1 20,[0,1,2]),(aB 22 1 21,[0,1,2]),(AN 5,[0,1,2,3,4,5,6,7,8,9,10,11]),(wm 6 0,[0,1,2,3,4,5,6,7,8,9,10,11,12]),(aZ 1 5 13,[3,4,5,6,7,8,9,10,11]),(aZ 1 6 22,[])]
abbrev ahG:=[AN 7]
abbrev ago:=[oo 8 (.new [.i .i64 0,.i .i64 0])]
abbrev al6:=[aB 23 1 5,du 24 153 23]
abbrev aoB:=[aa 9 25]
abbrev als:=[aB 26 1 2,aB 27 1 5,aa 28 9,aB 29 1 6,oo 30 (.call (.c (.fn 154 [])) [.t 26,.t 27,.t 28,.t 29]),oo 10 (.new [.i .i64 0,.i .i64 0]),aZ 2 10 30]
abbrev alB:List (aj×List Nat):=[(oo 31 (.Ii 2 1 (.t 10) (.c (.i .i64 1))),[]),(aB 32 1 31,[]),(vC 33 32 0,[]),(aO 34 33,[]),(cw 35 1 7 34,[]),(og 36 (.EO false 1 (.t 35) (.c (.ns))) 34 true false,[]),(tJ 37 36 34,[]),(og 38 (.slA 2 1 (.t 10) none none none) 37 false false,[]),(og 39 (.slA 2 1 (.t 8) none none none) 37 false false,[7]),(xW 40 155 38 39 37,[]),(Dg 41 40 0 37,[]),(uy 42 37 41 34,[]),(zf 43 34 42,[])]
abbrev ajK:List (aj×List Nat):=[(aa 44 9,[]),(du 45 90 44,[]),(bI 46 2 10,[0,1]),(aZ 1 7 45,[2]),(aZ 2 8 46,[])]
abbrev w8:bG:=(.cQ aoB)
abbrev vL:bG:=(.block 1 (.seq (.cQ als) (.seq (.cG alB) (.cond (.t 43) (.cG ajK) .skip))))
abbrev HV:=[aB 47 1 7,aa 4 47]
abbrev arn:=(ay ahi (.seq (.cG afi) (ay ahG (ay ago (.seq (ay al6 (.block 0 (.oO (.t 24) [25] w8 vL))) (ay HV .ret))))))
def i86:dm:=⟨2,48,[43],arn,[.t 4]⟩
theorem Jq:aK av Tryz.f86=some i86:=by kernel_rfl
abbrev aky:List (aj×List Nat):=[(aB 7 1 1,[]),(aB 8 1 2,[0]),(du 9 90 8,[0]),(aB 10 1 3,[0,1,2]),(du 11 90 10,[0]),(aB 12 1 4,[0,1,2,3,4]),(oo 13 (.build [.i .i64 0,.ns,.ns,.i .u64 0] [(0,1,.t 7),(1,1,.t 9),(2,1,.t 11),(3,1,.t 12)]),[]),(qZ 6 0 0,[0,1,2,3,4,5,6]),(aZ 4 6 13,[])]
abbrev ao6:=[aa 14 0,bI 15 4 6,cK 16 91 14 15,aO 17 16,bb 18 0 17,cw 19 1 2 17,so 20 92 18 19 17,bF 21 17 20,jd 22 62 21 2]
abbrev akf:=[aa 23 0,bE 24 23,ak 25 0 24,ak 26 1 25,aB 27 1 26,cm 28 27,uq 29 28 6,jd 30 62 29 3]
abbrev alG:List (aj×List Nat):=[(aa 31 0,[]),(aa 32 0,[0]),(bE 33 32,[0]),(ak 34 0 33,[0]),(ak 35 1 34,[0]),(aB 36 1 35,[0]),(bI 37 4 6,[0,1,2,3,4,5]),(Ak 38 0 0 1 0 4 37,[0,1,2,3,4,5]),(yQ 39 4 64 0 0 36 38,[0]),(bE 40 31,[]),(ak 41 0 40,[]),(ak 42 1 41,[]),(aZ 1 42 39,[])]
abbrev arx:bG:=(.seq (.cG aky) (ay ao6 (ay akf (.cG alG))))
def i89:dm:=⟨5,43,[],arx,[]⟩
theorem zj:aK av Tryz.f89=some i89:=by kernel_rfl
abbrev ajW:=[cD 3 1,cI 4]
abbrev am6:=[aa 6 0,bE 7 6,ak 8 0 7,ak 9 0 8,aB 10 1 9,cm 11 10,aa 5 11]
abbrev aoo:=[ak 12 0 3,aB 13 1 12,aa 14 5,kB 15 14 1,yc 16 71 0 13 15,lV 17 16,aO 18 17,cE 19 1 3 18,cP 20 1 19 18,kU 21 20 18,Ag 22 71 1 21 3 18,jx 23 22 18,ep 24 18 23,aO 25 24,cE 26 2 3 25,cP 27 1 26 25,kU 28 27 25,cE 29 1 3 25,cP 30 1 29 25,kU 31 30 25,wx 32 28 31 25,ep 33 25 32,aO 34 33,cE 35 3 3 34,cP 36 1 35 34,fB 37 5 34,yz 38 36 37 34,og 39 (.bin .neq (.t 38) (.c (.i .u64 0))) 34 false false,ep 40 34 39,aO 41 40,cE 42 3 3 41,cP 43 1 42 41,cE 44 0 3 41,cP 45 1 44 41,yz 46 43 45 41,og 47 (.bin .and (.t 46) (.c (.i .u64 1))) 41 false false,og 48 (.bin .eql (.t 47) (.c (.i .u64 1))) 41 false false,jV 49 41 48]
abbrev alb:=[cI 4]
abbrev ao5:=[ak 50 1 3,aB 51 1 50,oo 52 (.call (.c (.fn 157 [])) [.t 51,.c (.fn 158 [])]),aO 53 52,cr 54 2 3 53,cw 55 1 54 53,og 56 (.Co 159 [.t 3]) 53 true false,so 57 157 55 56 53,bF 58 53 57,aa 4 58]
abbrev auy:=(ay ajW (ay am6 (.seq (ay aoo (.cond (.t 49) (ay alb .ret) .skip)) (ay ao5 .ret))))
def i91:dm:=⟨2,59,[49],auy,[.t 4]⟩
theorem acM:aK av Tryz.f91=some i91:=by kernel_rfl
abbrev agl:=[cI 4]
abbrev ana:=[oo 8 (.Qb (.i [])),oo 5 (.new [.nm]),aZ 1 5 8]
abbrev aj5:=[aa 9 1,du 10 90 9,aa 1 10]
abbrev ahv:=[aa 11 0,bE 12 11,ak 13 0 12,ak 14 1 13,aB 15 1 14,cm 16 15,bT 17 0]
abbrev ak3:=[ei 18 17 16]
abbrev anU:=[cU 19 4 15 17,bI 20 4 19,qZ 7 0 0,aZ 4 7 20]
abbrev aoX:=[aa 21 1,ak 22 1 7,aB 23 1 22,Cd 24 1 8 0 21 23,aa 1 24]
abbrev agy:=[dA 25 17 1,aa 17 25]
abbrev Hz:=(ay ak3 (.seq (.cond (.t 18) .skip (.exit 0)) (.seq (.block 1 (ay anU (.cQ aoX))) (.cQ agy))))
abbrev aj3:=[aa 26 1,oV 27 160 5,cK 28 157 26 27,aa 4 28]
abbrev aqA:=(ay agl (ay ana (ay aj5 (.seq (ay ahv (.block 0 (.loop Hz))) (ay aj3 .ret)))))
def i92:dm:=⟨2,29,[18],aqA,[.t 4]⟩
theorem RY:aK av Tryz.f92=some i92:=by kernel_rfl
abbrev aeZ:=[aB 3 1 1,du 4 94 3,aO 5 4,bb 6 0 5,cw 7 1 1 5,so 8 95 6 7 5,og 9 (.bin .lss (.t 8) (.c (.i .i64 0))) 5 true false,bF 10 5 9,jd 11 62 10 2]
abbrev ah4:=[aa 12 0,bE 13 12,ak 14 0 13,ak 15 0 14,aB 16 1 15,cm 17 16,uq 18 17 6,jd 19 62 18 3]
abbrev am5:List (aj×List Nat):=[(aa 20 0,[]),(aa 21 0,[0]),(bE 22 21,[0]),(ak 23 0 22,[0]),(ak 24 0 23,[0]),(aB 25 1 24,[0]),(aB 26 1 1,[0,1,2,3,4,5]),(oo 27 (.build [.s [],.i .i64 0] [(0,1,.t 26)]),[0,1,2,3,4,5]),(oo 28 (.lC [.s [],.i .i64 0] 1 [(0,2,.t 27)]),[0,1,2,3,4,5]),(zk 29 2 24 0 25 28,[0]),(bE 30 20,[]),(ak 31 0 30,[]),(ak 32 0 31,[]),(aZ 1 32 29,[])]
abbrev asy:=(ay aeZ (ay ah4 (.cG am5)))
def i93:dm:=⟨2,33,[],asy,[]⟩
theorem zA:aK av Tryz.f93=some i93:=by kernel_rfl
abbrev agG:=[cI 2]
abbrev akx:=[aa 3 0,oo 4 (.bin .neq (.t 3) (.c (.s []))),aO 5 4,bb 6 0 5,og 7 (.BH (.t 6)) 5 true false,DU 8 7 16 5,bF 9 5 8,aO 10 9,bb 11 0 10,og 12 (.call (.c (.fn 161 [])) [.t 11,.c (.s [97,98,99,100,101,102,103,104,105,106,107,108,109,110,111,112,113,114,115,116,117,118,119,120,121,122])]) 10 true false,og 13 (.bin .eql (.t 12) (.c (.s []))) 10 true false,bF 14 10 13,aa 2 14]
abbrev ast:=(ay agG (ay akx .ret))
def i94:dm:=⟨1,15,[],ast,[.t 2]⟩
theorem aaT:aK av Tryz.f94=some i94:=by kernel_rfl
abbrev aij:=[cD 3 1,bT 4 0]
abbrev aow:=[aa 5 0,bE 6 5,ak 7 0 6,ak 8 0 7,aB 9 1 8,oV 10 163 3,cK 11 162 9 10,aa 4 11]
abbrev atE:=(ay aij (ay aow .ret))
def i95:dm:=⟨2,12,[],atE,[.t 4]⟩
theorem aee:aK av Tryz.f95=some i95:=by kernel_rfl
abbrev ake:=[yV 4 0,yV 5 0]
abbrev ajX:=[aa 11 0,vg 12 11,aa 13 1,vg 14 13,cK 15 164 12 14,aa 10 15,bh 16 10 0,bh 17 10 1,aa 6 16,aa 7 17]
abbrev akz:=[aa 18 6,wX 19 18,aa 20 7,wX 21 20,aa 4 19,aa 5 21]
abbrev aiw:=[aa 23 0,aa 24 1,cK 25 165 23 24,aa 22 25,bh 26 22 0,bh 27 22 1,aa 8 26,aa 9 27]
abbrev amN:=[aa 28 8,aa 29 9,aa 4 28,aa 5 29]
abbrev atI:=(ay ake (.seq (.cond (.c (.b false)) (ay ajX (ay akz .ret)) .skip) (ay aiw (ay amN .ret))))
def i96:dm:=⟨2,30,[],atI,[.t 4,.t 5]⟩
theorem Zi:aK av Tryz.f96=some i96:=by kernel_rfl
abbrev Je:=[AN 2,wm 3 0]
abbrev adZ:=[uG 4 170 2 3,xp (.w9 (.t 4) [])]
abbrev Xc:=[aa 5 0,AL 6 5,aZ 1 2 6,nA 1 3 0]
abbrev aiz:=(ay Je (ay adZ (ay Xc .ret)))
def i103:dm:=⟨1,7,[],aiz,[.c 2 false 1,.c 3 false 1]⟩
theorem K6:aK av Tryz.f103=some i103:=by kernel_rfl
abbrev ZK:=[gA 1]
abbrev aaY:=[bI 8 3 0,du 9 85 8,aa 2 9]
abbrev adC:=[gA 3]
abbrev VW:=[aa 10 2,bE 11 10,ak 12 0 11,ak 13 2 12,aB 14 1 13,cm 15 14,bT 16 0]
abbrev To:=[ei 17 16 15]
abbrev aa9:=[cU 18 22 14 16,bI 19 22 18,oo 5 (.new nK),aZ 22 5 19]
abbrev Wf:=[ak 21 4 5,bI 22 18 21,du 23 105 22,aa 20 23,bh 24 20 0,bh 25 20 1,aa 6 24,aa 7 25]
abbrev TV:=[aa 26 7,CU 27 26 0]
abbrev adr:=[aa 28 3,ak 29 1 5,aB 30 1 29,aa 31 6,oo 32 (.build [.i .i64 0,.i .i64 0] [(0,1,.t 30),(1,1,.t 31)]),oo 33 (.lC [.i .i64 0,.i .i64 0] 1 [(0,2,.t 32)]),oo 34 (.app 2 16 [.i .i64 0,.i .i64 0] (.t 28) (.t 33)),aa 3 34]
abbrev abD:=[dA 35 16 1,aa 16 35]
abbrev Et:=(ay To (.seq (.cond (.t 17) .skip (.exit 0)) (.seq (.block 1 (ay aa9 (ay Wf (ay TV (.cond (.t 27) (.cQ adr) .skip))))) (.cQ abD))))
abbrev Nt:=[aa 36 3,oo 37 (.call (.c (.fn 106 [])) [.t 36,.c (.fn 107 [])])]
abbrev OB:=[aa 38 3,du 39 110 38,aa 1 39]
abbrev amk:=(ay ZK (ay aaY (ay adC (.seq (ay VW (.block 0 (.loop Et))) (ay Nt (ay OB .ret))))))
def i104:dm:=⟨1,40,[17,27],amk,[.t 1]⟩
theorem zS:aK av Tryz.f104=some i104:=by kernel_rfl
abbrev X0:=[bT 2 0]
abbrev Zz:=[bT 3 0]
abbrev Ys:=[aa 6 0,cm 7 6,bT 8 0]
abbrev WS:=[ei 9 8 7]
abbrev Tu:=[cU 10 1 6 8,aB 11 1 10,aa 5 11]
abbrev TB:=[aa 12 5,aa 13 3,uD 14 12 13]
abbrev S4:=[aa 15 5,aa 2 15]
abbrev V8:=[dA 16 8 1,aa 8 16]
abbrev abd:=(ay WS (.seq (.cond (.t 9) .skip (.exit 0)) (.seq (.block 1 (ay Tu (ay TB (.cond (.t 14) (ay S4 .ret) .skip)))) (.cQ V8))))
abbrev abA:=[aa 17 3,aa 2 17]
abbrev alf:=(ay X0 (ay Zz (.seq (ay Ys (.block 0 (.loop abd))) (ay abA .ret))))
def i108:dm:=⟨1,18,[9,14],alf,[.t 2]⟩
theorem OF:aK av Tryz.f108=some i108:=by kernel_rfl
abbrev Va:=[bT 4 0]
abbrev Uk:=[aa 7 0,du 8 173 7,aa 5 8]
abbrev aap:=[aa 9 1,du 10 173 9,aa 6 10]
abbrev Sv:=[aO 11 5]
abbrev Z7:=[aO 12 6]
abbrev abL:=[bT 4 0]
abbrev aby:=[bT 4 (-1)]
abbrev Yq:=[aO 13 6]
abbrev S6:=[bT 4 1]
abbrev adQ:=[aa 14 0,aa 15 1,ei 16 14 15]
abbrev KR:=[bT 4 (-1)]
abbrev MA:=[aa 17 0,aa 18 1,ot 19 (.bin .gtr (.t 17) (.t 18))]
abbrev LZ:=[bT 4 1]
abbrev Pr:=[bT 4 0]
abbrev ahm:=(ay Va (ay Uk (ay aap (.seq (ay Sv (.cond (.t 11) (.seq (ay Z7 (.cond (.t 12) (ay abL .ret) .skip)) (ay aby .ret)) .skip)) (.seq (ay Yq (.cond (.t 13) (ay S6 .ret) .skip)) (.seq (ay adQ (.cond (.t 16) (ay KR .ret) .skip)) (.seq (ay MA (.cond (.t 19) (ay LZ .ret) .skip)) (ay Pr .ret))))))))
def i109:dm:=⟨2,20,[11,12,13,16,19],ahm,[.t 4]⟩
theorem Nx:aK av Tryz.f109=some i109:=by kernel_rfl
abbrev aea:=[gA 2]
abbrev adv:=[aa 6 0,cm 7 6,nB 8 7 2]
abbrev SK:=[aa 9 0,aa 2 9]
abbrev aek:=[bT 3 1]
abbrev V5:=[aa 10 3,aa 11 0,cm 12 11,ei 13 10 12]
abbrev Zq:List (aj×List Nat):=[(aa 16 0,[]),(aa 17 3,[0]),(cU 18 2 16 17,[]),(bI 19 2 18,[]),(aa 20 0,[0,1,2,3]),(aa 21 3,[0,1,2,3,4]),(kB 22 21 1,[0,1,2,3,4]),(cU 23 2 20 22,[0,1,2,3]),(bI 24 2 23,[0,1,2,3]),(ot 25 (.ye false true [.i,.i] (.t 19) (.t 24)),[])]
abbrev RD:=[aa 26 0,aa 27 3,BE 28 2 26 27,aa 4 28]
abbrev acu:=[bT 5 1]
abbrev abv:=[aa 29 5,aa 30 4,cm 31 30,ei 32 29 31]
abbrev U1:List (aj×List Nat):=[(aa 35 4,[]),(aa 36 5,[0]),(cU 37 2 35 36,[]),(bI 38 2 37,[]),(aa 39 4,[0,1,2,3]),(aa 40 5,[0,1,2,3,4]),(kB 41 40 1,[0,1,2,3,4]),(cU 42 2 39 41,[0,1,2,3]),(bI 43 2 42,[0,1,2,3]),(ot 44 (.ye true true [.i,.i] (.t 38) (.t 43)),[])]
abbrev LS:=[aa 45 0,aa 46 3,aa 47 4,aa 48 5,cU 49 2 47 48,bI 50 2 49,cU 51 2 45 46,aZ 2 51 50]
abbrev Np:=[aa 52 3,dA 53 52 1,aa 3 53]
abbrev MS:=[aa 33 5,dA 34 33 1,aa 5 34]
abbrev K3:bG:=(.seq (ay abv (.cond (.t 32) .skip (.exit 2))) (.seq (.block 3 (.seq (.cG U1) (.cond (.t 44) (ay LS (.cQ Np)) .skip))) (.cQ MS)))
abbrev O7:=[aa 54 0,aa 55 3,BE 56 2 54 55,xp (.Rt 2 [.i .i64 0,.i .i64 0] (.t 56))]
abbrev LI:=[aa 57 0,aa 58 3,zc 59 2 57 58,aa 2 59]
abbrev PC:=[aa 14 3,dA 15 14 1,aa 3 15]
abbrev O6:bG:=(.seq (ay V5 (.cond (.t 13) .skip (.exit 0))) (.seq (.block 1 (.seq (.cG Zq) (.cond (.t 25) (ay RD (.seq (ay acu (.block 2 (.loop K3))) (ay O7 (ay LI .ret)))) .skip))) (.cQ PC)))
abbrev MU:=[aa 60 0,aa 2 60]
abbrev an0:=(ay aea (.seq (ay adv (.cond (.t 8) (ay SK .ret) .skip)) (.seq (ay aek (.block 0 (.loop O6))) (ay MU .ret))))
def i110:dm:=⟨1,61,[8,13,25,32,44],an0,[.t 2]⟩
theorem ES:aK av Tryz.f110=some i110:=by kernel_rfl
abbrev zu:=[dk 2,wm 3 0]
abbrev SB:=[uG 4 193 2 3,xp (.w9 (.t 4) [])]
abbrev aaP:=[aa 5 0,AL 6 5,aZ 3 2 6,nA 1 3 0]
abbrev anj:=(ay zu (ay SB (ay aaP .ret)))
def i134:dm:=⟨1,7,[],anj,[.c 2 true 3,.c 3 false 1]⟩
theorem z6:aK av Tryz.f134=some i134:=by kernel_rfl
abbrev aep:=[dk 2]
abbrev T3:=[bI 4 3 0,du 5 85 4,aa 3 5]
abbrev TZ:=[aB 6 1 1,aa 7 3,oo 8 (.call (.t 6) [.t 7])]
abbrev Vh:=[aa 9 3,bE 10 9,ak 11 0 10,bI 12 3 11,aZ 3 2 12]
abbrev ai3:=(ay aep (ay T3 (ay TZ (ay Vh .ret))))
def i135:dm:=⟨2,13,[],ai3,[.c 2 true 3]⟩
theorem fQ:aK av Tryz.f135=some i135:=by kernel_rfl
abbrev Sg:=[cD 4 1,bT 6 0,cI 7]
abbrev acv:=[aa 12 0,cm 13 12,aa 8 13]
abbrev adk:=[aa 14 8,bT 9 0,aa 10 14]
abbrev XW:=[aa 15 9,aa 16 10,ei 17 15 16]
abbrev aak:=[aa 18 9,aa 19 10,lN 20 18 19,wX 21 20,r7 22 21 1,jW 23 22,aa 11 23]
abbrev Vu:List (aj×List Nat):=[(aa 24 2,[]),(aa 25 0,[0]),(aa 26 11,[0,1]),(cU 27 22 25 26,[0]),(bI 28 22 27,[0]),(bI 29 22 4,[0,1,2,3,4]),(vD 30 24 28 29,[]),(nB 31 30 0,[])]
abbrev Ux:=[aa 32 11,dA 33 32 1,aa 9 33]
abbrev Si:=[aa 34 11,aa 10 34]
abbrev adf:bG:=(.seq (ay XW (.cond (.t 17) .skip (.exit 0))) (.block 1 (ay aak (.seq (.cG Vu) (.cond (.t 31) (.cQ Ux) (.cQ Si))))))
abbrev Zr:List (aj×List Nat):=[(aa 35 9,[]),(aa 36 9,[0]),(aa 37 8,[0,1]),(oo 38 (.bin .lss (.t 36) (.t 37)),[0]),(aO 39 38,[0]),(bb 40 2 39,[0]),(bb 41 0 39,[0,5]),(bb 42 9 39,[0,5,6]),(og 43 (.qO 22 (.t 41) (.t 42)) 39 true false,[0,5]),(fY 44 22 43 39,[0,5]),(fY 45 22 4 39,[0,5,6,7,8,9]),(og 46 (.call (.t 40) [.t 44,.t 45]) 39 true false,[0]),(cq 47 46 0 39,[0]),(bF 48 39 47,[0]),(aa 6 35,[12,13]),(aa 7 48,[])]
abbrev aml:=(ay Sg (ay acv (ay adk (.seq (.block 0 (.loop adf)) (.seq (.cG Zr) .ret)))))
def i138:dm:=⟨3,49,[17,31],aml,[.t 6,.t 7]⟩
theorem LD:aK av Tryz.f138=some i138:=by kernel_rfl
abbrev Yg:=[cD 2 0,cD 3 1,bT 4 0]
abbrev ac1:List (aj×List Nat):=[(ak 5 0 2,[]),(aB 6 1 5,[]),(ak 7 0 3,[0,1]),(aB 8 1 7,[0,1]),(cK 9 109 6 8,[]),(ak 10 1 2,[0,1,2,3,4]),(aB 11 1 10,[0,1,2,3,4]),(ak 12 1 3,[0,1,2,3,4,5,6]),(aB 13 1 12,[0,1,2,3,4,5,6]),(cK 14 109 11 13,[]),(oo 15 (.lC [.i .i64 0,.i .i64 0] 2 [(0,1,.t 9),(1,1,.t 14)]),[]),(du 16 108 15,[]),(aa 4 16,[])]
abbrev amp:=(ay Yg (.seq (.cG ac1) .ret))
def i139:dm:=⟨2,17,[],amp,[.t 4]⟩
theorem MD:aK av Tryz.f139=some i139:=by kernel_rfl
abbrev aaJ:=[bT 4 0]
abbrev V2:=[aa 6 0,cm 7 6,bT 8 0]
abbrev VE:=[ei 9 8 7]
abbrev aay:=[aa 10 8,aa 5 10]
abbrev Ua:=[aa 11 1,aa 12 0,aa 13 5,cU 14 1 12 13,aB 15 1 14,ot 16 (.call (.t 11) [.t 15])]
abbrev TH:=[aa 17 5,aa 4 17]
abbrev Uh:=[dA 18 8 1,aa 8 18]
abbrev adX:=(ay VE (.seq (.cond (.t 9) .skip (.exit 0)) (.seq (.block 1 (ay aay (ay Ua (.cond (.t 16) (ay TH .ret) .skip)))) (.cQ Uh))))
abbrev ZT:=[bT 4 (-1)]
abbrev ain:=(ay aaJ (.seq (ay V2 (.block 0 (.loop adX))) (ay ZT .ret)))
def i140:dm:=⟨2,19,[9,16],ain,[.t 4]⟩
theorem MQ:aK av Tryz.f140=some i140:=by kernel_rfl
abbrev aaD:=[cI 4]
abbrev ab0:=[aa 7 0,cm 8 7,bT 9 0]
abbrev ab1:=[ei 10 9 8]
abbrev RH:=[aa 11 9,cU 12 2 7 9,bI 13 2 12,oo 6 (.new [.s [],.i .i64 0]),aa 5 11,aZ 2 6 13]
abbrev ad1:=[aa 14 1,aa 15 5,bI 16 2 6,vD 17 14 15 16,nC 18 17]
abbrev Rw:=[cI 4]
abbrev abW:=[dA 19 9 1,aa 9 19]
abbrev adx:=(ay ab1 (.seq (.cond (.t 10) .skip (.exit 0)) (.seq (.block 1 (ay RH (ay ad1 (.cond (.t 18) (ay Rw .ret) .skip)))) (.cQ abW))))
abbrev TX:=[pY 4]
abbrev anV:=(ay aaD (.seq (ay ab0 (.block 0 (.loop adx))) (ay TX .ret)))
def i144:dm:=⟨2,20,[10,18],anV,[.t 4]⟩
theorem Pc:aK av Tryz.f144=some i144:=by kernel_rfl
abbrev SJ:=[cD 4 1,cI 5]
abbrev Sy:=[ak 6 0 4,aB 7 1 6,du 8 94 7,aO 9 8,cr 10 1 4 9,cw 11 1 10 9,A8 12 71 0 11 1073741824 9,bF 13 9 12,aO 14 13,cw 15 1 2 14,cr 16 0 4 14,cw 17 1 16 14,so 18 95 15 17 14,bb 19 0 14,mq 20 18 19 14,bF 21 14 20,aa 5 21]
abbrev anl:=(ay SJ (ay Sy .ret))
def i145:dm:=⟨3,22,[],anl,[.t 5]⟩
theorem KN:aK av Tryz.f145=some i145:=by kernel_rfl
abbrev VT:=[cI 4]
abbrev aa6:=[aa 7 0,cm 8 7,bT 9 0]
abbrev abP:=[ei 10 9 8]
abbrev abH:=[aa 11 9,cU 12 4 7 9,bI 13 4 12,qZ 6 0 0,aa 5 11,aZ 4 6 13]
abbrev acx:=[aa 14 1,aa 15 5,bI 16 4 6,vD 17 14 15 16,nC 18 17]
abbrev VP:=[cI 4]
abbrev Rz:=[dA 19 9 1,aa 9 19]
abbrev R9:=(ay abP (.seq (.cond (.t 10) .skip (.exit 0)) (.seq (.block 1 (ay abH (ay acx (.cond (.t 18) (ay VP .ret) .skip)))) (.cQ Rz))))
abbrev acf:=[pY 4]
abbrev aoA:=(ay VT (.seq (ay aa6 (.block 0 (.loop R9))) (ay acf .ret)))
def i146:dm:=⟨2,20,[10,18],aoA,[.t 4]⟩
theorem Ls:aK av Tryz.f146=some i146:=by kernel_rfl
abbrev aaI:=[cD 4 1,cI 5]
abbrev WG:=[aB 6 1 2,bI 7 4 4,cK 8 91 6 7,aa 5 8]
abbrev an7:=(ay aaI (ay WG .ret))
def i147:dm:=⟨3,9,[],an7,[.t 5]⟩
theorem LQ:aK av Tryz.f147=some i147:=by kernel_rfl
abbrev Z5:=[cI 4]
abbrev ad9:=[aa 7 0,cm 8 7,bT 9 0]
abbrev Yj:=[ei 10 9 8]
abbrev Y4:=[aa 11 9,cU 12 22 7 9,bI 13 22 12,oo 6 (.new nK),aa 5 11,aZ 22 6 13]
abbrev acW:=[aa 14 1,aa 15 5,bI 16 22 6,vD 17 14 15 16,nC 18 17]
abbrev UQ:=[cI 4]
abbrev abw:=[dA 19 9 1,aa 9 19]
abbrev Xm:=(ay Yj (.seq (.cond (.t 10) .skip (.exit 0)) (.seq (.block 1 (ay Y4 (ay acW (.cond (.t 18) (ay UQ .ret) .skip)))) (.cQ abw))))
abbrev acP:=[pY 4]
abbrev anW:=(ay Z5 (.seq (ay ad9 (.block 0 (.loop Xm))) (ay acP .ret)))
def i148:dm:=⟨2,20,[10,18],anW,[.t 4]⟩
theorem PK:aK av Tryz.f148=some i148:=by kernel_rfl
abbrev WL:=[cD 4 1,cI 5]
abbrev abj:List (aj×List Nat):=[(aB 6 1 2,[]),(bI 7 22 4,[0]),(cK 8 150 6 7,[]),(aO 9 8,[]),(bb 10 0 9,[]),(cq 11 10 0 9,[]),(tJ 12 11 9,[]),(cP 13 1 2 12,[]),(uj 14 13 12,[]),(cE 15 0 14 12,[]),(cE 16 2 15 12,[]),(cP 17 1 16 12,[]),(fB 18 0 12,[7,8,9,10,11]),(Aj 19 18 1 12,[7,8,9,10,11]),(og 20 (.qO 22 (.t 17) (.t 19)) 12 false false,[]),(uf 21 22 20 12,[]),(uf 22 22 4 12,[7,8,9,10,11,12,13,14,15]),(xW 23 139 21 22 12,[]),(CJ 24 23 0 12,[]),(uy 25 12 24 9,[]),(bF 26 9 25,[]),(aa 5 26,[])]
abbrev agW:=(ay WL (.seq (.cG abj) .ret))
def i149:dm:=⟨3,27,[],agW,[.t 5]⟩
theorem Ms:aK av Tryz.f149=some i149:=by kernel_rfl
abbrev UA:=[cD 3 1,cI 4]
abbrev SE:List (aj×List Nat):=[(ak 6 0 3,[]),(aB 7 1 6,[]),(aa 8 0,[0,1]),(bE 9 8,[0,1]),(ak 10 0 9,[0,1]),(ak 11 0 10,[0,1]),(aB 12 1 11,[0,1]),(cm 13 12,[0,1]),(kB 14 13 1,[0,1]),(yc 15 71 0 7 14,[]),(lV 16 15,[]),(aO 17 16,[]),(cE 18 1 3 17,[]),(cP 19 1 18 17,[]),(fB 20 0 17,[12,13]),(uj 21 20 17,[12,13]),(cE 22 0 21 17,[12,13]),(cE 23 1 22 17,[12,13]),(cP 24 1 23 17,[12,13]),(kU 25 24 17,[12,13]),(Aj 26 25 1 17,[12,13]),(og 27 (.call (.c (.fn 71 [])) [.c (.i .i64 0),.t 19,.t 26]) 17 false false,[]),(jx 28 27 17,[]),(jV 29 17 28,[])]
abbrev VG:=[cI 4]
abbrev ZE:List (aj×List Nat):=[(aa 30 0,[]),(bE 31 30,[]),(ak 32 0 31,[]),(ak 33 1 32,[]),(aB 34 1 33,[]),(ak 35 1 3,[0,1,2,3,4]),(aB 36 1 35,[0,1,2,3,4]),(cU 37 4 34 36,[]),(bI 38 4 37,[]),(qZ 5 0 0,[0,1,2,3,4,5,6,7,8]),(aZ 4 5 38,[])]
abbrev Su:=[bI 39 4 5,ak 40 0 3,aB 41 1 40,cK 42 69 39 41,lV 43 42,aO 44 43,cr 45 2 3 44,cw 46 1 45 44,A8 47 71 1 46 10 44,bF 48 44 47,aO 49 48,cr 50 3 3 49,cw 51 1 50 49,cr 52 1 5 49,cw 53 1 52 49,rS 54 53 49,BG 55 54 1 49,A0 56 71 0 51 55 49,bF 57 49 56,aO 58 57,cr 59 4 3 58,fY 60 18 59 58,BZ 61 121 60 58,cq 62 61 0 58,bF 63 58 62,aO 64 63,cr 65 4 3 64,cr 66 0 65 64,cw 67 1 66 64,cr 68 1 5 64,cw 69 1 68 64,so 70 198 67 69 64,bF 71 64 70,aO 72 71,cr 73 4 3 72,cr 74 4 73 72,cw 75 1 74 72,cr 76 3 3 72,cw 77 1 76 72,BQ 78 75 77 72,bF 79 72 78,aa 4 79]
abbrev ahx:=(ay UA (.seq (.seq (.cG SE) (.cond (.t 29) (ay VG .ret) .skip)) (.seq (.cG ZE) (ay Su .ret))))
def i150:dm:=⟨2,80,[29],ahx,[.t 4]⟩
theorem La:aK av Tryz.f150=some i150:=by kernel_rfl
abbrev ad5:=[oo 6 .Q9,oo 7 (.OH 216 (.agg [.i .i64 0]) (.t 6)),aa 5 7,bh 8 5 0,bh 9 5 1,wm 2 0,aZ 1 2 8,aa 3 9]
abbrev aaX:=[aO 10 3]
abbrev Vf:=[gA 4]
abbrev VL:List (aj×List Nat):=[(aa 11 4,[]),(ak 12 0 2,[0]),(aB 13 1 12,[0]),(aZ 1 0 11,[1,2]),(aZ 1 1 13,[])]
abbrev ale:=(ay ad5 (ay aaX (.cond (.t 10) (ay Vf (.cG VL)) .skip)))
def i151:dm:=⟨2,14,[10],ale,[]⟩
theorem MF:aK av Tryz.f151=some i151:=by kernel_rfl
abbrev RF:=[gA 2]
abbrev Ru:=[aa 3 0,CM 4 1 3]
abbrev adt:=[gA 2]
abbrev ac3:=[Bf 5 0,aa 6 0,zk 7 2 24 0 5 6,aa 2 7]
abbrev afK:=(ay RF (.seq (ay Ru (.cond (.t 4) (ay adt .ret) .skip)) (ay ac3 .ret)))
def i152:dm:=⟨1,8,[4],afK,[.t 2]⟩
theorem FC:aK av Tryz.f152=some i152:=by kernel_rfl
abbrev TN:=[cD 1 0,oo 2 (.mv (.c (.nf)))]
abbrev UD:=[oV 3 199 1,aa 2 3]
abbrev al3:=(ay TN (ay UD .ret))
def i153:dm:=⟨1,4,[],al3,[.t 2]⟩
theorem FD:aK av Tryz.f153=some i153:=by kernel_rfl
abbrev RW:=[oo 8 (.new [.i .i64 0,.i .i64 0])]
abbrev Tm:=[bT 9 0]
abbrev adl:=[aa 12 2,cm 13 12,bT 14 0]
abbrev RI:=[ei 15 14 13]
abbrev XD:=[aa 16 14,cU 17 1 12 14,aB 18 1 17,aa 10 16,aa 11 18]
abbrev ab7:=[aa 19 11,ot 20 (.bin .geq (.t 19) (.c (.i .i64 0)))]
abbrev aef:List (aj×List Nat):=[(aa 21 3,[]),(aa 22 0,[0]),(bE 23 22,[0]),(ak 24 0 23,[0]),(ak 25 1 24,[0]),(aB 26 1 25,[0]),(aa 27 1,[0,1,2,3,4,5]),(aa 28 10,[0,1,2,3,4,5,6]),(cU 29 1 27 28,[0,1,2,3,4,5]),(aB 30 1 29,[0,1,2,3,4,5]),(bE 31 30,[0,1,2,3,4,5]),(ak 32 1 31,[0,1,2,3,4,5]),(aB 33 1 32,[0,1,2,3,4,5]),(cU 34 4 26 33,[0]),(ak 35 2 34,[0]),(aB 36 1 35,[0]),(aa 37 11,[0,1,2,3,4,5,6,7,8,9,10,11,12,13,14,15]),(cU 38 1 36 37,[0]),(aB 39 1 38,[0]),(xP 40 21 39,[]),(aa 3 40,[])]
abbrev adF:=[aa 41 9,aa 42 1,aa 43 10,cU 44 1 42 43,aB 45 1 44,bE 46 45,ak 47 2 46,aB 48 1 47,aa 49 11,dA 50 49 1,xU 51 48 50,lN 52 41 51,aa 9 52]
abbrev ZX:=[dA 53 14 1,aa 14 53]
abbrev ady:=(ay RI (.seq (.cond (.t 15) .skip (.exit 0)) (.seq (.block 1 (ay XD (ay ab7 (.cond (.t 20) (.seq (.cG aef) (.cQ adF)) .skip)))) (.cQ ZX))))
abbrev PR:=[aa 54 9,aa 55 3,oo 56 (.build [.i .i64 0,.i .i64 0] [(0,1,.t 54),(1,1,.t 55)]),aZ 2 8 56]
abbrev agQ:=(ay RW (ay Tm (.seq (ay adl (.block 0 (.loop ady))) (ay PR .ret))))
def i154:dm:=⟨4,57,[15,20],agQ,[.c 8 true 2]⟩
theorem ED:aK av Tryz.f154=some i154:=by kernel_rfl
abbrev aan:=[bT 4 0]
abbrev Uv:=[aa 9 0,cm 10 9,bT 11 0]
abbrev aaV:=[ei 12 11 10]
abbrev Tv:=[aa 13 11,cU 14 1 9 11,aB 15 1 14,aa 5 13,aa 6 15]
abbrev ab9:=[aa 16 5,aa 17 1,cm 18 17,ot 19 (.bin .geq (.t 16) (.t 18))]
abbrev YK:=[bT 4 1]
abbrev Yn:=[aa 20 1,aa 21 5,cU 22 1 20 21,aB 23 1 22,aa 7 23]
abbrev Ul:=[aa 24 6,aa 25 7,cK 26 109 24 25,aa 8 26]
abbrev YU:=[aa 27 8,vV 28 27 0]
abbrev Ry:=[aa 29 8,aa 4 29]
abbrev Le:=[dA 30 11 1,aa 11 30]
abbrev Lb:=(ay aaV (.seq (.cond (.t 12) .skip (.exit 0)) (.seq (.block 1 (ay Tv (.seq (ay ab9 (.cond (.t 19) (ay YK .ret) .skip)) (ay Yn (ay Ul (ay YU (.cond (.t 28) (ay Ry .ret) .skip))))))) (.cQ Le))))
abbrev Pv:=[aa 31 0,cm 32 31,aa 33 1,cm 34 33,ei 35 32 34]
abbrev LU:=[bT 4 (-1)]
abbrev Pw:=[bT 4 0]
abbrev alU:=(ay aan (.seq (ay Uv (.block 0 (.loop Lb))) (.seq (ay Pv (.cond (.t 35) (ay LU .ret) .skip)) (ay Pw .ret))))
def i155:dm:=⟨2,36,[12,19,28,35],alU,[.t 4]⟩
theorem ON:aK av Tryz.f155=some i155:=by kernel_rfl
abbrev Tr:=[cI 4]
abbrev adq:=[aa 7 0,cm 8 7,bT 9 0]
abbrev RX:=[ei 10 9 8]
abbrev Tl:=[aa 11 9,cU 12 1 7 9,aB 13 1 12,aa 5 11,aa 6 13]
abbrev acB:=[aa 14 1,aa 15 5,aa 16 6,vD 17 14 15 16,nC 18 17]
abbrev TA:=[cI 4]
abbrev Se:=[dA 19 9 1,aa 9 19]
abbrev XU:=(ay RX (.seq (.cond (.t 10) .skip (.exit 0)) (.seq (.block 1 (ay Tl (ay acB (.cond (.t 18) (ay TA .ret) .skip)))) (.cQ Se))))
abbrev acz:=[pY 4]
abbrev alc:=(ay Tr (.seq (ay adq (.block 0 (.loop XU))) (ay acz .ret)))
def i157:dm:=⟨2,20,[10,18],alc,[.t 4]⟩
theorem yT:aK av Tryz.f157=some i157:=by kernel_rfl
abbrev SV:=[cI 4]
abbrev Z8:=[aa 5 1,D6 6 71 0 5 4294967295,aa 4 6]
abbrev alM:=(ay SV (ay Z8 .ret))
def i158:dm:=⟨2,7,[],alM,[.t 4]⟩
theorem Oz:aK av Tryz.f158=some i158:=by kernel_rfl
abbrev acq:=[cI 5]
abbrev VY:=[aa 6 1,D6 7 71 1 6 1073741824,aO 8 7,bb 9 0 8,cq 10 9 0 8,tJ 11 10 8,fB 12 1 11,cE 13 2 2 11,cP 14 1 13 11,fB 15 0 11,Aj 16 15 1 11,og 17 (.qO 1 (.t 14) (.t 16)) 11 false false,cP 18 1 17 11,og 19 (.bin .gtr (.t 12) (.t 18)) 11 false false,uy 20 11 19 8,bF 21 8 20,aa 5 21]
abbrev afZ:=(ay acq (ay VY .ret))
def i159:dm:=⟨3,22,[],afZ,[.t 5]⟩
theorem PT:aK av Tryz.f159=some i159:=by kernel_rfl
abbrev acr:=[cI 5]
abbrev aaQ:=[aB 7 1 2,aa 8 1,oo 9 (.mpG 0 false (.b false) (.t 7) (.t 8)),aa 6 9]
abbrev acs:=[aB 10 1 2,aa 11 1,xp (.KB 0 (.t 10) (.t 11) (.c (.b true)))]
abbrev acw:=[aa 12 6,lV 13 12,aa 5 13]
abbrev aib:=(ay acr (ay aaQ (ay acs (ay acw .ret))))
def i160:dm:=⟨3,14,[],aib,[.t 5]⟩
theorem EG:aK av Tryz.f160=some i160:=by kernel_rfl
abbrev abM:=[cD 2 0,cI 3]
abbrev aaS:=[ak 4 0 2,aB 5 1 4,aB 6 1 1,yb 7 5 6,aa 3 7]
abbrev afj:=(ay abM (ay aaS .ret))
def i163:dm:=⟨2,8,[],afj,[.t 3]⟩
theorem OM:aK av Tryz.f163=some i163:=by kernel_rfl
abbrev TR:=[yV 4 0,yV 5 0]
abbrev ad7:=[aa 14 0,Da 15 14 4294967295,aa 6 15]
abbrev aba:=[aa 16 0,r7 17 16 32,aa 7 17]
abbrev SP:=[aa 18 1,Da 19 18 4294967295,aa 8 19]
abbrev Yo:=[aa 20 1,r7 21 20 32,aa 9 21]
abbrev aab:=[aa 22 6,aa 23 8,xU 24 22 23,aa 10 24]
abbrev aeh:=[aa 25 7,aa 26 8,xU 27 25 26,aa 28 10,r7 29 28 32,lN 30 27 29,aa 11 30]
abbrev ac7:=[aa 31 11,Da 32 31 4294967295,aa 12 32]
abbrev SZ:=[aa 33 11,r7 34 33 32,aa 13 34]
abbrev US:=[aa 35 12,aa 36 6,aa 37 9,xU 38 36 37,lN 39 35 38,aa 12 39]
abbrev Mh:=[aa 40 7,aa 41 9,xU 42 40 41,aa 43 13,lN 44 42 43,aa 45 12,r7 46 45 32,lN 47 44 46,aa 4 47]
abbrev N4:=[aa 48 0,aa 49 1,xU 50 48 49,aa 5 50]
abbrev am0:=(ay TR (ay ad7 (ay aba (ay SP (ay Yo (ay aab (ay aeh (ay ac7 (ay SZ (ay US (ay Mh (ay N4 .ret))))))))))))
def i165:dm:=⟨2,51,[],am0,[.t 4,.t 5]⟩
theorem M6:aK av Tryz.f165=some i165:=by kernel_rfl
abbrev adO:=[oo 6 .Q9,oo 7 (.OH 216 (.agg [.i .i64 0]) (.t 6)),aa 5 7,bh 8 5 0,bh 9 5 1,wm 2 0,aZ 1 2 8,aa 3 9]
abbrev aaj:=[aO 10 3]
abbrev Uy:=[gA 4]
abbrev acK:List (aj×List Nat):=[(aa 11 4,[]),(ak 12 0 2,[0]),(aB 13 1 12,[0]),(aZ 1 0 11,[1,2]),(aZ 1 1 13,[])]
abbrev aoi:=(ay adO (ay aaj (.cond (.t 10) (ay Uy (.cG acK)) .skip)))
def i170:dm:=⟨2,14,[10],aoi,[]⟩
theorem L4:aK av Tryz.f170=some i170:=by kernel_rfl
abbrev We:=[cI 2]
abbrev Yx:=[aa 3 0,aa 4 0,yn 5 3 4,aa 2 5]
abbrev ajR:=(ay We (ay Yx .ret))
def i173:dm:=⟨1,6,[],ajR,[.t 2]⟩
theorem Lq:aK av Tryz.f173=some i173:=by kernel_rfl
abbrev VV:=[oo 6 .Q9,oo 7 (.OH 216 (.agg [.i .i64 0]) (.t 6)),aa 5 7,bh 8 5 0,bh 9 5 1,wm 2 0,aZ 1 2 8,aa 3 9]
abbrev Zo:=[aO 10 3]
abbrev VU:=[dk 4]
abbrev Xe:List (aj×List Nat):=[(bI 11 3 4,[]),(ak 12 0 2,[0]),(aB 13 1 12,[0]),(aZ 3 0 11,[1,2]),(aZ 1 1 13,[])]
abbrev ahb:=(ay VV (ay Zo (.cond (.t 10) (ay VU (.cG Xe)) .skip)))
def i193:dm:=⟨2,14,[10],ahb,[]⟩
theorem Al:aK av Tryz.f193=some i193:=by kernel_rfl
abbrev W9:=[cI 4]
abbrev aci:=[aa 6 0,cm 7 6,aa 8 1,cm 9 8,uD 10 7 9]
abbrev XB:=[cI 4]
abbrev ac4:=[aa 11 0,cm 12 11,bT 13 0]
abbrev UK:=[ei 14 13 12]
abbrev aag:=[aa 15 13,aa 5 15]
abbrev RV:List (aj×List Nat):=[(aa 16 0,[]),(aa 17 5,[0]),(cU 18 1 16 17,[]),(aB 19 1 18,[]),(aa 20 1,[0,1,2,3]),(aa 21 5,[0,1,2,3,4]),(cU 22 1 20 21,[0,1,2,3]),(aB 23 1 22,[0,1,2,3]),(uD 24 19 23,[])]
abbrev aa4:=[cI 4]
abbrev VM:=[dA 25 13 1,aa 13 25]
abbrev YA:=(ay UK (.seq (.cond (.t 14) .skip (.exit 0)) (.seq (.block 1 (ay aag (.seq (.cG RV) (.cond (.t 24) (ay aa4 .ret) .skip)))) (.cQ VM))))
abbrev Ns:=[pY 4]
abbrev anZ:=(ay W9 (.seq (ay aci (.cond (.t 10) (ay XB .ret) .skip)) (.seq (ay ac4 (.block 0 (.loop YA))) (ay Ns .ret))))
def i198:dm:=⟨2,26,[10,14,24],anZ,[.t 4]⟩
theorem MW:aK av Tryz.f198=some i198:=by kernel_rfl
abbrev Wa:=[rH 5 0 1 0 1 (-1),aB 6 1 1,cm 7 6,cK 8 200 5 7,aa 3 8]
abbrev Ud:=[aa 9 0,aa 10 3,ot 11 (.call (.t 9) [.t 10])]
abbrev aaA:=[aa 12 3,cm 13 12,kB 14 13 1,aa 4 14]
abbrev Zf:List (aj×List Nat):=[(aa 15 4,[]),(vC 16 15 0,[]),(aO 17 16,[]),(bb 18 3 17,[]),(bb 19 4 17,[3]),(og 20 (.qO 1 (.t 18) (.t 19)) 17 true false,[]),(cw 21 1 20 17,[]),(cw 22 1 1 17,[3,4,5,6]),(bb 23 4 17,[3,4,5,6,7]),(og 24 (.qO 1 (.t 22) (.t 23)) 17 true false,[3,4,5,6]),(cw 25 1 24 17,[3,4,5,6]),(uw 26 25 17,[3,4,5,6]),(cr 27 3 26 17,[3,4,5,6]),(cw 28 1 27 17,[3,4,5,6]),(mq 29 21 28 17,[]),(zf 30 17 29,[])]
abbrev SH:=[aa 33 3,aa 34 4,cU 35 1 33 34,nA 1 35 (-1)]
abbrev VO:=[aa 31 4,kB 32 31 1,aa 4 32]
abbrev TE:bG:=(.seq (.seq (.cG Zf) (.cond (.t 30) .skip (.exit 2))) (.seq (.block 3 (.cQ SH)) (.cQ VO)))
abbrev X3:=[aa 36 4,nB 37 36 0]
abbrev ad4:=[aa 38 3,aa 39 4,cU 40 1 38 39,aB 41 1 40,dA 42 41 1,cU 43 1 38 39,aZ 1 43 42]
abbrev adW:bG:=(.seq (ay Ud (.cond (.t 11) .skip (.exit 0))) (.block 1 (ay aaA (.seq (.block 2 (.loop TE)) (.seq (ay X3 (.cond (.t 37) .ret .skip)) (.cQ ad4))))))
abbrev ai4:=(ay Wa (.block 0 (.loop adW)))
def i199:dm:=⟨2,44,[11,30,37],ai4,[]⟩
theorem FK:aK av Tryz.f199=some i199:=by kernel_rfl
abbrev SX:=[gA 4]
abbrev acd:=[aa 9 1,nB 10 9 0]
abbrev TF:=[oo 11 (.Kw 9 (.c (.s [99,97,110,110,111,116,32,98,101,32,110,101,103,97,116,105,118,101]))),Bu 11]
abbrev Xo:=[aa 13 0,cm 14 13,wX 15 14,aa 16 1,wX 17 16,cK 18 96 15 17,aa 12 18,bh 19 12 0,bh 20 12 1,aa 5 19,aa 6 20]
abbrev aal:=[aa 21 5,oo 22 (.bin .gtr (.t 21) (.c (.i .u64 0))),aO 23 22,fB 24 6 23,og 25 (.bin .gtr (.t 24) (.c (.i .u64 9223372036854775807))) 23 false false,jV 26 23 25]
abbrev abl:=[oo 27 (.Kw 9 (.c (.s [116,104,101,32,114,101,115,117,108,116,32,111,102,32,40,108,101,110,40,120,41,32,42,32,99,111,117,110,116,41,32,111,118,101,114,102,108,111,119,115]))),Bu 27]
abbrev YY:=[aa 28 6,jW 29 28,oo 30 (.R7 1 8 [.i .i64 0] (.t 29) (.t 29)),aa 7 30]
abbrev abZ:=[aa 31 7,aa 32 0,oo 33 (.FW 1 (.t 31) (.t 32)),aa 8 33]
abbrev aet:=[aa 34 8,aa 35 7,cm 36 35,ei 37 34 36]
abbrev Z6:List (aj×List Nat):=[(aa 38 8,[]),(aa 39 7,[0]),(aa 40 8,[0,1]),(BE 41 1 39 40,[0]),(aa 42 7,[0,1,2,3]),(aa 43 8,[0,1,2,3,4]),(zc 44 1 42 43,[0,1,2,3]),(oo 45 (.FW 1 (.t 41) (.t 44)),[0]),(lN 46 38 45,[]),(aa 8 46,[])]
abbrev Pj:bG:=(.seq (ay aet (.cond (.t 37) .skip (.exit 0))) (.block 1 (.cG Z6)))
abbrev N9:=[aa 47 7,aa 4 47]
abbrev aiD:=(ay SX (.seq (ay acd (.cond (.t 10) (.cQ TF) .skip)) (ay Xo (.seq (ay aal (.cond (.t 26) (.cQ abl) .skip)) (ay YY (ay abZ (.seq (.block 0 (.loop Pj)) (ay N9 .ret))))))))
def i200:dm:=⟨2,48,[10,26,37],aiD,[.t 4]⟩
theorem Ng:aK av Tryz.f200=some i200:=by kernel_rfl
end Go.Proofs.Rom
namespace Go.Proofs
open Go.Shelf
def Tryz.lays160_ren:Go.Shelf.Ren:=⟨fun|160=>161|232=>202|231=>201|227=>203|234=>205|233=>204|236=>207|235=>206|228=>238|271=>241|151=>240|197=>239|120=>251|152=>250|260=>249|137=>253|119=>254|224=>255|225=>256|217=>257|266=>258|n=>n,fun|9=>9|4=>4|3=>3|5=>5|117=>273|116=>272|0=>0|124=>276|21=>21|105=>298|46=>67|119=>313|139=>316|138=>315|n=>n,fun|3=>1|4=>2|n=>n⟩
theorem Tryz.lays160:Go.Proofs.Lays.n160 Tryz.prog Tryz.lays160_ren:={
 mixed:=by kernel_rfl
 f119:=Tryz.func254.trans (congrArg some (by kernel_rfl))
 f120:=Tryz.func251.trans (congrArg some (by kernel_rfl))
 f137:=Tryz.func253.trans (congrArg some (by kernel_rfl))
 f151:=Tryz.func240.trans (congrArg some (by kernel_rfl))
 f152:=Tryz.func250.trans (congrArg some (by kernel_rfl))
 f160:=Tryz.func161.trans (congrArg some (by kernel_rfl))
 f197:=Tryz.func239.trans (congrArg some (by kernel_rfl))
 f217:=Tryz.func257.trans (congrArg some (by kernel_rfl))
 f224:=Tryz.func255.trans (congrArg some (by kernel_rfl))
 f225:=Tryz.func256.trans (congrArg some (by kernel_rfl))
 f227:=Tryz.func203.trans (congrArg some (by kernel_rfl))
 f228:=Tryz.func238.trans (congrArg some (by kernel_rfl))
 f231:=Tryz.func201.trans (congrArg some (by kernel_rfl))
 f232:=Tryz.func202.trans (congrArg some (by kernel_rfl))
 f233:=Tryz.func204.trans (congrArg some (by kernel_rfl))
 f234:=Tryz.func205.trans (congrArg some (by kernel_rfl))
 f235:=Tryz.func206.trans (congrArg some (by kernel_rfl))
 f236:=Tryz.func207.trans (congrArg some (by kernel_rfl))
 f260:=Tryz.func249.trans (congrArg some (by kernel_rfl))
 f266:=Tryz.func258.trans (congrArg some (by kernel_rfl))
 f271:=Tryz.func241.trans (congrArg some (by kernel_rfl))
 t0:=Tryz.underlying0
 a0:=Tryz.isAgg0
 z0:=Tryz.sizeOf0
 v0:=Tryz.zeroValue0
 t3:=Tryz.underlying3
 a3:=Tryz.isAgg3
 z3:=Tryz.sizeOf3
 v3:=Tryz.zeroValue3
 t4:=Tryz.underlying4
 a4:=Tryz.isAgg4
 z4:=Tryz.sizeOf4
 v4:=Tryz.zeroValue4
 t5:=Tryz.underlying5
 a5:=Tryz.isAgg5
 z5:=Tryz.sizeOf5
 v5:=Tryz.zeroValue5
 t9:=Tryz.underlying9
 a9:=Tryz.isAgg9
 z9:=Tryz.sizeOf9
 v9:=Tryz.zeroValue9
 t21:=Tryz.underlying21
 a21:=Tryz.isAgg21
 z21:=Tryz.sizeOf21
 v21:=Tryz.zeroValue21
 t46:=Tryz.underlying67
 a46:=Tryz.isAgg67
 z46:=Tryz.sizeOf67
 v46:=Tryz.zeroValue67
 t105:=Tryz.underlying298
 a105:=Tryz.isAgg298
 z105:=Tryz.sizeOf298
 v105:=Tryz.zeroValue298
 t116:=Tryz.underlying272
 a116:=Tryz.isAgg272
 z116:=Tryz.sizeOf272
 t117:=Tryz.underlying273
 a117:=Tryz.isAgg273
 z117:=Tryz.sizeOf273
 v117:=Tryz.zeroValue273
 t119:=Tryz.underlying313
 a119:=Tryz.isAgg313
 z119:=Tryz.sizeOf313
 t124:=Tryz.underlying276
 a124:=Tryz.isAgg276
 z124:=Tryz.sizeOf276
 v124:=Tryz.zeroValue276
 t138:=Tryz.underlying315
 a138:=Tryz.isAgg315
 z138:=Tryz.sizeOf315
 v138:=Tryz.zeroValue315
 t139:=Tryz.underlying316
 a139:=Tryz.isAgg316
 z139:=Tryz.sizeOf316
 v139:=Tryz.zeroValue316
 g3:=by kernel_rfl
 g4:=by kernel_rfl}
def Tryz.uA:Go.Shelf.Ren:=⟨fun|105=>25|212=>96|99=>97|165=>98|166=>99|170=>100|169=>101|263=>164|264=>165|206=>166|240=>167|241=>168|276=>208|277=>209|n=>n,fun|9=>9|3=>3|4=>4|20=>20|0=>0|46=>67|109=>171|5=>5|72=>176|76=>179|51=>125|146=>245|53=>247|148=>248|70=>174|37=>126|75=>178|127=>250|164=>277|80=>182|n=>n,fun|n=>n⟩
theorem Tryz.P9:Go.Proofs.Lays.n105 av Tryz.uA:={
 mixed:=by kernel_rfl
 f99:=Tryz.func97.trans (cS some (by kernel_rfl))
 f105:=Tryz.func25.trans (cS some (by kernel_rfl))
 f165:=Tryz.func98.trans (cS some (by kernel_rfl))
 f166:=Tryz.func99.trans (cS some (by kernel_rfl))
 f169:=Tryz.func101.trans (cS some (by kernel_rfl))
 f170:=Tryz.func100.trans (cS some (by kernel_rfl))
 f206:=Tryz.func166.trans (cS some (by kernel_rfl))
 f212:=Tryz.func96.trans (cS some (by kernel_rfl))
 f240:=Tryz.func167.trans (cS some (by kernel_rfl))
 f241:=Tryz.func168.trans (cS some (by kernel_rfl))
 f263:=Tryz.func164.trans (cS some (by kernel_rfl))
 f264:=Tryz.func165.trans (cS some (by kernel_rfl))
 f276:=Tryz.func208.trans (cS some (by kernel_rfl))
 f277:=Tryz.func209.trans (cS some (by kernel_rfl))
 t0:=Tryz.underlying0
 a0:=Tryz.isAgg0
 z0:=Tryz.sizeOf0
 v0:=Tryz.zeroValue0
 t3:=Tryz.underlying3
 a3:=Tryz.isAgg3
 z3:=Tryz.sizeOf3
 v3:=Tryz.zeroValue3
 t4:=Tryz.underlying4
 a4:=Tryz.isAgg4
 z4:=Tryz.sizeOf4
 v4:=Tryz.zeroValue4
 t5:=Tryz.underlying5
 a5:=Tryz.isAgg5
 z5:=Tryz.sizeOf5
 v5:=Tryz.zeroValue5
 t9:=Tryz.underlying9
 a9:=Tryz.isAgg9
 z9:=Tryz.sizeOf9
 v9:=Tryz.zeroValue9
 t20:=Tryz.underlying20
 a20:=Tryz.isAgg20
 z20:=Tryz.sizeOf20
 v20:=Tryz.zeroValue20
 t37:=Tryz.underlying126
 a37:=Tryz.isAgg126
 z37:=Tryz.sizeOf126
 v37:=Tryz.zeroValue126
 t46:=Tryz.underlying67
 a46:=Tryz.isAgg67
 z46:=Tryz.sizeOf67
 v46:=Tryz.zeroValue67
 t51:=Tryz.underlying125
 a51:=Tryz.isAgg125
 z51:=Tryz.sizeOf125
 v51:=Tryz.zeroValue125
 t53:=Tryz.underlying247
 a53:=Tryz.isAgg247
 z53:=Tryz.sizeOf247
 v53:=Tryz.zeroValue247
 t70:=Tryz.underlying174
 a70:=Tryz.isAgg174
 z70:=Tryz.sizeOf174
 v70:=Tryz.zeroValue174
 t72:=Tryz.underlying176
 a72:=Tryz.isAgg176
 z72:=Tryz.sizeOf176
 v72:=Tryz.zeroValue176
 t75:=Tryz.underlying178
 a75:=Tryz.isAgg178
 z75:=Tryz.sizeOf178
 v75:=Tryz.zeroValue178
 t76:=Tryz.underlying179
 a76:=Tryz.isAgg179
 z76:=Tryz.sizeOf179
 v76:=Tryz.zeroValue179
 t109:=Tryz.underlying171
 a109:=Tryz.isAgg171
 z109:=Tryz.sizeOf171
 v109:=Tryz.zeroValue171
 t127:=Tryz.underlying250
 a127:=Tryz.isAgg250
 z127:=Tryz.sizeOf250
 v127:=Tryz.zeroValue250
 t146:=Tryz.underlying245
 a146:=Tryz.isAgg245
 z146:=Tryz.sizeOf245
 v146:=Tryz.zeroValue245
 t148:=Tryz.underlying248
 a148:=Tryz.isAgg248
 z148:=Tryz.sizeOf248
 v148:=Tryz.zeroValue248
 t164:=Tryz.underlying277
 a164:=Tryz.isAgg277
 z164:=Tryz.sizeOf277
 v164:=Tryz.zeroValue277}
theorem Tryz.rZ:Builder.Extra av Tryz.uA:={
 sizeBuilder:=by kernel_rfl
 liesBuilder:=by kernel_rfl
 t5:=Tryz.underlying5
 a5:=Tryz.isAgg5
 z5:=Tryz.sizeOf5
 v5:=Tryz.zeroValue5
 infoByte:=by kernel_rfl
 cellsByte:=by kernel_rfl
 sizeByte:=by kernel_rfl
 neB5:=by decide}
open Go.RowKit Go.Lib in
theorem Tryz.strings_Repeat (s:ByteArray) (c:Nat) (w:World) (hc:c<=9223372036854775807) (hlen:s.size*c<=140737488355328):
 Calls av 25 #[.string s,.int .i64 c] w fun e w'=>e= .returned (.string ⟨(Lib.repeatL s.data.toList c).toArray⟩)/\Below w.heap.size w w':=Any.strings_Repeat Tryz.P9 Tryz.rZ s c w hc hlen
end Go.Proofs
section
namespace Go.Proofs
open Go.Shelf Go.RowKit
theorem Rom.trim_laid (s cutset:ByteArray) (w:World) (hs:s.size<=9223372036854775807) (hcs:cutset.size<4294967281)
 (hascii: ∀(j:Nat) b,cutset.data.toList[j]? =some b->b.toNat<128):
 Calls Tryz.prog 161 #[.string s,.string cutset] w fun e w'=>e= .returned (.string ⟨(Lib.trimS s.data.toList cutset.data.toList).toArray⟩)/\Below w.heap.size w w':=Any.strings_Trim_laid Tryz.lays160 (by kernel_rfl) s cutset w hs hcs hascii
end Go.Proofs
namespace Go.Proofs.Rom
open Go.Ab
theorem w71 (lo x hi:Int):bt av 71 [.i .i64 lo,.i .i64 x,.i .i64 hi] [] 0 (.b (da lo hi x)) [] 0:=by
 refine dT Sound.nil Tryz.func71 VX ?_
 dsimp only [i71];simp only [go_sem,simprocAttr];repeat' (first|refine nr (fun _=> ?_) (fun _=> ?_)|refine jP ?_ ?_)
 all_goals (refine Ends.au rfl (cS _ ?_);simp [da] at *;try omega)
def iF:Ct
 |[.i .i64 lo,.i .i64 x,.i .i64 hi],_,n=>some (true,{v:= .b (da lo hi x),n})
 |_,_,_=>none
theorem DO:aq av 71 iF:=fun args h n c E hc ht=>by
 unfold iF at hc;split at hc
 ·cases hc;exact ax.pure (by kernel_rfl) rfl rfl (w71 _ _ _) _ _
 ·cases hc
/-! what is thrown -/
def eD (e:Int):Value:= .iface 216 (.agg #[.int .i64 e])
theorem asn (e:Int):bt av 62 [.b true,.i .i64 e] [] 0 (.bg []) [] 0:=by
 refine dT Sound.nil Tryz.func62 I8 ?_
 dsimp only [i62];simp only [go_sem,simprocAttr];exact Ends.au rfl rfl
theorem are (e:Int):cL av 62 [.b false,.i .i64 e] [] 0 (some (eD e)) (.bg []) [] 0:=by
 refine cL.dQ Sound.nil mo Tryz.func62 I8 (by simp [i62]) (aQ ?_)
 dsimp only [i62];simp only [go_sem,lv,simprocAttr];exact ⟨rfl,Ends.au rfl rfl⟩
def fZ:Ct
 |[.b c,.i .i64 e],_,n=>some (true,{v:= .bg [],n,pn:=bif c then none else some (eD e)})
 |_,_,_=>none
theorem x3:aq av 62 fZ:=fun args h n c E hc ht=>by
 unfold fZ at hc;split at hc
 ·rename_i b e;cases hc;cases b
  ·exact ax.yK (by kernel_rfl) rfl rfl (are e) _ _
  ·exact ax.yK (pn:=none) (by kernel_rfl) rfl rfl (asn e) _ _
 ·cases hc
/-! names -/
def Cq:List UInt8:=[97,98,99,100,101,102,103,104,105,106,107,108,109,110,111,112,113,114,115,116,117,118,119,120,121,122]
def xl (c:UInt8):Bool:=decide (97<=c.toNat)&&decide (c.toNat<=122)
theorem Lx (c:UInt8):Cq.contains c=xl c:=by
 have h: ∀n:Fin 256,Cq.contains (UInt8.ofNat n.val)=xl (UInt8.ofNat n.val):=by decide
 have:=h ⟨c.toNat,c.toNat_lt⟩;simpa using this
theorem tC {p:UInt8->Bool} (l:List UInt8):l.dropWhile p=[]↔l.all p=true:=by
 induction l with
 |nil=>simp
 |cons a r ih=>
  rw [List.dropWhile_cons];cases h:p a
  ·simp [h]
  ·simp only [cu,ih,fL,h,eJ]
theorem JR (s:List UInt8):(Go.Lib.trimS s Cq==[])=s.all xl:=by
 have hp:(fun c=>Cq.contains c)=xl:=funext Lx;rw [iG,lU];show List.dropWhile (fun c=>Cq.contains c) (List.dropWhile (fun c=>Cq.contains c) s.reverse).reverse=[]↔_;rw [hp,tC,List.all_reverse];constructor
 ·intro h;have:s.reverse.dropWhile xl=[]:=by
   cases hd:s.reverse.dropWhile xl with
   |nil=>rfl
   |cons a r=>
    exfalso;rw [hd,fL,aw] at h;have:=List.head?_dropWhile_not xl s.reverse;rw [hd] at this;simp only [List.head?_cons] at this;rw [h.1] at this;simp at this
  rw [tC,List.all_reverse] at this;exact this
 ·intro h;have:s.reverse.dropWhile xl=[]:=by rw [tC,List.all_reverse];exact h
  rw [this];rfl
theorem Zg: ∀(j:Nat) b,Cq[j]? =some b->b.toNat<128:=fun j b hb=>by
 have h:Cq.all (fun b=>decide (b.toNat<128))=true:=by decide
 exact bO (er.1 h b (bR hb))
theorem ar9 (s:List UInt8) (hs:s.length<=9223372036854775807):bt av 161 [.s s,.s Cq] [] 0 (.s (Go.Lib.trimS s Cq)) [] 0:=bt.Bt (fun D φ us ha=>by
 obtain ⟨u,m,rfl,h1,h2⟩:=ha.dZ;obtain ⟨u',m',rfl,h3,h4⟩:=h2.dZ;obtain rfl:=h4.kK;cases h1;cases h3;refine ⟨_,.s (Go.Lib.trimS s Cq),fun w=> ?_⟩;refine (trim_laid ⟨s.toArray⟩ ⟨Cq.toArray⟩ w (by show s.toArray.size<=_;simpa using hs) (by decide) Zg).mono fun e w' he=>⟨?_,he.2⟩
 rw [he.1]) (by kernel_rfl)
def Ix:Ct
 |[.s s,.s t],_,n=>some (decide (s.length<=9223372036854775807)&&decide (t=Cq),{v:= .s (Go.Lib.trimS s Cq),n})
 |_,_,_=>none
theorem arv:aq av 161 Ix:=fun args h n c E hc ht=>by
 unfold Ix at hc;split at hc
 ·cases hc;simp only [aw,aV] at ht;obtain ⟨h1,rfl⟩:=ht;exact ax.pure (by kernel_rfl) rfl rfl (ar9 _ h1) _ _
 ·cases hc
def jc (s:List UInt8):Bool:=(!(s==[]))&&(decide (s.length<=16)&&s.all xl)
def T94:List (Nat×Ct):=[(161,Ix)]
theorem aqD:Sound av (bZ T94):=Sound.cons arv Sound.nil
theorem w94 (s:List UInt8):bt av 94 [.s s] [] 0 (.b (jc s)) [] 0:=by
 refine dT aqD Tryz.func94 aaT ?_
 dsimp only [i94,T94];have hk:s.length<=16-> ∀(h:Hp) n,Ix [.s s,.s [97,98,99,100,101,102,103,104,105,106,107,108,109,110,111,112,113,114,115,116,117,118,119,120,121,122]] h n=some (true,{v:= .s (Go.Lib.trimS s Cq),n}):=fun hl h n=>by
  have h1:decide (s.length<=9223372036854775807)=true:=ah (by omega)
  simp only [Ix,h1,eJ];rfl
 have hn:=JR s;have hR:jc s=((!(s==[]))&&(decide (s.length<=16)&&s.all xl)):=rfl;generalize jc s=R at hR ⊢;generalize Go.Lib.trimS s Cq=t at*;have n1:(s !=[])= !(s==[]):=rfl;have n2:decide ((s.length:Int)<=16)=decide (s.length<=16):=by rw [iG];simp;omega
 cases c1:(s==[])
 ·cases c2:decide (s.length<=16)
  ·rw [c1,c2] at hR;simp only [go_sem,n1,n2,c1,c2,simprocAttr];exact Ends.au rfl (by rw [hR];rfl)
  ·rw [c1,c2] at hR;have hk:=hk (bO c2);simp only [go_sem,n1,n2,c1,c2,hk,simprocAttr];exact Ends.au rfl (by rw [hR,<-hn];rfl)
 ·rw [c1] at hR;simp only [go_sem,n1,n2,c1,simprocAttr];exact Ends.au rfl (by rw [hR];rfl)
def F9:Ct
 |[.s s],_,n=>some (true,{v:= .b (jc s),n})
 |_,_,_=>none
theorem s94:aq av 94 F9:=fun args h n c E hc ht=>by
 unfold F9 at hc;split at hc
 ·cases hc;exact ax.pure (by kernel_rfl) rfl rfl (w94 _) _ _
 ·cases hc
/-! the order of taps -/
theorem as2 (x:Int):bt av 173 [.i .i64 x] [] 0 (.b false) [] 0:=by
 refine dT Sound.nil Tryz.func173 Lq ?_
 dsimp only [i173];have e:(x !=x)=false:=by simp
 simp only [go_sem,e,simprocAttr];exact Ends.au rfl rfl
def GO:Ct
 |[.i .i64 x],_,n=>some (true,{v:= .b false,n})
 |_,_,_=>none
theorem arS:aq av 173 GO:=fun args h n c E hc ht=>by
 unfold GO at hc;split at hc
 ·cases hc;exact ax.pure (by kernel_rfl) rfl rfl (as2 _) _ _
 ·cases hc
def lJ (a b:Int):Int:=if a<b then -1 else if a>b then 1 else 0
def aov:List (Nat×Ct):=[(173,GO)]
theorem ahk:Sound av (bZ aov):=Sound.cons arS Sound.nil
theorem as8 (a b:Int):bt av 109 [.i .i64 a,.i .i64 b] [] 0 (.i .i64 (lJ a b)) [] 0:=by
 refine dT ahk Tryz.func109 Nx ?_
 dsimp only [i109,aov];have hR:lJ a b=if a<b then -1 else if a>b then 1 else 0:=rfl
 generalize lJ a b=R at hR ⊢;cases c1:decide (a<b)
 ·rw [aN (ob c1)] at hR;cases c2:decide (a>b)
  ·rw [aN (ob c2)] at hR;simp only [go_sem,GO,c1,c2,simprocAttr];exact Ends.au rfl (by rw [hR])
  ·rw [aM (bO c2)] at hR;simp only [go_sem,GO,c1,c2,simprocAttr];exact Ends.au rfl (by rw [hR])
 ·rw [aM (bO c1)] at hR;simp only [go_sem,GO,c1,simprocAttr];exact Ends.au rfl (by rw [hR])
def AX:Ct
 |[.i .i64 a,.i .i64 b],_,n=>some (true,{v:= .i .i64 (lJ a b),n})
 |_,_,_=>none
theorem ajg:aq av 109 AX:=fun args h n c E hc ht=>by
 unfold AX at hc;split at hc
 ·cases hc;exact ax.pure (by kernel_rfl) rfl rfl (as8 _ _) _ _
 ·cases hc
def P8 (a b:Int):Int:=if a≠0 then a else b
theorem ars (a b:Int):bt av 108 [.fz [.i .i64 a,.i .i64 b] 2] [] 0 (.i .i64 (P8 a b)) [] 0:=by
 refine dT Sound.nil Tryz.func108 OF ?_
 dsimp only [i108];have hR:P8 a b=if a≠0 then a else b:=rfl
 generalize P8 a b=R at hR ⊢;simp only [go_sem,simprocAttr];refine Loop.rounds (F:=⟨av,bZ [],[9,14],18,0⟩) 3 Sound.nil mo ?_;cases c1:(a !=0)
 ·have ha:a=0:=by simpa using c1
  rw [aN (by simpa using ha)] at hR
  cases c2:(b !=0)
  ·have hb:b=0:=by simpa using c2
   simp only [go_sem,c1,c2,simprocAttr];exact Ends.au rfl (by rw [hR,hb])
  ·simp only [go_sem,c1,c2,simprocAttr];exact Ends.au rfl (by rw [hR])
 ·rw [aM (by simpa using c1)] at hR
  simp only [go_sem,c1,simprocAttr];exact Ends.au rfl (by rw [hR])
def Li:Ct
 |[x],h,n=>wH h 1 x fun rd m cs ok=>match m,cs with
  |2,[.i .i64 a,.i .i64 b]=>some (ok,{v:= .i .i64 (P8 a b),n,rd})
  |_,_=>none
 |_,_,_=>none
theorem aqT:aq av 108 Li:=fun args h n c E hc ht=>by
 unfold Li at hc;split at hc
 ·rename_i x;rw [oS] at hc;simp only [af] at hc;obtain ⟨⟨rd,m,cs,ok⟩,hv,he⟩:=hc;dsimp only at he;split at he
  ·cases he;subst ht;exact ax.A3 (by kernel_rfl) (argsF:=[.fz _ 2]) ⟨rF hv rfl (fun c hc=>hc),trivial⟩ rfl (ars _ _)
  ·cases he
 ·cases hc
def fb (a b:Tp):Int:=P8 (lJ a.me b.me) (lJ a.sh b.sh)
def alS:List (Nat×Ct):=[(108,Li),(109,AX)]
theorem ahN:Sound av (bZ alS):=Sound.cons aqT (Sound.cons ajg Sound.nil)
theorem arW (a b:Tp):bt av 139 [.agg a.l,.agg b.l] [] 0 (.i .i64 (fb a b)) [] 0:=by
 obtain ⟨a1,a2,a3,a4,sa⟩:=a;obtain ⟨b1,b2,b3,b4,sb⟩:=b;have hR:fb ⟨a1,a2,a3,a4,sa⟩ ⟨b1,b2,b3,b4,sb⟩=P8 (lJ a1 b1) (lJ a2 b2):=rfl;generalize fb ⟨a1,a2,a3,a4,sa⟩ ⟨b1,b2,b3,b4,sb⟩=R at*;refine dT ahN Tryz.func139 MD ?_
 dsimp only [i139,alS,Tp.l];generalize sa.a=A;generalize sb.a=B;simp only [go_sem,AX,Li,eM,simprocAttr];exact Ends.au rfl (by rw [hR])
def Au:Ct
 |[.agg a,.agg b],_,n=>(sQ a).bind fun a=>(sQ b).bind fun b=>some (true,{v:= .i .i64 (fb a b),n})
 |_,_,_=>none
theorem afm:aq av 139 Au:=fun args h n c E hc ht=>by
 unfold Au at hc;split at hc
 ·simp only [af] at hc;obtain ⟨a,ha,b,hb,he⟩:=hc;cases he;rw [j1 _ _ ha,j1 _ _ hb];exact ax.pure (by kernel_rfl) (by simp only [ae,AV.al,Tp.al,az]) rfl (arW a b) _ _
 ·cases hc
end Go.Proofs.Rom
end
namespace Go.Proofs.Rom
open Go.Ab
def pF (s:bu) (m:Int):Bool:=s.ow==m||(s.bl/2^m.toNat) % 2==1
theorem H9 (b:Int) (m:Int) (hm:0<=m/\m<=6):b.fdiv (2^(if m.toNat<=64 then m.toNat else 64))=b/2^m.toNat:=by
 rw [aM (by omega),sJ _ (Int.pow_nonneg (by decide))]
theorem Qz (b:Int) (m:Nat) (hb:0<=b/\b<=18446744073709551615):0<=b/2^m/\b/2^m<=18446744073709551615:=
 ⟨Int.ediv_nonneg hb.1 (Int.pow_nonneg (by decide)),Int.le_trans (Int.ediv_le_self _ hb.1) hb.2⟩
theorem Ql (x:Int) (hx:0<=x/\x<=18446744073709551615):iU .u64 x 1=x % 2:=by
 obtain ⟨k,rfl⟩:=Int.eq_ofNat_of_zero_le hx.1;unfold iU;have e2:(BitVec.ofInt IntKind.u64.bits (k:Int) &&& BitVec.ofInt IntKind.u64.bits 1).toNat=k % 2:=by
  show (BitVec.ofInt 64 (k:Int) &&& BitVec.ofInt 64 ((1:Nat):Int)).toNat=k % 2;simp only [BitVec.toNat_and,BitVec.ofInt_natCast,BitVec.toNat_ofNat];rw [mL (by omega),mL (by omega)]
  exact Nat.and_two_pow_sub_one_eq_mod k 1
 rw [e2];show IntKind.u64.wrap ((k % 2:Nat):Int)=_;rw [IntKind.wrap];simp [IntKind.bits,IntKind.signed];omega
theorem w69 (s:bu) (m:Int) (hm:0<=m/\m<=6) (hb:0<=s.bl/\s.bl<=18446744073709551615):bt av 69 [.agg s.l,.i .i64 m] [] 0 (.b (pF s m)) [] 0:=by
 have hR:pF s m=(s.ow==m||(s.bl/2^m.toNat) % 2==1):=rfl;generalize pF s m=R at hR ⊢;obtain ⟨ow,ss,rt,bl⟩:=s;dsimp only at hb hR;have h1:=H9 bl m hm;have h2:=Ql _ (Qz bl m.toNat hb);have h3:decide (0<=m)=true:=ah hm.1;refine dT Sound.nil Tryz.func69 acA ?_
 dsimp only [i69];simp only [bu.l];cases c1:(ow==m)
 ·simp only [go_sem,c1,h1,h2,h3,simprocAttr];exact Ends.au rfl (by rw [hR,c1];rfl)
 ·simp only [go_sem,c1,simprocAttr];exact Ends.au rfl (by rw [hR,c1];rfl)
def Bz:Ct
 |[.agg c,.i .i64 m],_,n=>(xB c).bind fun s=>some (da 0 6 m&&da 0 18446744073709551615 s.bl,{v:= .b (pF s m),n})
 |_,_,_=>none
theorem s69:aq av 69 Bz:=fun args h n c E hc ht=>by
 unfold Bz at hc;split at hc
 ·simp only [af] at hc;obtain ⟨s,hs,he⟩:=hc;cases he;rw [q8 _ _ hs];simp only [aw] at ht;exact ax.pure (by kernel_rfl) (by simp only [ae,AV.al,bu.al,az]) rfl (w69 s _ (dD ht.1) (dD ht.2)) _ _
 ·cases hc
/-! members -/
theorem ab2 {a b:Mb} (h:AV.agg a.l= .agg b.l):a=b:=by
 obtain ⟨a1,a2⟩:=a;obtain ⟨b1,b2⟩:=b;simp only [Mb.l,AV.agg.injEq,xF,AV.i.injEq,AV.s.injEq,nq,dr] at h;obtain ⟨rfl,rfl⟩:=h;rfl
theorem arK (m:Mb) (s:List UInt8):bt av 163 [.agg m.l,.fp [.s s] 0] [] 0 (.b (m.nm==s)) [] 0:=by
 refine dT Sound.nil Tryz.func163 OM ?_
 dsimp only [i163];simp only [go_sem,Mb.l,simprocAttr];exact Ends.au rfl rfl
def AB (l:List Mb) (s:List UInt8):Int:=x5 (fun m=>m.nm==s) l 0
theorem auL (l:List Mb) (s:List UInt8) (hl:l.length<=9223372036854775807):bt av 162 [.fz (rows Mb.l l) l.length,.fn 163 [.fp [.s s] 0]] [] 0 (.i .i64 (AB l s)) [] 0:=
 IH (row:=Mb.l) (el:=fun m=> .agg m.l) mo Tryz.func162 (by kernel_rfl) (by kernel_rfl) Mb.len Mb.al rfl (fun _=>rfl) (fun a b h=>by rw [ab2 h]) l hl (fun x _=>arK x s)
def IT:Ct
 |[.fz L m,.fn 163 [.fp [.s s] 0]],_,n=>(bk 2 QM m L).bind fun l=>some (decide (m<=9223372036854775807),{v:= .i .i64 (AB l s),n})
 |_,_,_=>none
theorem apZ:aq av 162 IT:=fun args h n c E hc ht=>by
 unfold IT at hc;split at hc
 ·simp only [af] at hc;obtain ⟨l,hl,he⟩:=hc;cases he;obtain ⟨rfl,rfl⟩:=bD zD hl;exact ax.pure (by kernel_rfl) (by simp only [ae,AV.al,fR,az]) rfl (auL l _ (bO ht)) _ _
 ·cases hc
def T95:List (Nat×Ct):=[(162,bj IT)]
theorem arV:Sound av (bZ T95):=Sound.cons apZ.nv Sound.nil
theorem w95 (r:Rm) (s:List UInt8) (hl:r.ms.length<=9223372036854775807):bt av 95 [.fp r.a 0,.s s] [] 0 (.i .i64 (AB r.ms s)) [] 0:=by
 obtain ⟨ms,sh,tp⟩:=r;have hk: ∀(h:Hp) n b,ab h b=some {cells:=[.s s]}->bj IT [.fz (rows Mb.l ms) ms.length,.fn 163 [.p b 0]] h n=some (true,{v:= .i .i64 (AB ms s),n,rd:=[b]}):=fun h n b hb=>by
  simp only [bj,bn,bQ,jf,iL,DN,dz (fR 0 ms),hb,aS,dV,IT,EA,ah hl];rfl
 refine dT arV Tryz.func95 aee ?_
 dsimp only [i95,T95];simp only [Rm.a];simp only [go_sem,hk,simprocAttr];exact Ends.au rfl rfl
def Ho:Ct
 |[.fp c 0,.s s],_,n=>(qy c).bind fun r=>some (decide (r.ms.length<=9223372036854775807),{v:= .i .i64 (AB r.ms s),n})
 |_,_,_=>none
theorem s95:aq av 95 Ho:=fun args h n c E hc ht=>by
 unfold Ho at hc;split at hc
 ·simp only [af] at hc;obtain ⟨r,hr,he⟩:=hc;cases he;rw [eh hr];exact ax.pure (by kernel_rfl) (by simp only [ae,AV.al,Rm.al,az]) rfl (w95 r _ (bO ht)) _ _
 ·cases hc
def yY (ms:List Mb) (i:Nat) (m:Mb):Bool:=jc m.nm&&(da 0 1073741824 m.es&&(AB ms m.nm==(i:Int)))
def agd:List (Nat×Ct):=[(71,iF),(94,F9),(95,Ho)]
theorem amI:Sound av (bZ agd):=Sound.cons DO (Sound.cons s94 (Sound.cons s95 Sound.nil))
theorem aqM (r:Rm) (i:Nat) (m:Mb) (hl:r.ms.length<=9223372036854775807):bt av 145 [.i .i64 (i:Int),.agg m.l,.fp [.fp r.a 0] 0] [] 0 (.b (yY r.ms i m)) [] 0:=by
 have hrb: ∀j,ae j r.a=true:=fun j=>Rm.al j r;have hk: ∀(h:Hp) n,Ho [.fp r.a 0,.s m.nm] h n=some (true,{v:= .i .i64 (AB r.ms m.nm),n}):=fun h n=>by simp only [Ho,ey,aS,ah hl]
 have hR:yY r.ms i m=(jc m.nm&&(da 0 1073741824 m.es&&(AB r.ms m.nm==(i:Int)))):=rfl;generalize yY r.ms i m=R at hR ⊢;generalize AB r.ms m.nm=at_ at*;generalize r.a=RA at*;obtain ⟨nm,es⟩:=m;refine dT amI Tryz.func145 KN ?_
 dsimp only [i145,agd];simp only [Mb.l];dsimp only at hR hk;cases c1:jc nm
 ·rw [c1] at hR;simp only [go_sem,F9,c1,simprocAttr];exact Ends.au rfl (by rw [hR];rfl)
 cases c2:da 0 1073741824 es
 ·rw [c1,c2] at hR;simp only [go_sem,F9,iF,c1,c2,simprocAttr];exact Ends.au rfl (by rw [hR];rfl)
 rw [c1,c2] at hR;simp only [go_sem,F9,iF,c1,c2,hk,simprocAttr];exact Ends.au rfl (by rw [hR];rfl)
/-! all, over members -/
theorem asX {g:FuncId} {caps:List AV} {p:Nat->Mb->Bool} (hg:bJ av g=true) (hcaps:ae 0 caps=true) (l:List Mb) (hl:l.length<=9223372036854775807)
 (hF: ∀(k:Nat) (a:Mb),l[k]? =some a->bt av g (.i .i64 (k:Int):: .agg a.l::caps) [] 0 (.b (p k a)) [] 0):bt av 144 [.fz (rows Mb.l l) l.length,.fn g caps] [] 0 (.b (eZ p l 0)) [] 0:=by
 have hs:=pz (el:=fun a:Mb=> .agg a.l) hg (fun a=>Mb.al a) hcaps hF;have hat:=fun (k:Nat) (a:Mb) (ha:l[k]? =some a) (h:Hp) (n:Nat)=>zY (g:=g) (caps:=caps) (el:=fun a:Mb=> .agg a.l) (p:=p) ha h n;generalize Rk g caps (fun a:Mb=>AV.agg a.l) p l=kq at hs hat;have hcx:Sound av (bZ [(g,kq)]):=Sound.cons hs Sound.nil;refine dT (cx:=bZ [(g,kq)]) hcx Tryz.func144 Pc ?_
 dsimp only [i144];have hR0:eZ p l 0=eZ p (l.drop 0) 0:=rfl;generalize eZ p l 0=R at hR0 ⊢;have hLb: ∀j,ae j (rows Mb.l l)=true:=fun j=>fR j l;have hL: ∀(k:Nat) x,l[k]? =some x->List.take 2 (List.drop (k*2) (rows Mb.l l))=x.l:=fun k x hk=>eo Mb.len hk;generalize rows Mb.l l=L at hL hLb ⊢;have hcb: ∀j,ae j caps=true:=fun j=>aD _ hcaps;simp only [go_sem,simprocAttr];refine Loop.fj (F:=⟨av,bZ [(g,kq)],[10,18],20,0⟩) hcx mo l.length (fun k=>R=eZ p (l.drop k) k)
  (fun k=>[(1,.fn g caps),(7,.fz L l.length),(8,.i .i64 (l.length:Int)),(9,.i .i64 (k:Int))])
  (fun k=>[]) 0 (bx 0) hR0 ?_ ?_ (fun k hk ho=> ?_)
 ·simp only [go_sem,AV.al,ae,aG,hLb,hcb,simprocAttr]
 ·simp only [go_sem,simprocAttr]
 by_cases hlt:k<l.length
 ·have c1:decide ((k:Int)<(l.length:Int))=true:=ah (by omega)
  have c2:decide (0<=(k:Int)/\(k:Int)<(l.length:Int))=true:=ah (by omega)
  obtain ⟨x,hx⟩: ∃x,l[k]? =some x:=⟨_,aY hlt⟩;have hr:=hL k x hx;have hw:IntKind.i64.wrap ((k:Int)+1)=((k+1:Nat):Int):=by rw [bS (by omega) (by omega)];omega
  have ha:=hat k x hx;rw [mr hx] at ho;obtain ⟨nm,es⟩:=x;simp only [Mb.l] at hr ha;cases hp:p k ⟨nm,es⟩
  ·rw [hp] at ha ho;simp only [go_sem,c1,c2,hr,ha,simprocAttr];exact Ends.au rfl (by rw [ho];rfl)
  ·rw [hp] at ha ho;simp only [go_sem,c1,c2,hr,ha,hw,hlt,AV.al,ae,aG,hLb,hcb,simprocAttr];rw [ho];rfl
 ·have c1:decide ((k:Int)<(l.length:Int))=false:=cN (by omega)
  obtain rfl:k=l.length:=by omega
  rw [wC] at ho;simp only [go_sem,c1,simprocAttr];exact Ends.au rfl (by rw [ho];rfl)
def lf (ms:List Mb):Bool:=decide (ms.length<=6)&&eZ (yY ms) ms 0
def J7:Ct
 |[.fz L m,.fn 145 [.fp [.fp c 0] 0]],_,n=>(bk 2 QM m L).bind fun l=>(qy c).bind fun r=>some (decide (m<=9223372036854775807)&&decide (r.ms.length<=9223372036854775807),{v:= .b (eZ (yY r.ms) l 0),n})
 |_,_,_=>none
theorem asz:aq av 144 J7:=fun args h n c E hc ht=>by
 unfold J7 at hc;split at hc
 ·simp only [af] at hc;obtain ⟨l,hl,r,hr,he⟩:=hc;cases he;simp only [aw,aV] at ht;obtain ⟨rfl,rfl⟩:=bD zD hl;rw [eh hr];exact ax.pure (by kernel_rfl) (by simp only [ae,AV.al,fR,Rm.al,az]) rfl (asX (by kernel_rfl) (by simp only [ae,AV.al,Rm.al,az]) l ht.1 (fun k a _=>aqM r k a ht.2)) _ _
 ·cases hc
def T80:List (Nat×Ct):=[(144,bj J7)]
theorem atd:Sound av (bZ T80):=Sound.cons asz.nv Sound.nil
theorem w80 (r:Rm) (hl:r.ms.length<=9223372036854775807):bt av 80 [.fp r.a 0] [] 0 (.b (lf r.ms)) [] 0:=by
 have hrb: ∀j,ae j r.a=true:=fun j=>Rm.al j r;have hk: ∀(h:Hp) n b,ab h b=some {cells:=[.fp r.a 0]}->bj J7 [.fz (rows Mb.l r.ms) r.ms.length,.fn 145 [.p b 0]] h n=some (true,{v:= .b (eZ (yY r.ms) r.ms 0),n,rd:=[b]}):=fun h n b hb=>by
  simp only [bj,bn,bQ,jf,iL,ny (hrb 0),dz (fR 0 r.ms),hb,aS,dV,J7,EA,ey,ah hl];rfl
 have hR:lf r.ms=(decide (r.ms.length<=6)&&eZ (yY r.ms) r.ms 0):=rfl;generalize lf r.ms=R at hR ⊢;generalize eZ (yY r.ms) r.ms 0=A at*;obtain ⟨ms,sh,tp⟩:=r;simp only [Rm.a] at*;have n1:decide ((ms.length:Int)<=6)=decide (ms.length<=6):=by rw [iG];simp;omega
 refine dT atd Tryz.func80 Vc ?_
 dsimp only [i80,T80];cases c1:decide (ms.length<=6)
 ·rw [c1] at hR;simp only [go_sem,n1,c1,simprocAttr];exact Ends.au rfl (by rw [hR];rfl)
 ·rw [c1] at hR;simp only [go_sem,n1,c1,hk,simprocAttr];exact Ends.au rfl (by rw [hR];rfl)
def k80:Ct
 |[.fp c 0],_,n=>(qy c).bind fun r=>some (decide (r.ms.length<=9223372036854775807),{v:= .b (lf r.ms),n})
 |_,_,_=>none
theorem s80:aq av 80 k80:=fun args h n c E hc ht=>by
 unfold k80 at hc;split at hc
 ·simp only [af] at hc;obtain ⟨r,hr,he⟩:=hc;cases he;rw [eh hr];exact ax.pure (by kernel_rfl) (by simp only [ae,AV.al,Rm.al,az]) rfl (w80 r (bO ht)) _ _
 ·cases hc
def aa7:List (Nat×Ct):=[(71,iF)]
theorem Q7:Sound av (bZ aa7):=Sound.cons DO Sound.nil
theorem auS (k x:Int):bt av 158 [.i .i64 k,.i .i64 x] [] 0 (.b (da 0 4294967295 x)) [] 0:=by
 refine dT Q7 Tryz.func158 Oz ?_
 dsimp only [i158,aa7];simp only [go_sem,iF,simprocAttr];exact Ends.au rfl rfl
def Ln (rt:List Int) (k:Nat) (x:Int):Bool:=da 1 1073741824 x&&(((k:Int)==0)||decide (x>rt.getD (k-1) 0))
theorem aqo (s:bu) (k:Nat) (x:Int) (hk:k<s.rt.length) (hl:s.rt.length<=9223372036854775807):bt av 159 [.i .i64 (k:Int),.i .i64 x,.fp s.l 0] [] 0 (.b (Ln s.rt k x)) [] 0:=by
 have hR:Ln s.rt k x=(da 1 1073741824 x&&(((k:Int)==0)||decide (x>s.rt.getD (k-1) 0))):=rfl;generalize Ln s.rt k x=R at hR ⊢;obtain ⟨ow,ss,rt,bl⟩:=s;dsimp only at hk hR hl;refine dT Q7 Tryz.func159 PT ?_
 dsimp only [i159,aa7];simp only [bu.l];cases c1:da 1 1073741824 x
 ·rw [c1] at hR;simp only [go_sem,iF,c1,simprocAttr];exact Ends.au rfl (by rw [hR];rfl)
 cases c2:((k:Int)==0)
 ·rw [c1,c2] at hR;have hk0:k≠0:=fun e=>by subst e;simp at c2
  have hw:IntKind.i64.wrap ((k:Int)-1)=((k-1:Nat):Int):=by rw [bS (by omega) (by omega)];omega
  have c3:decide (0<=((k-1:Nat):Int)/\((k-1:Nat):Int)<(rt.length:Int))=true:=ah (by omega)
  have hr:(rows aC rt)[k-1]? =some (.i .i64 (rt.getD (k-1) 0)):=by
   have hg:rt[k-1]? =some (rt.getD (k-1) 0):=by rw [oI,aY (by omega)];rfl
   have:=cn (f:=aC) (z:=1) (j:=0) (v:= .i .i64 (rt.getD (k-1) 0)) bP hg rfl;simpa using this
  generalize rt.getD (k-1) 0=y at*;simp only [go_sem,iF,c1,c2,hw,c3,hr,dK,simprocAttr];exact Ends.au rfl (by rw [hR];rfl)
 ·rw [c1,c2] at hR;simp only [go_sem,iF,c1,c2,simprocAttr];exact Ends.au rfl (by rw [hR];rfl)
/-! all, over numbers -/
theorem am3 {g:FuncId} {caps:List AV} {p:Nat->Int->Bool} (hg:bJ av g=true) (hcaps:ae 0 caps=true) (l:List Int) (hl:l.length<=9223372036854775807)
 (hF: ∀(k:Nat) (a:Int),l[k]? =some a->bt av g (.i .i64 (k:Int):: .i .i64 a::caps) [] 0 (.b (p k a)) [] 0):bt av 157 [.fz (rows aC l) l.length,.fn g caps] [] 0 (.b (eZ p l 0)) [] 0:=by
 have hs:=pz (el:=fun a:Int=> .i .i64 a) hg (fun a=>rfl) hcaps hF;have hat:=fun (k:Nat) (a:Int) (ha:l[k]? =some a) (h:Hp) (n:Nat)=>zY (g:=g) (caps:=caps) (el:=fun a:Int=> .i .i64 a) (p:=p) ha h n;generalize Rk g caps (fun a:Int=>AV.i .i64 a) p l=kq at hs hat;have hcx:Sound av (bZ [(g,kq)]):=Sound.cons hs Sound.nil;refine dT (cx:=bZ [(g,kq)]) hcx Tryz.func157 yT ?_
 dsimp only [i157];have hR0:eZ p l 0=eZ p (l.drop 0) 0:=rfl;generalize eZ p l 0=R at hR0 ⊢;have hLb: ∀j,ae j (rows aC l)=true:=fun j=>iB j l;have hL: ∀(k:Nat) x,l[k]? =some x->(rows aC l)[k]? =some (.i .i64 x):=fun k x hk=>by
  have:=cn (f:=aC) (z:=1) (j:=0) (v:= .i .i64 x) bP hk rfl;simpa using this
 generalize rows aC l=L at hL hLb ⊢;have hcb: ∀j,ae j caps=true:=fun j=>aD _ hcaps;simp only [go_sem,simprocAttr];refine Loop.fj (F:=⟨av,bZ [(g,kq)],[10,18],20,0⟩) hcx mo l.length (fun k=>R=eZ p (l.drop k) k)
  (fun k=>[(1,.fn g caps),(7,.fz L l.length),(8,.i .i64 (l.length:Int)),(9,.i .i64 (k:Int))])
  (fun k=>[]) 0 (bx 0) hR0 ?_ ?_ (fun k hk ho=> ?_)
 ·simp only [go_sem,AV.al,ae,aG,hLb,hcb,simprocAttr]
 ·simp only [go_sem,simprocAttr]
 by_cases hlt:k<l.length
 ·have c1:decide ((k:Int)<(l.length:Int))=true:=ah (by omega)
  have c2:decide (0<=(k:Int)/\(k:Int)<(l.length:Int))=true:=ah (by omega)
  obtain ⟨x,hx⟩: ∃x,l[k]? =some x:=⟨_,aY hlt⟩;have hr:=hL k x hx;have hw:IntKind.i64.wrap ((k:Int)+1)=((k+1:Nat):Int):=by rw [bS (by omega) (by omega)];omega
  have ha:=hat k x hx;rw [mr hx] at ho;cases hp:p k x
  ·rw [hp] at ha ho;simp only [go_sem,c1,c2,hr,ha,dK,simprocAttr];exact Ends.au rfl (by rw [ho];rfl)
  ·rw [hp] at ha ho;simp only [go_sem,c1,c2,hr,ha,hw,hlt,AV.al,ae,aG,hLb,hcb,dK,simprocAttr];rw [ho];rfl
 ·have c1:decide ((k:Int)<(l.length:Int))=false:=cN (by omega)
  obtain rfl:k=l.length:=by omega
  rw [wC] at ho;simp only [go_sem,c1,simprocAttr];exact Ends.au rfl (by rw [ho];rfl)
def DK:Ct
 |[.fz L m,.fn 158 []],_,n=>(bk 1 dJ m L).bind fun l=>some (decide (m<=9223372036854775807),{v:= .b (l.all (da 0 4294967295)),n})
 |[.fz L m,.fn 159 [.fp c 0]],_,n=>(bk 1 dJ m L).bind fun l=>(xB c).bind fun s=>some (decide (m<=9223372036854775807)&&decide (s.rt=l),{v:= .b (eZ (Ln s.rt) l 0),n})
 |_,_,_=>none
theorem aqy:aq av 157 DK:=fun args h n c E hc ht=>by
 unfold DK at hc;split at hc
 ·simp only [af] at hc;obtain ⟨l,hl,he⟩:=hc;cases he;obtain ⟨rfl,rfl⟩:=bD dx hl;have:=am3 (g:=158) (caps:=[]) (p:=fun _ x=>da 0 4294967295 x) (by kernel_rfl) rfl l (bO ht) (fun k a _=>auS _ _)
  rw [Cz] at this;exact ax.pure (by kernel_rfl) (by simp only [ae,AV.al,iB,az]) rfl this _ _
 ·simp only [af] at hc;obtain ⟨l,hl,s,hs,he⟩:=hc;cases he;simp only [aw,aV] at ht;obtain ⟨hm,hsl⟩:=ht;subst hsl;obtain ⟨rfl,hlm⟩:=bD dx hl;subst hlm;rw [q8 _ _ hs];exact ax.pure (by kernel_rfl) (by simp only [ae,AV.al,iB,bu.al,az]) rfl (am3 (by kernel_rfl) (by simp only [ae,AV.al,bu.al,az]) s.rt hm (fun k a ha=>aqo s k a (eK.1 ha).1 hm)) _ _
 ·cases hc
def dX (n:Nat) (s:bu):Bool:=
 da 0 ((n:Int)-1) s.ow&&(da 1 3 (s.ss.length:Int)&&(((s.rt.length:Int)==(s.ss.length:Int))&&((s.bl/2^n==0)&&(!(s.bl/2^s.ow.toNat % 2==1)&&(s.ss.all (da 0 4294967295)&&eZ (Ln s.rt) s.rt 0)))))
def T91:List (Nat×Ct):=[(71,iF),(157,bj DK)]
theorem atK:Sound av (bZ T91):=Sound.cons DO (Sound.cons aqy.nv Sound.nil)
theorem w91 (r:Rm) (s:bu) (hn:r.ms.length<=6) (hb:0<=s.bl/\s.bl<=18446744073709551615) (hl:s.ss.length<=9223372036854775807) (hl2:s.rt.length<=9223372036854775807):bt av 91 [.fp r.a 0,.agg s.l] [] 0 (.b (dX r.ms.length s)) [] 0:=by
 have hR:dX r.ms.length s=(da 0 ((r.ms.length:Int)-1) s.ow&&(da 1 3 (s.ss.length:Int)&&(((s.rt.length:Int)==(s.ss.length:Int))&&((s.bl/2^r.ms.length==0)&&(!(s.bl/2^s.ow.toNat % 2==1)&&(s.ss.all (da 0 4294967295)&&eZ (Ln s.rt) s.rt 0)))))):=rfl;generalize dX r.ms.length s=R at hR ⊢;obtain ⟨ms,sh,tp⟩:=r;have hsb:=s.al;have hs4:=kJ s;have hk1: ∀(h:Hp) n,bj DK [.fz (rows aC s.ss) s.ss.length,.fn 158 []] h n=some (true,{v:= .b (s.ss.all (da 0 4294967295)),n,rd:=[]}):=fun h n=>by
  simp only [bj,bn,bQ,jf,dz (iB 0 s.ss),aS,DK,eE,ah hl];rfl
 have hk2: ∀(h:Hp) n b,ab h b=some {cells:=s.l}->bj DK [.fz (rows aC s.rt) s.rt.length,.fn 159 [.p b 0]] h n=some (true,{v:= .b (eZ (Ln s.rt) s.rt 0),n,rd:=[b]}):=fun h n b hb=>by
  have hss:k7 (Go.Ab.nv h 4) s.l=some ([],s.l):=by
   simp only [bu.l,bn,bQ,jN,dz (iB 0 _),aS,List.nil_append]
  simp only [bj,bn,bQ,jf,iL,hss,dz (iB 0 s.rt),hb,aS,dV,DK,eE,hs4,ah hl2,pX,az];rfl
 generalize s.ss.all (da 0 4294967295)=A1 at*;generalize eZ (Ln s.rt) s.rt 0=A2 at*;obtain ⟨ow,ss,rt,bl⟩:=s;simp only [Rm.a,bu.l] at*;refine dT atK Tryz.func91 acM ?_
 dsimp only [i91,T91];have hw:IntKind.i64.wrap ((ms.length:Int)-1)=(ms.length:Int)-1:=bS (by omega) (by omega)
 have e1:=H9 bl (ms.length:Int) (by omega)
 rw [lR] at e1;have e0:decide (0<=(ms.length:Int))=true:=ah (by omega)
 cases c1:da 0 ((ms.length:Int)-1) ow
 ·rw [c1] at hR;simp only [go_sem,iF,hw,c1,simprocAttr];exact Ends.au rfl (by rw [hR];rfl)
 have how:=dD c1;have e2:=H9 bl ow (by omega)
 have e3:=Ql _ (Qz bl ow.toNat hb);have e4:decide (0<=ow)=true:=ah (by omega)
 cases c2:da 1 3 (ss.length:Int)
 ·rw [c1,c2] at hR;simp only [go_sem,iF,hw,c1,c2,simprocAttr];exact Ends.au rfl (by rw [hR];rfl)
 have n3:((rt.length:Int) !=(ss.length:Int))= !((rt.length:Int)==(ss.length:Int)):=rfl;cases c3:((rt.length:Int)==(ss.length:Int))
 ·rw [c1,c2,c3] at hR;simp only [go_sem,iF,hw,c1,c2,n3,c3,simprocAttr];exact Ends.au rfl (by rw [hR];rfl)
 have n4:(bl/2^ms.length !=0)= !(bl/2^ms.length==0):=rfl;cases c4:(bl/2^ms.length==0)
 ·rw [c1,c2,c3,c4] at hR;simp only [go_sem,iF,hw,c1,c2,n3,c3,n4,c4,e0,e1,simprocAttr];exact Ends.au rfl (by rw [hR];rfl)
 cases c5:(bl/2^ow.toNat % 2==1);rotate_left
 ·rw [c1,c2,c3,c4,c5] at hR;simp only [go_sem,iF,hw,c1,c2,n3,c3,n4,c4,e0,e1,e2,e3,e4,c5,simprocAttr];exact Ends.au rfl (by rw [hR];rfl)
 rw [c1,c2,c3,c4,c5] at hR;cases A1
 ·simp only [go_sem,iF,hw,c1,c2,n3,c3,n4,c4,e0,e1,e2,e3,e4,c5,hk1,hk2,simprocAttr];exact Ends.au rfl (by rw [hR];rfl)
 ·simp only [go_sem,iF,hw,c1,c2,n3,c3,n4,c4,e0,e1,e2,e3,e4,c5,hk1,hk2,simprocAttr];exact Ends.au rfl (by rw [hR];rfl)
def bu.ok (s:bu):Bool:=da 0 18446744073709551615 s.bl&&(decide (s.ss.length<=9223372036854775807)&&decide (s.rt.length<=9223372036854775807))
def EL:Ct
 |[.fp c 0,.agg d],_,n=>(qy c).bind fun r=>(xB d).bind fun s=>some (decide (r.ms.length<=6)&&s.ok,{v:= .b (dX r.ms.length s),n})
 |_,_,_=>none
theorem s91:aq av 91 EL:=fun args h n c E hc ht=>by
 unfold EL at hc;split at hc
 ·simp only [af] at hc;obtain ⟨r,hr,s,hs,he⟩:=hc;cases he;rw [eh hr,q8 _ _ hs];simp only [bu.ok,aw,aV] at ht;exact ax.pure (by kernel_rfl) (by simp only [ae,AV.al,Rm.al,bu.al,az]) rfl (w91 r s ht.1 (dD ht.2.1) ht.2.2.1 ht.2.2.2) _ _
 ·cases hc
def akT:List (Nat×Ct):=[(91,EL)]
theorem ao1:Sound av (bZ akT):=Sound.cons s91 Sound.nil
theorem aq2 (r:Rm) (k:Int) (s:bu) (hn:r.ms.length<=6) (hs:s.ok=true):bt av 147 [.i .i64 k,.agg s.l,.fp [.fp r.a 0] 0] [] 0 (.b (dX r.ms.length s)) [] 0:=by
 have hrb: ∀j,ae j r.a=true:=fun j=>Rm.al j r;have hk: ∀(h:Hp) n,EL [.fp r.a 0,.agg s.l] h n=some (true,{v:= .b (dX r.ms.length s),n}):=fun h n=>by
  simp only [EL,ey,kJ,aS,ah hn,hs,az]
 generalize dX r.ms.length s=R at*;generalize r.a=RA at*;obtain ⟨ow,ss,rt,bl⟩:=s;simp only [bu.l] at*;refine dT ao1 Tryz.func147 LQ ?_
 dsimp only [i147,akT];simp only [go_sem,hk,simprocAttr];exact Ends.au rfl rfl
theorem atr {g:FuncId} {caps:List AV} {p:Nat->bu->Bool} (hg:bJ av g=true) (hcaps:ae 0 caps=true) (l:List bu) (hl:l.length<=9223372036854775807)
 (hF: ∀(k:Nat) (a:bu),l[k]? =some a->bt av g (.i .i64 (k:Int):: .agg a.l::caps) [] 0 (.b (p k a)) [] 0):bt av 146 [.fz (rows bu.l l) l.length,.fn g caps] [] 0 (.b (eZ p l 0)) [] 0:=by
 have hs:=pz (el:=fun a:bu=> .agg a.l) hg (fun a=>bu.al a) hcaps hF;have hat:=fun (k:Nat) (a:bu) (ha:l[k]? =some a) (h:Hp) (n:Nat)=>zY (g:=g) (caps:=caps) (el:=fun a:bu=> .agg a.l) (p:=p) ha h n;generalize Rk g caps (fun a:bu=>AV.agg a.l) p l=kq at hs hat;have hcx:Sound av (bZ [(g,kq)]):=Sound.cons hs Sound.nil;refine dT (cx:=bZ [(g,kq)]) hcx Tryz.func146 Ls ?_
 dsimp only [i146];have hR0:eZ p l 0=eZ p (l.drop 0) 0:=rfl;generalize eZ p l 0=R at hR0 ⊢;have hLb: ∀j,ae j (rows bu.l l)=true:=fun j=>di j l;have hL: ∀(k:Nat) x,l[k]? =some x->List.take 4 (List.drop (k*4) (rows bu.l l))=x.l:=fun k x hk=>eo bu.len hk;generalize rows bu.l l=L at hL hLb ⊢;have hcb: ∀j,ae j caps=true:=fun j=>aD _ hcaps;simp only [go_sem,simprocAttr];refine Loop.fj (F:=⟨av,bZ [(g,kq)],[10,18],20,0⟩) hcx mo l.length (fun k=>R=eZ p (l.drop k) k)
  (fun k=>[(1,.fn g caps),(7,.fz L l.length),(8,.i .i64 (l.length:Int)),(9,.i .i64 (k:Int))])
  (fun k=>[]) 0 (bx 0) hR0 ?_ ?_ (fun k hk ho=> ?_)
 ·simp only [go_sem,AV.al,ae,aG,hLb,hcb,simprocAttr]
 ·simp only [go_sem,simprocAttr]
 by_cases hlt:k<l.length
 ·have c1:decide ((k:Int)<(l.length:Int))=true:=ah (by omega)
  have c2:decide (0<=(k:Int)/\(k:Int)<(l.length:Int))=true:=ah (by omega)
  obtain ⟨x,hx⟩: ∃x,l[k]? =some x:=⟨_,aY hlt⟩;have hr:=hL k x hx;have hw:IntKind.i64.wrap ((k:Int)+1)=((k+1:Nat):Int):=by rw [bS (by omega) (by omega)];omega
  have ha:=hat k x hx;rw [mr hx] at ho;have x9:x.l.length=4:=rfl;have xo:aX x.l=true:=rfl;have xd:List.take 4 (List.drop 0 x.l)=x.l:=rfl;have xb: ∀j,ae j x.l=true:=fun j=>aD _ (bu.al x);generalize x.l=XL at hr ha x9 xo xd xb;cases hp:p k x
  ·rw [hp] at ha ho;simp only [go_sem,c1,c2,hr,ha,x9,xo,xd,xb,simprocAttr];exact Ends.au rfl (by rw [ho];rfl)
  ·rw [hp] at ha ho;simp only [go_sem,c1,c2,hr,ha,x9,xo,xd,xb,hw,hlt,AV.al,ae,aG,hLb,hcb,simprocAttr];rw [ho];rfl
 ·have c1:decide ((k:Int)<(l.length:Int))=false:=cN (by omega)
  obtain rfl:k=l.length:=by omega
  rw [wC] at ho;simp only [go_sem,c1,simprocAttr];exact Ends.au rfl (by rw [ho];rfl)
theorem aqx {g:FuncId} {caps:List AV} {p:Nat->Tp->Bool} (hg:bJ av g=true) (hcaps:ae 0 caps=true) (l:List Tp) (hl:l.length<=9223372036854775807)
 (hF: ∀(k:Nat) (a:Tp),l[k]? =some a->bt av g (.i .i64 (k:Int):: .agg a.l::caps) [] 0 (.b (p k a)) [] 0):bt av 148 [.fz (rows Tp.l l) l.length,.fn g caps] [] 0 (.b (eZ p l 0)) [] 0:=by
 have hs:=pz (el:=fun a:Tp=> .agg a.l) hg (fun a=>Tp.al a) hcaps hF;have hat:=fun (k:Nat) (a:Tp) (ha:l[k]? =some a) (h:Hp) (n:Nat)=>zY (g:=g) (caps:=caps) (el:=fun a:Tp=> .agg a.l) (p:=p) ha h n;generalize Rk g caps (fun a:Tp=>AV.agg a.l) p l=kq at hs hat;have hcx:Sound av (bZ [(g,kq)]):=Sound.cons hs Sound.nil;refine dT (cx:=bZ [(g,kq)]) hcx Tryz.func148 PK ?_
 dsimp only [i148];have hR0:eZ p l 0=eZ p (l.drop 0) 0:=rfl;generalize eZ p l 0=R at hR0 ⊢;have hLb: ∀j,ae j (rows Tp.l l)=true:=fun j=>ff j l;have hL: ∀(k:Nat) x,l[k]? =some x->List.take 22 (List.drop (k*22) (rows Tp.l l))=x.l:=fun k x hk=>eo Tp.len hk;generalize rows Tp.l l=L at hL hLb ⊢;have hcb: ∀j,ae j caps=true:=fun j=>aD _ hcaps;simp only [go_sem,simprocAttr];refine Loop.fj (F:=⟨av,bZ [(g,kq)],[10,18],20,0⟩) hcx mo l.length (fun k=>R=eZ p (l.drop k) k)
  (fun k=>[(1,.fn g caps),(7,.fz L l.length),(8,.i .i64 (l.length:Int)),(9,.i .i64 (k:Int))])
  (fun k=>[]) 0 (bx 0) hR0 ?_ ?_ (fun k hk ho=> ?_)
 ·simp only [go_sem,AV.al,ae,aG,hLb,hcb,simprocAttr]
 ·simp only [go_sem,simprocAttr]
 by_cases hlt:k<l.length
 ·have c1:decide ((k:Int)<(l.length:Int))=true:=ah (by omega)
  have c2:decide (0<=(k:Int)/\(k:Int)<(l.length:Int))=true:=ah (by omega)
  obtain ⟨x,hx⟩: ∃x,l[k]? =some x:=⟨_,aY hlt⟩;have hr:=hL k x hx;have hw:IntKind.i64.wrap ((k:Int)+1)=((k+1:Nat):Int):=by rw [bS (by omega) (by omega)];omega
  have ha:=hat k x hx;rw [mr hx] at ho;have x9:x.l.length=22:=rfl;have xo:aX x.l=true:=rfl;have xd:List.take 22 (List.drop 0 x.l)=x.l:=rfl;have xb: ∀j,ae j x.l=true:=fun j=>aD _ (Tp.al x);generalize x.l=XL at hr ha x9 xo xd xb;cases hp:p k x
  ·rw [hp] at ha ho;simp only [go_sem,c1,c2,hr,ha,x9,xo,xd,xb,simprocAttr];exact Ends.au rfl (by rw [ho];rfl)
  ·rw [hp] at ha ho;simp only [go_sem,c1,c2,hr,ha,x9,xo,xd,xb,hw,hlt,AV.al,ae,aG,hLb,hcb,simprocAttr];rw [ho];rfl
 ·have c1:decide ((k:Int)<(l.length:Int))=false:=cN (by omega)
  obtain rfl:k=l.length:=by omega
  rw [wC] at ho;simp only [go_sem,c1,simprocAttr];exact Ends.au rfl (by rw [ho];rfl)
def Jx:Ct
 |[.fz L m,.fn 147 [.fp [.fp c 0] 0]],_,n=>(bk 4 xB m L).bind fun l=>(qy c).bind fun r=>some (decide (m<=9223372036854775807)&&(decide (r.ms.length<=6)&&l.all bu.ok),{v:= .b (l.all (dX r.ms.length)),n})
 |_,_,_=>none
theorem aq1:aq av 146 Jx:=fun args h n c E hc ht=>by
 unfold Jx at hc;split at hc
 ·simp only [af] at hc;obtain ⟨l,hl,r,hr,he⟩:=hc;cases he;simp only [aw,aV] at ht;obtain ⟨rfl,rfl⟩:=bD q8 hl;rw [eh hr];have:=atr (g:=147) (caps:=[.fp [.fp r.a 0] 0]) (p:=fun _ s=>dX r.ms.length s) (by kernel_rfl) (by simp only [ae,AV.al,Rm.al,az]) l ht.1 (fun k a ha=>aq2 r k a ht.2.1 (er.1 ht.2.2 a (bR ha)))
  rw [Cz] at this;exact ax.pure (by kernel_rfl) (by simp only [ae,AV.al,di,Rm.al,az]) rfl this _ _
 ·cases hc
/-! no number twice -/
def sK (k:Nat):List AV:=List.replicate k (.b true)
theorem rA (j k:Nat):ae j (sK k)=true:=by
 unfold sK;induction k with
 |zero=>rfl
 |succ k ih=>simp only [NI,ae,AV.al,ih,az]
theorem ER (ψ:Nat->Nat) (k:Nat):aL ψ (sK k)=sK k:=aU _ (rA 0 k)
theorem Rl (l:List Int) (q:Int):(cy.i l).find (.i .i64 q)=some (l.findIdx? (q== ·)):=rfl
theorem Qn {l:List Int} {x:Int} (h:l.contains x=false):l.findIdx? (x== ·)=none:=by
 rw [List.findIdx?_eq_none_iff];intro y hy;simp only [List.contains_eq_mem,decide_eq_false_iff_not] at h;simp only [wT];rintro rfl;exact h hy
theorem Q2 {l:List Int} {x:Int} (h:l.contains x=true): ∃i,l.findIdx? (x== ·)=some i/\i<l.length:=by
 cases hf:l.findIdx? (x== ·) with
 |none=>
  rw [List.findIdx?_eq_none_iff] at hf;simp only [List.contains_eq_mem,aV] at h;have:=hf x h;simp at this
 |some i=>
  obtain ⟨hi,_⟩:=List.findIdx?_eq_some_iff_getElem.1 hf;exact ⟨i,rfl,hi⟩
theorem u5 (k:Nat):(sK k).length=k:=by simp [sK]
theorem zF {i k:Nat} (h:i<k):(sK k)[i]? =some (.b true):=by simp [sK,h]
theorem Em {i k:Nat}:(sK k).set i (.b true)=sK k:=by
 apply lH;intro j;rw [yr,u5];by_cases hij:i=j
 ·subst hij;by_cases hi:i<k
  ·rw [aM rfl,aM hi,zF hi]
  ·rw [aM rfl,aN hi];exact (fM (by rw [u5];omega)).symm
 ·rw [aN hij]
abbrev qD (K:List Int):aW:={cells:=sK K.length,mp:=some (.i K)}
def sD (K:List Int) (x:Int):List Int:=bif K.contains x then K else K++[x]
theorem arF (K:List Int) (k x:Int):bt av 160 [.i .i64 k,.i .i64 x,.p 0 0] [(0,{cells:=[.m 1]}),(1,qD K)] 2 (.b (!K.contains x)) [(0,{cells:=[.m 1]}),(1,qD (sD K x))] 2:=by
 have hf:=Rl K x;have hl:=u5 K.length;have hb:=rA;cases hx:K.contains x
 ·rw [Qn hx] at hf;have hs:sK K.length++[.b true]=sK (sD K x).length:=by unfold sK sD;rw [hx,cond_false,dN,nG,List.replicate_succ']
  have hK:K++[x]=sD K x:=by unfold sD;rw [hx];rfl
  have hb2:=hb 2 (sD K x).length;simp only [qD];generalize sK (sD K x).length=C2 at*;generalize sD K x=K2 at*;generalize sK K.length=C at*;refine dT Sound.nil Tryz.func160 EG ?_
  dsimp only [i160];simp only [go_sem,hf,hl,hs,hK,simprocAttr];refine Ends.AQ rfl rfl ?_;exact ⟨rfl,rfl,by decide,rfl,hb2,by decide,trivial⟩
 ·obtain ⟨i,hi,hil⟩:=Q2 hx;rw [hi] at hf;have hg:=zF hil;have hs:=Em (i:=i) (k:=K.length);have hK:sD K x=K:=by unfold sD;rw [hx];rfl
  rw [hK];have hb2:=hb 2 K.length;simp only [qD];generalize sK K.length=C at*;refine dT Sound.nil Tryz.func160 EG ?_
  dsimp only [i160];simp only [go_sem,hf,hl,hg,hs,simprocAttr];refine Ends.AQ rfl rfl ?_;exact ⟨rfl,rfl,by decide,rfl,hb2,by decide,trivial⟩
def Bn:List AV->Nat->Bool
 |[],0=>true
 | .b true::r,n+1=>Bn r n
 |_,_=>false
theorem BM: ∀{l:List AV} {n:Nat},Bn l n=true->l=sK n
 |[],0,_=>rfl
 | .b true::r,n+1,h=>by
  have:=BM (l:=r) (n:=n) h;rw [this];rfl
theorem Fu: ∀n,Bn (sK n) n=true
 |0=>rfl
 |n+1=>Fu n
def xj:aW->Option Nat
 |⟨[.m c],false,none,none,none⟩=>some c
 |_=>none
theorem zM {k:aW} {c:Nat} (h:xj k=some c):k={cells:=[.m c]}:=by
 unfold xj at h;split at h
 ·cases h;rfl
 ·cases h
def CE:aW->Option (List Int)
 |⟨C,false,none,none,some (.i K)⟩=>bif Bn C K.length then some K else none
 |_=>none
theorem Av {k:aW} {K:List Int} (h:CE k=some K):k=qD K:=by
 unfold CE at h;split at h
 ·rename_i C K';cases hb:Bn C K'.length
  ·rw [hb] at h;cases h
  ·rw [hb] at h;cases h;rw [BM hb]
 ·cases h
theorem vz (K:List Int):CE (qD K)=some K:=by simp only [CE,Fu,cond_true]
theorem nbt {a b:Nat} (h:(!(Nat.beq a b))=true):Nat.beq a b=false:=by simpa using h
theorem nbs {a b:Nat} (h:Nat.beq a b=false):Nat.beq b a=false:=by
 cases hc:Nat.beq b a
 ·rfl
 ·rw [dC hc,Nat.beq_refl] at h;cases h
theorem NA (ψ:Nat->Nat) (K:List Int):(qD K).aH ψ=qD K:=by simp only [aW.aH,ER]
def DE:Ct
 |[.i .i64 k,.i .i64 x,.p a 0],h,n=>(ab h a).bind fun ka=>(xj ka).bind fun c=>(ab h c).bind fun kc=>(CE kc).bind fun K=>
  some (!(Nat.beq a c),{v:= .b (!K.contains x),n,rd:=[a,c],md:=[(a,some {cells:=[.m c]}),(c,some (qD (sD K x)))]})
 |_,_,_=>none
theorem aqL:aq av 160 DE:=fun args h n c E hc ht=>by
 unfold DE at hc;split at hc
 ·rename_i k x a;simp only [af] at hc;obtain ⟨ka,hka,c,hcc,kc,hkc,K,hK,he⟩:=hc;cases he;rw [zM hcc] at hka;rw [Av hK] at hkc;have hac:=nbt ht;have hb:=rA;refine (ax.canon (n:=n) (pn:=none) [a,c] [{cells:=[.m 1]},qD K] (by kernel_rfl) (by simp [nodup,inl,hac,nbs hac]) rfl (argsL:=[.i .i64 k,.i .i64 x,.p 0 0]) ⟨⟨?_,rfl⟩,⟨?_,hb 2 _⟩,trivial⟩ (arF K k x) (bx 2) ?_).cast rfl ?_
  ·rw [hka];rfl
  ·rw [hkc];simp only [aW.aH,ER]
  ·simp only [ko,hb,ae,AV.al,ie];rfl
  ·show ({v:= .b (!K.contains x),n:=n,rd:=[a,c],md:=[(a,some {cells:=[.m c]}),(c,some ((qD (sD K x)).aH (ix [a,c] n)))],nw:=[],pn:=none}:bX)=_;rw [NA]
 ·cases hc
def fV (l:List Int):Bool:=eZ (fun k x=> !(l.take k).contains x) l 0
theorem ahM (l:List Int) (hl:l.length<=9223372036854775807):bt av 157 [.sg 0 0 l.length,.fn 160 [.p 1 0]] [(0,{cells:=rows aC l,gr:=some 1}),(1,{cells:=[.m 2]}),(2,qD [])] 3 (.b (fV l)) [(0,{cells:=rows aC l,gr:=some 1})] 3:=by
 have hcx:Sound av (bZ [(160,DE)]):=Sound.cons aqL Sound.nil;refine dT (cx:=bZ [(160,DE)]) hcx Tryz.func157 yT ?_
 dsimp only [i157];have hR0:fV l=eZ (fun k x=> !(l.take k).contains x) (l.drop 0) 0:=rfl;generalize fV l=R at hR0 ⊢;have hLb: ∀j,ae j (rows aC l)=true:=fun j=>iB j l;have hL: ∀(k:Nat) x,l[k]? =some x->(rows aC l)[k]? =some (.i .i64 x):=fun k x hk=>by
  have:=cn (f:=aC) (z:=1) (j:=0) (v:= .i .i64 x) bP hk rfl;simpa using this
 have zR:(rows aC l).length=l.length:=by have:=aT (l:=l) bP;simpa using this
 generalize rows aC l=L at hL hLb zR ⊢;have hb:=rA;simp only [go_sem,simprocAttr];refine Loop.fj (F:=⟨av,bZ [(160,DE)],[10,18],20,3⟩) hcx mo l.length (fun k=>R=eZ (fun k x=> !(l.take k).contains x) (l.drop k) k)
  (fun k=>[(1,.fn 160 [.p 1 0]),(7,.sg 0 0 l.length),(8,.i .i64 (l.length:Int)),(9,.i .i64 (k:Int))])
  (fun k=>[(2,qD (l.take k)),(1,{cells:=[.m 2]}),(0,{cells:=L,gr:=some 1})]) 3 (bx 3) hR0 ?_ ?_ (fun k hk ho=> ?_)
 ·simp only [go_sem,AV.al,ae,aG,simprocAttr]
 ·simp only [go_sem,AV.al,ae,aG,hLb,hb,s8,simprocAttr]
 by_cases hlt:k<l.length
 ·have c1:decide ((k:Int)<(l.length:Int))=true:=ah (by omega)
  have c2:decide (0<=(k:Int)/\(k:Int)<(l.length:Int))=true:=ah (by omega)
  obtain ⟨x,hx⟩: ∃x,l[k]? =some x:=⟨_,aY hlt⟩;have hr:=hL k x hx;have hw:IntKind.i64.wrap ((k:Int)+1)=((k+1:Nat):Int):=by rw [bS (by omega) (by omega)];omega
  have htk:l.take (k+1)=l.take k++[x]:=by rw [jz,hx];rfl
  rw [htk];rw [mr hx] at ho;have hnx:sD (l.take k) x=bif (l.take k).contains x then l.take k else l.take k++[x]:=rfl
  have hmt:=vz (l.take k);have ha: ∀(h:Hp) n,ab h 1=some {cells:=[.m 2]}->ab h 2=some (qD (l.take k))->DE [.i .i64 (k:Int),.i .i64 x,.p 1 0] h n=some (true,{v:= .b (!(l.take k).contains x),n,rd:=[1,2],md:=[(1,some {cells:=[.m 2]}),(2,some (qD (sD (l.take k) x)))]}):=fun h n h1 h2=>by
   simp only [DE,h1,aS,xj,h2,hmt];rfl
  generalize l.take k=K at*;generalize sD K x=K2 at*;cases hp:K.contains x
  ·rw [hp] at ha ho hnx;simp only [cond_false] at hnx;subst hnx;simp only [qD] at*;have hb2:=fun j=>hb j (K++[x]).length;generalize sK (K++[x]).length=C2 at*;simp only [go_sem,c1,c2,hr,ha,hw,hlt,zR,AV.al,ae,aG,hLb,hb,hb2,dK,simprocAttr];rw [ho];rfl
  ·rw [hp] at ha ho hnx;simp only [cond_true] at hnx;subst hnx;simp only [qD] at*;simp only [go_sem,c1,c2,hr,ha,hw,hlt,zR,AV.al,ae,aG,hLb,hb,dK,simprocAttr];refine Ends.AQ rfl (by rw [ho];rfl) ?_
   exact ⟨rfl,hLb 3,by decide,trivial⟩
 ·have c1:decide ((k:Int)<(l.length:Int))=false:=cN (by omega)
  obtain rfl:k=l.length:=by omega
  rw [wC] at ho;simp only [go_sem,c1,simprocAttr];refine Ends.AQ rfl (by rw [ho];rfl) ?_
  exact ⟨rfl,hLb 3,by decide,trivial⟩
theorem ah0:bt av 157 [.ns,.fn 160 [.p 0 0]] [(0,{cells:=[.m 1]}),(1,qD [])] 2 (.b true) [] 2:=by
 refine dT (cx:=bZ []) Sound.nil Tryz.func157 yT ?_
 dsimp only [i157];simp only [go_sem,simprocAttr];refine Loop.rounds (F:=⟨av,bZ [],[10,18],20,2⟩) 1 Sound.nil mo ?_;simp only [go_sem,simprocAttr];exact Ends.AQ rfl rfl trivial
def JQ:aW->Option (List AV)
 |⟨L,false,some 1,none,none⟩=>some L
 |_=>none
theorem N6 {k:aW} {L:List AV} (h:JQ k=some L):k={cells:=L,gr:=some 1}:=by
 unfold JQ at h;split at h
 ·cases h;rfl
 ·cases h
def nN:Ct
 |[.sg b 0 m,.fn 160 [.p a 0]],h,n=>(ab h b).bind fun kb=>(JQ kb).bind fun L=>(bk 1 dJ m L).bind fun l=>(ab h a).bind fun ka=>(xj ka).bind fun c=>(ab h c).bind fun kc=>(CE kc).bind fun K=>
  some (decide (K=[])&&decide (m<=9223372036854775807)&&(!(Nat.beq b a)&&(!(Nat.beq b c)&& !(Nat.beq a c))),{v:= .b (fV l),n,rd:=[b,a,c],md:=[(b,some {cells:=L,gr:=some 1}),(a,none),(c,none)]})
 |[.ns,.fn 160 [.p a 0]],h,n=>(ab h a).bind fun ka=>(xj ka).bind fun c=>(ab h c).bind fun kc=>(CE kc).bind fun K=>
  some (decide (K=[])&& !(Nat.beq a c),{v:= .b true,n,rd:=[a,c],md:=[(a,none),(c,none)]})
 |_,_,_=>none
theorem ag8:aq av 157 nN:=fun args h n c E hc ht=>by
 unfold nN at hc;split at hc
 ·rename_i b m a;simp only [af] at hc;obtain ⟨kb,hkb,L,hL,l,hl,ka,hka,c,hcc,kc,hkc,K,hK,he⟩:=hc;cases he;simp only [aw,aV] at ht;obtain ⟨⟨hK0,hm⟩,d1,d2,d3⟩:=ht;obtain ⟨rfl,rfl⟩:=bD dx hl;subst hK0;rw [N6 hL] at hkb;rw [zM hcc] at hka;rw [Av hK] at hkc;have e1:=nbt d1;have e2:=nbt d2;have e3:=nbt d3;refine (ax.canon (n:=n) (pn:=none) [b,a,c] [{cells:=rows aC l,gr:=some 1},{cells:=[.m 2]},qD []] (by kernel_rfl) (by simp [nodup,inl,e1,e2,e3,nbs e1,nbs e2,nbs e3]) rfl (argsL:=[.sg 0 0 l.length,.fn 160 [.p 1 0]]) ⟨⟨?_,iB _ l⟩,⟨?_,rfl⟩,⟨?_,rfl⟩,trivial⟩ (ahM l hm) (bx 3) ?_).cast rfl ?_
  ·rw [hkb];simp only [aW.aH,iR]
  ·rw [hka];rfl
  ·rw [hkc];rfl
  ·simp only [ko,iB,ie];rfl
  ·show ({v:= .b (fV l),n:=n,rd:=[b,a,c],md:=[(b,some {cells:=aL (ix [b,a,c] n) (rows aC l),gr:=some 1}),(a,none),(c,none)],nw:=[],pn:=none}:bX)=_;rw [iR]
 ·rename_i a;simp only [af] at hc;obtain ⟨ka,hka,c,hcc,kc,hkc,K,hK,he⟩:=hc;cases he;simp only [aw,aV] at ht;obtain ⟨hK0,d3⟩:=ht;subst hK0;rw [zM hcc] at hka;rw [Av hK] at hkc;have e3:=nbt d3;refine (ax.canon (n:=n) (pn:=none) [a,c] [{cells:=[.m 1]},qD []] (by kernel_rfl) (by simp [nodup,inl,e3,nbs e3]) rfl (argsL:=[.ns,.fn 160 [.p 0 0]]) ⟨⟨?_,rfl⟩,⟨?_,rfl⟩,trivial⟩ ah0 (bx 2) rfl).cast rfl rfl
  ·rw [hka];rfl
  ·rw [hkc];rfl
 ·cases hc
/-! Clone, with a live result -/
theorem aq8:bt av 90 [.ns] [] 0 .ns [] 0:=by
 refine dT (cx:=bZ []) Sound.nil Tryz.func90 we ?_
 dsimp only [i90];simp only [go_sem,simprocAttr];exact Ends.au rfl rfl
theorem ap8 (x:Int) (l:List Int) (hl:l.length<=1000):bt av 90 [.fz (rows aC (x::l)) (l.length+1)] [] 0 (.sg 0 0 (l.length+1)) [(0,{cells:=rows aC (x::l),gr:=some 1})] 1:=
 Qq mo Tryz.func90 (z:=1) (bytes:=8) (zs:=[.i .i64 0]) we (aT (l:=x::l) bP) (fF (fun _=>rfl) _) (iB 0 _) (by simp only [aE];omega)
def GU:Ct
 |[.ns],_,n=>some (true,{v:= .ns,n})
 |[.fz L m],_,n=>(bk 1 dJ m L).bind fun l=>some (decide (0<m)&&decide (m<=1000),{v:= .sg n 0 m,n:=n+1,nw:=[(n,{cells:=L,gr:=some 1})]})
 |_,_,_=>none
theorem aql:aq av 90 GU:=fun args h n c E hc ht=>by
 unfold GU at hc;split at hc
 ·cases hc;exact ax.pure (by kernel_rfl) rfl rfl aq8 _ _
 ·simp only [af] at hc;obtain ⟨l,hl,he⟩:=hc;cases he;simp only [aw,aV] at ht;obtain ⟨rfl,rfl⟩:=bD dx hl;cases l with
  |nil=>exact absurd ht.1 (by decide)
  |cons x l=>
   have hl:=ht.2;simp only [List.length_cons] at hl;refine (ax.canon (n:=n) (pn:=none) [] [] (by kernel_rfl) rfl (argsL:=[.fz (rows aC (x::l)) (x::l).length]) (by simp only [ae,AV.al,iB,az]) trivial (ap8 x l (by omega)) (eB _) (by simp only [ko,iB,ie];rfl)).cast ?_ ?_
   ·simp only [aL,AV.aH,iR]
   ·show ({v:= .sg (ix [] n 0) 0 (x::l).length,n:=n+1,rd:=[],md:=[],nw:=[(ix [] n 0,{cells:=aL (ix [] n) (rows aC (x::l)),gr:=some 1})],pn:=none}:bX)=_;rw [iR];rfl
 ·cases hc
/-! apart -/
def gV (l:List Int) (sh:List bu) (k:Nat):List Int:=l++((sh.take k).map bu.ss).flatten
theorem I9 (l:List Int) (sh:List bu):gV l sh 0=l:=by simp [gV]
theorem IX {l:List Int} {sh:List bu} {k:Nat} {x:bu} (h:sh[k]? =some x):gV l sh (k+1)=gV l sh k++x.ss:=by
 unfold gV;rw [jz,h];simp [fG]
def Ap (s:bu):Bool:=da 1 3 (s.ss.length:Int)
theorem vu {l:List Int} {sh:List bu} (hs:sh.all Ap=true): ∀k,k<=sh.length->(gV l sh k).length<=l.length+3*k
 |0,_=>by rw [I9];omega
 |k+1,hk=>by
  obtain ⟨x,hx⟩: ∃x,sh[k]? =some x:=⟨_,aY (by omega)⟩
  rw [IX hx,dN];have:=vu (l:=l) hs k (by omega)
  have h2:=dD (er.1 hs x (bR hx));omega
theorem gip (q:List Int):(gQ aC 1 q).plain=true:=(tE (f:=aC) gN bP q).pl
def arL (l:List Int):AV:=if l.length=0 then .ns else .fz (rows aC l) l.length
theorem Yy (sh:List bu) (l:List Int) (hl:l.length<=3) (hn:sh.length<=6) (hs:sh.all Ap=true) {K:cF} {e:Env} {h:Hp} {n:Nat}
 (he:na 3 [] e [(1,(gQ aC 1 l).v 2),(5,.p 1 0),(15,.fz (rows bu.l sh) sh.length),(16,.i .i64 (sh.length:Int)),(17,.i .i64 0)])
 (hh:iy 3 [] h ((gQ aC 1 l).h 2++[(1,{cells:=[.m 0]}),(0,qD [])]))
 (hK: ∀e',cV e' 1=some ((gQ aC 1 (gV l sh sh.length)).v 2)->cV e' 5=some (.p 1 0)->K (.exit 0) e' ((gQ aC 1 (gV l sh sh.length)).h 2++[(1,{cells:=[.m 0]}),(0,qD [])]) 3):
 Ab.Loop av [18] 29 0 Hz K e h n:=by
 have hcl:=vu (l:=l) hs;have hsB: ∀j,ae j (rows bu.l sh)=true:=fun j=>di j sh;have hsR: ∀g,aL g (rows bu.l sh)=rows bu.l sh:=fun g=>ef g sh;have hSat: ∀(k:Nat) x,sh[k]? =some x->List.take 4 (List.drop (k*4) (rows bu.l sh))=x.l:=fun k x hk=>eo bu.len hk;rw [<-I9 l sh] at he hh;refine Loop.uE (F:=⟨av,bZ [],[18],29,0⟩) Sound.nil mo (X:=Nat) (fun k=>k<=sh.length) (fun k=>sh.length-k)
  (fun k=>[(1,(gQ aC 1 (gV l sh k)).v 2),(5,.p 1 0),(15,.fz (rows bu.l sh) sh.length),(16,.i .i64 (sh.length:Int)),(17,.i .i64 (k:Int))])
  (fun k=>(gQ aC 1 (gV l sh k)).h 2++[(1,{cells:=[.m 0]}),(0,qD [])]) 3 0 (fun k=>k+1) [] (fun _=>[(2,4)]) (by decide) (by decide) (fun k=>by decide) (eB _) he hh (fun k hk=> ?_)
 dsimp only [Hz];by_cases hlt:k<sh.length
 ·have c1:decide ((k:Int)<(sh.length:Int))=true:=ah (by omega)
  have c2:decide (0<=(k:Int)/\(k:Int)<(sh.length:Int))=true:=ah (by omega)
  have hw:IntKind.i64.wrap ((k:Int)+1)=((k+1:Nat):Int):=by rw [bS (by omega) (by omega)];omega
  obtain ⟨x,hx⟩: ∃x,sh[k]? =some x:=⟨_,aY hlt⟩;have hr:=hSat k x hx;have hxs:=dD (er.1 hs x (bR hx));rw [IX hx];have hql:=hcl k hk;generalize gV l sh k=q at*;obtain ⟨ow,ss,rt,bl⟩:=x;dsimp only at hxs ⊢;simp only [bu.l] at hr;have hpos:0<ss.length:=by omega
  have c0:decide (ss.length=0)=false:=cN (by omega)
  have gm:decide (8*(q.length+ss.length)<=aE)=true:=ah (by simp only [aE];omega)
  have zR:(rows aC q).length=q.length*1:=aT bP;have ho:aX (rows aC ss)=true:=fF (fun _=>rfl) ss;have zs:(rows aC ss).length=ss.length*1:=aT bP;have ct:List.take (ss.length*1) (List.drop 0 (rows aC ss))=rows aC ss:=by rw [fy,<-zs,fU]
  have pk:=gip q;have pk':=gip (q++ss);rw [YL hpos] at pk' ⊢;have hsk:sh.length-(k+1)<sh.length-k:=by omega
  simp only [go_sem,c1,c2,hr,hw,ct,zs,c0,gm,zR,ho,pk,pk',hsk,hlt,Ou,AV.al,ae,aG,aW.aH,aL,AV.aH,hsB,hsR,iB,iR,fu,simprocAttr];exact ⟨hlt,rfl,rfl⟩
 ·have c1:decide ((k:Int)<(sh.length:Int))=false:=cN (by omega)
  obtain rfl:k=sh.length:=by omega
  simp only [go_sem,c1,simprocAttr];exact hK _ rfl rfl
def T92:List (Nat×Ct):=[(90,GU),(157,nN)]
theorem arJ:Sound av (bZ T92):=Sound.cons aql (Sound.cons ag8 Sound.nil)
theorem w92 (r:Rm) (l:List Int) (hl:l.length<=3) (hn:r.sh.length<=6) (hs:r.sh.all Ap=true):bt av 92 [.fp r.a 0,arL l] [] 0 (.b (fV (gV l r.sh r.sh.length))) [] 0:=by
 obtain ⟨ms,sh,tp⟩:=r;dsimp only at hn hs ⊢;have hcl:=vu (l:=l) hs;have hsB: ∀j,ae j (rows bu.l sh)=true:=fun j=>di j sh;have hsR: ∀g,aL g (rows bu.l sh)=rows bu.l sh:=fun g=>ef g sh;have hfin:= @Yy sh l hl hn hs;have hcl6:=hcl sh.length (bx _);generalize gV l sh sh.length=Q at*;refine dT (cx:=bZ T92) arJ Tryz.func92 RY ?_
 dsimp only [i92,T92];simp only [Rm.a];by_cases h0:l.length=0
 ·have:l=[]:=jG h0;subst this;have ea:arL []= .ns:=rfl;rw [ea];simp only [go_sem,GU,simprocAttr];refine hfin ?_ ?_ (fun e' he1 he5=> ?_)
  ·simp only [go_sem,tA,akw,AV.al,ae,aG,AV.aH,aL,hsB,hsR,simprocAttr]
  ·simp only [go_sem,tA,aj1,AV.al,ae,aG,aW.aH,AV.aH,aL,simprocAttr];exact ⟨rfl,rfl⟩
  ·by_cases hq0:Q.length=0
   ·have:Q=[]:=jG hq0;subst this;have hk: ∀(h:Hp) n,ab h 1=some {cells:=[.m 0]}->ab h 0=some (qD [])->nN [.ns,.fn 160 [.p 1 0]] h n=some (true,{v:= .b true,n,rd:=[1,0],md:=[(1,none),(0,none)]}):=fun h n h1 h2=>by
     simp only [nN,h1,aS,xj,h2,vz];rfl
    have e1:(gQ aC 1 []).v 2= .ns:=rfl;have e2:(gQ aC 1 []).h 2=[]:=rfl;rw [e1] at he1;rw [e2];simp only [go_sem,he1,he5,hk,List.nil_append,simprocAttr];exact Ends.au rfl rfl
   ·have e1:(gQ aC 1 Q).v 2= .sg 2 0 Q.length:=by rw [tx (by omega)];rfl
    have e2:(gQ aC 1 Q).h 2=[(2,{cells:=rows aC Q,gr:=some 1})]:=by rw [tx (by omega)];rfl
    rw [e1] at he1;rw [e2];have hk: ∀(h:Hp) n,ab h 2=some {cells:=rows aC Q,gr:=some 1}->ab h 1=some {cells:=[.m 0]}->ab h 0=some (qD [])->nN [.sg 2 0 Q.length,.fn 160 [.p 1 0]] h n=some (true,{v:= .b (fV Q),n,rd:=[2,1,0],md:=[(2,some {cells:=rows aC Q,gr:=some 1}),(1,none),(0,none)]}):=fun h n h0 h1 h2=>by
     simp only [nN,h0,JQ,eE,h1,aS,xj,h2,vz,ah (show Q.length<=9223372036854775807 by omega)];rfl
    simp only [go_sem,he1,he5,hk,ee,List.nil_append,simprocAttr];exact Ends.au rfl rfl
 ·have ea:arL l= .fz (rows aC l) l.length:=aN h0;rw [ea];have e1:(gQ aC 1 l).v 2= .sg 2 0 l.length:=by rw [tx (by omega)];rfl
  have e2:(gQ aC 1 l).h 2=[(2,{cells:=rows aC l,gr:=some 1})]:=by rw [tx (by omega)];rfl
  rw [e1,e2] at hfin;have hkl: ∀(h:Hp) n,GU [.fz (rows aC l) l.length] h n=some (true,{v:= .sg n 0 l.length,n:=n+1,nw:=[(n,{cells:=rows aC l,gr:=some 1})]}):=fun h n=>by
   simp only [GU,eE,aS,ah (show 0<l.length by omega),ah (show l.length<=1000 by omega),az]
  clear e1 e2;simp only [go_sem,hkl,simprocAttr];refine hfin ?_ ?_ (fun e' he1 he5=> ?_)
  ·simp only [go_sem,AV.al,ae,aG,AV.aH,aL,hsB,hsR,simprocAttr]
  ·simp only [go_sem,AV.al,ae,aG,aW.aH,AV.aH,aL,iB,iR,ee,List.nil_append,simprocAttr];exact ⟨rfl,rfl⟩
  ·by_cases hq0:Q.length=0
   ·have:Q=[]:=jG hq0;subst this;have hk: ∀(h:Hp) n,ab h 1=some {cells:=[.m 0]}->ab h 0=some (qD [])->nN [.ns,.fn 160 [.p 1 0]] h n=some (true,{v:= .b true,n,rd:=[1,0],md:=[(1,none),(0,none)]}):=fun h n h1 h2=>by
     simp only [nN,h1,aS,xj,h2,vz];rfl
    have e1:(gQ aC 1 []).v 2= .ns:=rfl;have e2:(gQ aC 1 []).h 2=[]:=rfl;rw [e1] at he1;rw [e2];simp only [go_sem,he1,he5,hk,List.nil_append,simprocAttr];exact Ends.au rfl rfl
   ·have e1:(gQ aC 1 Q).v 2= .sg 2 0 Q.length:=by rw [tx (by omega)];rfl
    have e2:(gQ aC 1 Q).h 2=[(2,{cells:=rows aC Q,gr:=some 1})]:=by rw [tx (by omega)];rfl
    rw [e1] at he1;rw [e2];have hk: ∀(h:Hp) n,ab h 2=some {cells:=rows aC Q,gr:=some 1}->ab h 1=some {cells:=[.m 0]}->ab h 0=some (qD [])->nN [.sg 2 0 Q.length,.fn 160 [.p 1 0]] h n=some (true,{v:= .b (fV Q),n,rd:=[2,1,0],md:=[(2,some {cells:=rows aC Q,gr:=some 1}),(1,none),(0,none)]}):=fun h n h0 h1 h2=>by
     simp only [nN,h0,JQ,eE,h1,aS,xj,h2,vz,ah (show Q.length<=9223372036854775807 by omega)];rfl
    simp only [go_sem,he1,he5,hk,ee,List.nil_append,simprocAttr];exact Ends.au rfl rfl
def EV:Ct
 |[.fp c 0,.ns],_,n=>(qy c).bind fun r=>some (decide (r.sh.length<=6)&&r.sh.all Ap,{v:= .b (fV (gV [] r.sh r.sh.length)),n})
 |[.fp c 0,.fz L m],_,n=>(qy c).bind fun r=>(bk 1 dJ m L).bind fun l=>some (decide (r.sh.length<=6)&&r.sh.all Ap&&da 1 3 (l.length:Int),{v:= .b (fV (gV l r.sh r.sh.length)),n})
 |_,_,_=>none
theorem s92:aq av 92 EV:=fun args h n c E hc ht=>by
 unfold EV at hc;split at hc
 ·simp only [af] at hc;obtain ⟨r,hr,he⟩:=hc;cases he;rw [eh hr];simp only [aw,aV] at ht;exact ax.pure (by kernel_rfl) (by simp only [ae,AV.al,Rm.al,az];rfl) rfl (w92 r [] (by decide) ht.1 ht.2) _ _
 ·simp only [af] at hc;obtain ⟨r,hr,l,hl,he⟩:=hc;cases he;rw [eh hr];simp only [aw,aV] at ht;have h3:=dD ht.2;obtain ⟨rfl,rfl⟩:=bD dx hl;have:=w92 r l (by omega) ht.1.1 ht.1.2
  rw [show arL l= .fz (rows aC l) l.length from aN (by omega)] at this
  exact ax.pure (by kernel_rfl) (by simp only [ae,AV.al,Rm.al,iB,az]) rfl this _ _
 ·cases hc
def gg (r:Rm):Bool:=decide (r.sh.length<=6)&&(r.sh.all (dX r.ms.length)&&fV (gV [] r.sh r.sh.length))
theorem Gh {n:Nat} {s:bu} (h:dX n s=true):Ap s=true:=by
 simp only [dX,aw] at h;exact h.2.1
def T81:List (Nat×Ct):=[(92,EV),(146,bj Jx)]
theorem atL:Sound av (bZ T81):=Sound.cons s92 (Sound.cons aq1.nv Sound.nil)
theorem w81 (r:Rm) (hn:r.ms.length<=6) (hl:r.sh.length<=9223372036854775807) (ho:r.sh.all bu.ok=true):bt av 81 [.fp r.a 0] [] 0 (.b (gg r)) [] 0:=by
 have hrb: ∀j,ae j r.a=true:=fun j=>Rm.al j r;have hk: ∀(h:Hp) n b,ab h b=some {cells:=[.fp r.a 0]}->bj Jx [.fz (rows bu.l r.sh) r.sh.length,.fn 147 [.p b 0]] h n=some (true,{v:= .b (r.sh.all (dX r.ms.length)),n,rd:=[b]}):=fun h n b hb=>by
  simp only [bj,bn,bQ,jf,iL,ny (hrb 0),dz (di 0 r.sh),hb,aS,dV,Jx,IV,ey,ah hl,ah hn,ho,az];rfl
 have hk2:r.sh.length<=6->r.sh.all (dX r.ms.length)=true-> ∀(h:Hp) n,EV [.fp r.a 0,.ns] h n=some (true,{v:= .b (fV (gV [] r.sh r.sh.length)),n}):=fun h6 hs h n=>by
  have:r.sh.all Ap=true:=er.2 (fun x hx=>Gh (er.1 hs x hx));simp only [EV,ey,aS,ah h6,this,az]
 have hR:gg r=(decide (r.sh.length<=6)&&(r.sh.all (dX r.ms.length)&&fV (gV [] r.sh r.sh.length))):=rfl;generalize gg r=R at hR ⊢;generalize fV (gV [] r.sh r.sh.length)=B at*;generalize r.sh.all (dX r.ms.length)=A at*;obtain ⟨ms,sh,tp⟩:=r;simp only [Rm.a] at*;have n1:decide ((sh.length:Int)<=6)=decide (sh.length<=6):=by rw [iG];simp;omega
 refine dT atL Tryz.func81 adM ?_
 dsimp only [i81,T81];cases c1:decide (sh.length<=6)
 ·rw [c1] at hR;simp only [go_sem,n1,c1,simprocAttr];exact Ends.au rfl (by rw [hR];rfl)
 cases A
 ·rw [c1] at hR;simp only [go_sem,n1,c1,hk,simprocAttr];exact Ends.au rfl (by rw [hR];rfl)
 ·rw [c1] at hR;have hk2:=hk2 (bO c1) rfl;simp only [go_sem,n1,c1,hk,hk2,simprocAttr];exact Ends.au rfl (by rw [hR];rfl)
def k81:Ct
 |[.fp c 0],_,n=>(qy c).bind fun r=>some (decide (r.ms.length<=6)&&(decide (r.sh.length<=9223372036854775807)&&r.sh.all bu.ok),{v:= .b (gg r),n})
 |_,_,_=>none
theorem s81:aq av 81 k81:=fun args h n c E hc ht=>by
 unfold k81 at hc;split at hc
 ·simp only [af] at hc;obtain ⟨r,hr,he⟩:=hc;cases he;rw [eh hr];simp only [aw,aV] at ht;exact ax.pure (by kernel_rfl) (by simp only [ae,AV.al,Rm.al,az]) rfl (w81 r ht.1 ht.2.1 ht.2.2) _ _
 ·cases hc
def lW (r:Rm) (t:Tp):Bool:=
 da 0 ((r.ms.length:Int)-1) t.me&&(da 0 ((r.sh.length:Int)-1) t.sh&&match r.sh[t.sh.toNat]? with
  |some s=> !pF s t.me&&(da 1 10 t.wt&&(da 0 ((s.ss.length:Int)-1) t.mo&&(dL t.sw&&(decide (t.sw.l=s.ss)&&decide (t.sw.wa<=t.mo)))))
  |none=>false)
/-! slices.Equal -/
theorem zL {l:List Int} {k:Nat} {x:Int} (h:l[k]? =some x):(rows aC l)[k]? =some (.i .i64 x):=by
 have:=cn (f:=aC) (z:=1) (j:=0) (v:= .i .i64 x) bP h rfl;simpa using this
theorem arf (a b:List Int) (ha:a.length<=9223372036854775807):bt av 198 [.fz (rows aC a) a.length,.fz (rows aC b) b.length] [] 0 (.b (decide (a=b))) [] 0:=by
 refine dT (cx:=bZ []) Sound.nil Tryz.func198 MW ?_
 dsimp only [i198];have hA: ∀(k:Nat) x,a[k]? =some x->(rows aC a)[k]? =some (.i .i64 x):=fun k x hk=>zL hk;have hB: ∀(k:Nat) x,b[k]? =some x->(rows aC b)[k]? =some (.i .i64 x):=fun k x hk=>zL hk;have bA: ∀j,ae j (rows aC a)=true:=fun j=>iB j a;have bB: ∀j,ae j (rows aC b)=true:=fun j=>iB j b;generalize rows aC a=A at hA bA ⊢;generalize rows aC b=B at hB bB ⊢;cases c0:((a.length:Int) !=(b.length:Int));rotate_left
 ·have hne:a≠b:=fun e=>by subst e;simp at c0
  rw [cN hne];simp only [go_sem,c0,simprocAttr];exact Ends.au rfl rfl
 have hlen:a.length=b.length:=by have:((a.length:Int)=(b.length:Int)):=by simpa using c0
                                 omega
 simp only [go_sem,c0,simprocAttr];refine Loop.fj (F:=⟨av,bZ [],[10,14,24],26,0⟩) Sound.nil mo a.length (fun k=>a.take k=b.take k)
  (fun k=>[(0,.fz A a.length),(1,.fz B b.length),(12,.i .i64 (a.length:Int)),(13,.i .i64 (k:Int))])
  (fun k=>[]) 0 (bx 0) rfl ?_ ?_ (fun k hk ho=> ?_)
 ·simp only [go_sem,AV.al,ae,aG,bA,bB,simprocAttr]
 ·simp only [go_sem,simprocAttr]
 by_cases hlt:k<a.length
 ·have c1:decide ((k:Int)<(a.length:Int))=true:=ah (by omega)
  have c2:decide (0<=(k:Int)/\(k:Int)<(a.length:Int))=true:=ah (by omega)
  have c3:decide (0<=(k:Int)/\(k:Int)<(b.length:Int))=true:=ah (by omega)
  obtain ⟨x,hx⟩: ∃x,a[k]? =some x:=⟨_,aY hlt⟩;obtain ⟨y,hy⟩: ∃y,b[k]? =some y:=⟨_,aY (by omega)⟩
  have r1:=hA k x hx;have r2:=hB k y hy;have hw:IntKind.i64.wrap ((k:Int)+1)=((k+1:Nat):Int):=by rw [bS (by omega) (by omega)];omega
  cases c4:(x !=y)
  ·have hxy:x=y:=by simpa using c4
   simp only [go_sem,c1,c2,c3,r1,r2,c4,hw,hlt,AV.al,ae,aG,bA,bB,dK,simprocAttr];rw [jz,jz,ho,hx,hy,hxy]
  ·have hne:a≠b:=fun e=>by
    subst e;rw [hx] at hy;cases hy;simp at c4
   rw [cN hne];simp only [go_sem,c1,c2,c3,r1,r2,c4,dK,simprocAttr];exact Ends.au rfl rfl
 ·have c1:decide ((k:Int)<(a.length:Int))=false:=cN (by omega)
  obtain rfl:k=a.length:=by omega
  have he:a=b:=by
   rw [fU,hlen,fU] at ho;exact ho
  rw [ah he];simp only [go_sem,c1,simprocAttr];exact Ends.au rfl rfl
def H8:Ct
 |[.fz A a,.fz B b],_,n=>(bk 1 dJ a A).bind fun p=>(bk 1 dJ b B).bind fun q=>some (decide (a<=9223372036854775807),{v:= .b (decide (p=q)),n})
 |_,_,_=>none
theorem auU:aq av 198 H8:=fun args h n c E hc ht=>by
 unfold H8 at hc;split at hc
 ·simp only [af] at hc;obtain ⟨p,hp,q,hq,he⟩:=hc;cases he;obtain ⟨rfl,rfl⟩:=bD dx hp;obtain ⟨rfl,rfl⟩:=bD dx hq;exact ax.pure (by kernel_rfl) (by simp only [ae,AV.al,iB,az]) rfl (arf p q (bO ht)) _ _
 ·cases hc
def Rm.ok (r:Rm):Bool:=decide (r.ms.length<=6)&&(decide (r.sh.length<=9223372036854775807)&&(r.sh.all bu.ok&&(decide (r.tp.length<=9223372036854775807)&&r.tp.all fun t=>decide (t.sw.l.length<=9223372036854775807))))
def amY:List (Nat×Ct):=[(69,Bz),(71,iF),(121,ki),(198,H8)]
theorem aiS:Sound av (bZ amY):=Sound.cons s69 (Sound.cons DO (Sound.cons IW (Sound.cons auU Sound.nil)))
theorem aqe (r:Rm) (t:Tp) (hr:r.ok=true) (ht:t.sw.l.length<=9223372036854775807):bt av 150 [.fp r.a 0,.agg t.l] [] 0 (.b (lW r t)) [] 0:=by
 simp only [Rm.ok,aw,aV] at hr;obtain ⟨h6,hsl,hso,htl,-⟩:=hr;have hR:lW r t=(da 0 ((r.ms.length:Int)-1) t.me&&(da 0 ((r.sh.length:Int)-1) t.sh&&match r.sh[t.sh.toNat]? with
  |some s=> !pF s t.me&&(da 1 10 t.wt&&(da 0 ((s.ss.length:Int)-1) t.mo&&(dL t.sw&&(decide (t.sw.l=s.ss)&&decide (t.sw.wa<=t.mo)))))
  |none=>false)):=rfl
 generalize lW r t=R at hR ⊢;obtain ⟨ms,sh,tp⟩:=r;obtain ⟨me,si,wt,mo',sw⟩:=t;dsimp only at h6 hsl hso htl ht hR;have hsw:=lQ sw;have hk121: ∀(h:Hp) n,ki [.agg sw.a] h n=some (true,{v:= .i .i64 (if dL sw then 0 else 410),n}):=fun h n=>by
  simp only [ki,hsw,aS,ah ht]
 have t0:(Tp.l ⟨me,si,wt,mo',sw⟩)[0]? =some (.i .i64 me):=rfl;have t1:(Tp.l ⟨me,si,wt,mo',sw⟩)[1]? =some (.i .i64 si):=rfl;have t2:(Tp.l ⟨me,si,wt,mo',sw⟩)[2]? =some (.i .i64 wt):=rfl;have t3:(Tp.l ⟨me,si,wt,mo',sw⟩)[3]? =some (.i .i64 mo'):=rfl;have t4:(Tp.l ⟨me,si,wt,mo',sw⟩)[4]? =some (.fz (rows aC sw.l) sw.l.length):=rfl;have t8:(Tp.l ⟨me,si,wt,mo',sw⟩)[8]? =some (.i .i64 sw.wa):=rfl;have td:List.take 18 (List.drop 4 (Tp.l ⟨me,si,wt,mo',sw⟩))=sw.a:=rfl;have G4:sw.a.length=18:=rfl;have hg:(if dL sw then (0:Int) else 410)=0↔dL sw=true:=by cases dL sw<;>simp
 have hgb:((if dL sw then (0:Int) else 410)==0)=dL sw:=by cases dL sw<;>rfl
 generalize dL sw=G at*;have hSat: ∀(k:Nat) x,sh[k]? =some x->List.take 4 (List.drop (k*4) (rows bu.l sh))=x.l:=fun k x hk=>eo bu.len hk;have hw1:IntKind.i64.wrap ((ms.length:Int)-1)=(ms.length:Int)-1:=bS (by omega) (by omega)
 have hw2:IntKind.i64.wrap ((sh.length:Int)-1)=(sh.length:Int)-1:=bS (by omega) (by omega)
 refine dT aiS Tryz.func150 La ?_
 dsimp only [i150,amY];simp only [Rm.a];generalize Tp.l ⟨me,si,wt,mo',sw⟩=TL at*;cases c1:da 0 ((ms.length:Int)-1) me
 ·rw [c1] at hR;simp only [go_sem,iF,hw1,hw2,c1,t0,t1,simprocAttr];exact Ends.au rfl (by rw [hR];rfl)
 cases c2:da 0 ((sh.length:Int)-1) si
 ·rw [c1,c2] at hR;simp only [go_sem,iF,hw1,hw2,c1,c2,t0,t1,simprocAttr];exact Ends.au rfl (by rw [hR];rfl)
 have hme:=dD c1;have hsi:=dD c2;obtain ⟨j,rfl⟩: ∃j:Nat,si=(j:Int):=⟨si.toNat,by omega⟩
 have hj:j<sh.length:=by omega
 obtain ⟨s,hs⟩: ∃s,sh[j]? =some s:=⟨_,aY hj⟩;rw [c1,c2] at hR;simp only [lR,hs,eJ] at hR;have hok:=er.1 hso s (bR hs);have c3:decide (0<=(j:Int)/\(j:Int)<(sh.length:Int))=true:=ah (by omega)
 have hrow:=hSat j s hs;simp only [bu.ok,aw,aV] at hok;have hk69: ∀(h:Hp) n,Bz [.agg s.l,.i .i64 me] h n=some (true,{v:= .b (pF s me),n}):=fun h n=>by
  simp only [Bz,kJ,aS,hok.1,show da 0 6 me=true from jg (by omega),az]
 have hk198: ∀(h:Hp) n,H8 [.fz (rows aC sw.l) sw.l.length,.fz (rows aC s.ss) s.ss.length] h n=some (true,{v:= .b (decide (sw.l=s.ss)),n}):=fun h n=>by
  simp only [H8,eE,aS,ah ht]
 have hw3:IntKind.i64.wrap ((s.ss.length:Int)-1)=(s.ss.length:Int)-1:=bS (by omega) (by omega)
 generalize pF s me=BB at*;generalize decide (sw.l=s.ss)=EE at*;generalize sw.wa=wa at*;generalize sw.l=swl at*;generalize sw.a=SA at*;obtain ⟨ow,ss,rt,bl⟩:=s;simp only [bu.l] at hrow hk69;dsimp only at hk198 hw3 hR;cases BB;rotate_left
 ·simp only [go_sem,iF,hw1,hw2,c1,c2,c3,hrow,hk69,t0,t1,t2,t3,t4,t8,td,G4,simprocAttr];exact Ends.au rfl (by rw [hR];rfl)
 cases c4:da 1 10 wt
 ·rw [c4] at hR;simp only [go_sem,iF,hw1,hw2,c1,c2,c3,hrow,hk69,c4,t0,t1,t2,t3,t4,t8,td,G4,simprocAttr];exact Ends.au rfl (by rw [hR];rfl)
 cases c5:da 0 ((ss.length:Int)-1) mo'
 ·rw [c4,c5] at hR;simp only [go_sem,iF,hw1,hw2,hw3,c1,c2,c3,hrow,hk69,c4,c5,t0,t1,t2,t3,t4,t8,td,G4,simprocAttr];exact Ends.au rfl (by rw [hR];rfl)
 rw [c4,c5] at hR;cases G
 ·simp only [go_sem,iF,hw1,hw2,hw3,c1,c2,c3,hrow,hk69,c4,c5,t0,t1,t2,t3,t4,t8,td,G4,hk121,cY,bV,cu,simprocAttr];exact Ends.au rfl (by rw [hR];rfl)
 cases EE
 ·simp only [go_sem,iF,hw1,hw2,hw3,c1,c2,c3,hrow,hk69,c4,c5,t0,t1,t2,t3,t4,t8,td,G4,hk121,cY,bV,cu,hk198,simprocAttr];exact Ends.au rfl (by rw [hR];rfl)
 ·simp only [go_sem,iF,hw1,hw2,hw3,c1,c2,c3,hrow,hk69,c4,c5,t0,t1,t2,t3,t4,t8,td,G4,hk121,cY,bV,cu,hk198,simprocAttr];exact Ends.au rfl (by rw [hR];rfl)
def Tp.ok (t:Tp):Bool:=decide (t.sw.l.length<=9223372036854775807)
def Hi:Ct
 |[.fp c 0,.agg d],_,n=>(qy c).bind fun r=>(sQ d).bind fun t=>some (r.ok&&t.ok,{v:= .b (lW r t),n})
 |_,_,_=>none
theorem aqf:aq av 150 Hi:=fun args h n c E hc ht=>by
 unfold Hi at hc;split at hc
 ·simp only [af] at hc;obtain ⟨r,hr,t,htp,he⟩:=hc;cases he;rw [eh hr,j1 _ _ htp];simp only [Tp.ok,aw,aV] at ht;exact ax.pure (by kernel_rfl) (by simp only [ae,AV.al,Rm.al,Tp.al,az]) rfl (aqe r t ht.1 ht.2) _ _
 ·cases hc
def nh (r:Rm) (k:Nat) (t:Tp):Bool:=lW r t&&(((k:Int)==0)||(match r.tp[k-1]? with
 |some u=>decide (fb u t<0)
 |none=>false))
def akP:List (Nat×Ct):=[(139,Au),(150,Hi)]
theorem afN:Sound av (bZ akP):=Sound.cons afm (Sound.cons aqf Sound.nil)
theorem asl (r:Rm) (k:Nat) (t:Tp) (hr:r.ok=true) (ht:t.ok=true) (hk:k<r.tp.length):bt av 149 [.i .i64 (k:Int),.agg t.l,.fp [.fp r.a 0] 0] [] 0 (.b (nh r k t)) [] 0:=by
 have hk150: ∀(h:Hp) n,Hi [.fp r.a 0,.agg t.l] h n=some (true,{v:= .b (lW r t),n}):=fun h n=>by
  simp only [Hi,ey,sI,aS,hr,ht,az]
 have hk139: ∀(u:Tp) (h:Hp) n,Au [.agg u.l,.agg t.l] h n=some (true,{v:= .i .i64 (fb u t),n}):=fun u h n=>by
  simp only [Au,sI,aS]
 have hrb: ∀j,ae j r.a=true:=fun j=>Rm.al j r;have hR:nh r k t=(lW r t&&(((k:Int)==0)||(match r.tp[k-1]? with
 |some u=>decide (fb u t<0)
 |none=>false))):=rfl
 generalize nh r k t=R at hR ⊢;generalize lW r t=B at*;have htl:r.tp.length<=9223372036854775807:=by
  simp only [Rm.ok,aw,aV] at hr;exact hr.2.2.2.1
 have hr2:r.a[2]? =some (.fz (rows Tp.l r.tp) r.tp.length):=rfl;have hat: ∀(k:Nat) x,r.tp[k]? =some x->List.take 22 (List.drop (k*22) (rows Tp.l r.tp))=x.l:=fun k x hk=>eo Tp.len hk;generalize r.a=RA at*;generalize r.tp=tp at*;have t22:t.l.length=22:=rfl;have tO:aX t.l=true:=rfl;have td:List.take 22 (List.drop 0 t.l)=t.l:=rfl;generalize t.l=TL at*;refine dT afN Tryz.func149 Ms ?_
 dsimp only [i149,akP];cases B
 ·simp only [go_sem,hk150,tO,t22,td,simprocAttr];exact Ends.au rfl (by rw [hR];rfl)
 cases c2:((k:Int)==0);rotate_left
 ·rw [c2] at hR;simp only [go_sem,hk150,tO,t22,td,c2,simprocAttr];exact Ends.au rfl (by rw [hR];rfl)
 rw [c2] at hR;have hk0:k≠0:=fun e=>by subst e;simp at c2
 obtain ⟨u,hu⟩: ∃u,tp[k-1]? =some u:=⟨_,aY (by omega)⟩
 rw [hu] at hR;have hw:IntKind.i64.wrap ((k:Int)-1)=((k-1:Nat):Int):=by rw [bS (by omega) (by omega)];omega
 have c3:decide (0<=((k-1:Nat):Int)/\((k-1:Nat):Int)<(tp.length:Int))=true:=ah (by omega)
 have hrow:=hat _ u hu;have hk139:=hk139 u;have u22:u.l.length=22:=rfl;generalize u.l=UL at*;simp only [go_sem,hk150,tO,t22,td,c2,hr2,hw,c3,hrow,u22,hk139,simprocAttr];exact Ends.au rfl (by rw [hR];rfl)
noncomputable def JE:Ct
 |[.fz L m,.fn 149 [.fp [.fp c 0] 0]],_,n=>(bk 22 sQ m L).bind fun l=>(qy c).bind fun r=>open Classical in some (r.ok&&decide (r.tp=l),{v:= .b (eZ (nh r) l 0),n})
 |_,_,_=>none
theorem ap4:aq av 148 JE:=fun args h n c E hc ht=>by
 unfold JE at hc;split at hc
 ·simp only [af] at hc;obtain ⟨l,hl,r,hr,he⟩:=hc;cases he;simp only [aw,aV] at ht;obtain ⟨hok,hrl⟩:=ht;obtain ⟨rfl,hlm⟩:=bD j1 hl;subst hrl;subst hlm;rw [eh hr];have h2:=hok;simp only [Rm.ok,aw,aV] at h2;exact ax.pure (by kernel_rfl) (by simp only [ae,AV.al,ff,Rm.al,az]) rfl (aqx (by kernel_rfl) (by simp only [ae,AV.al,Rm.al,az]) r.tp h2.2.2.2.1 (fun k a ha=>asl r k a hok (er.1 h2.2.2.2.2 a (bR ha)) (eK.1 ha).1)) _ _
 ·cases hc
/-! the taps of a member, of a room that nobody writes -/
def lY (tp:List Tp) (m:Int):Nat->List Nat
 |0=>[]
 |k+1=>match tp[k]? with
  |some t=>bif t.me==m then lY tp m k++[k] else lY tp m k
  |none=>lY tp m k
def dE (tp:List Tp) (m:Int):List Nat:=lY tp m tp.length
def mJ (T:List AV) (i:Nat):List AV:=[.fp T (i*22)]
theorem pg (T:List AV): ∀i,(mJ T i).length=1:=fun _=>rfl
theorem vw (tp:List Tp) (m:Int): ∀k,(lY tp m k).length<=k
 |0=>bx 0
 |k+1=>by
  have:=vw tp m k;simp only [lY];split
  ·rename_i t _;cases t.me==m
   ·simp only [cond_false];omega
   ·simp only [cond_true,dN,nG];omega
  ·omega
theorem iT {tp:List Tp} {m:Int}: ∀{k i:Nat},i∈lY tp m k->i<k/\ ∃t,tp[i]? =some t/\t.me=m
 |0,i,h=>by simp [lY] at h
 |k+1,i,h=>by
  simp only [lY] at h;split at h
  ·rename_i t ht;cases hb:t.me==m
   ·rw [hb] at h;obtain ⟨h1,h2⟩:=iT h;exact ⟨by omega,h2⟩
   ·rw [hb] at h;simp only [cond_true,vJ,List.mem_singleton] at h;rcases h with h|rfl
    ·obtain ⟨h1,h2⟩:=iT h;exact ⟨by omega,h2⟩
    ·exact ⟨by omega,t,ht,by simpa using hb⟩
  ·obtain ⟨h1,h2⟩:=iT h;exact ⟨by omega,h2⟩
theorem Jj {T:List AV} (hT:ae 0 T=true): ∀i,ae 0 (mJ T i)=true:=fun i=>by simp only [mJ,ae,AV.al,hT,az]
def IY (tp:List Tp) (m:Int) (k:Nat):List (Nat×Nat):=match tp[k]? with
 |some t=>bif t.me==m then [(0,2)] else []
 |none=>[]
theorem Od (tp:List Tp) (m:Int) (k:Nat):uJ (IY tp m k) 0 1=true:=by
 unfold IY;split
 ·rename_i t _;cases t.me==m<;>rfl
 ·rfl
theorem aa2 (RA T:List AV) (tp:List Tp) (m:Int) (hl:tp.length<=1000000000) (hRA:ae 0 RA=true) (hr2:RA[2]? =some (.fz T tp.length)) (hT:ae 0 T=true) (hme: ∀(k:Nat) (t:Tp),tp[k]? =some t->T[k*22]? =some (.i .i64 t.me)) {K:cF} {e:Env} {h:Hp} {n:Nat}
 (he:na 1 [] e [(0,.fp RA 0),(1,.i .i64 m),(5,.ns),(12,.i .i64 (tp.length:Int)),(13,.i .i64 0)]) (hh:iy 1 [] h [])
 (hK: ∀e',cV e' 5=some ((gQ (mJ T) 1 (dE tp m)).v 0)->K (.exit 0) e' ((gQ (mJ T) 1 (dE tp m)).h 0) 1):
 Ab.Loop av [14,26] 39 0 J2 K e h n:=by
 have e0:(gQ (mJ T) 1 (lY tp m 0)).v 0= .ns:=rfl;have e1:(gQ (mJ T) 1 (lY tp m 0)).h 0=[]:=rfl;rw [<-e0] at he;rw [<-e1] at hh;have hRA': ∀j,ae j RA=true:=fun j=>aD _ hRA;have hTB: ∀j,ae j T=true:=fun j=>aD _ hT;have hTR: ∀g,aL g T=T:=fun g=>aU _ hT;have hRR: ∀g,aL g RA=RA:=fun g=>aU _ hRA;refine Loop.uE (F:=⟨av,bZ [],[14,26],39,0⟩) Sound.nil mo (X:=Nat) (fun k=>k<=tp.length) (fun k=>tp.length-k)
  (fun k=>[(0,.fp RA 0),(1,.i .i64 m),(5,(gQ (mJ T) 1 (lY tp m k)).v 0),(12,.i .i64 (tp.length:Int)),(13,.i .i64 (k:Int))])
  (fun k=>(gQ (mJ T) 1 (lY tp m k)).h 0) 1 0 (fun k=>k+1) [] (IY tp m) (by decide) (by decide) (Od tp m) (eB _) he hh (fun k hk=> ?_)
 by_cases hlt:k<tp.length
 ·have c1:decide ((k:Int)<(tp.length:Int))=true:=ah (by omega)
  have c2:decide (0<=(k:Int)/\(k:Int)<(tp.length:Int))=true:=ah (by omega)
  have hw:IntKind.i64.wrap ((k:Int)+1)=((k+1:Nat):Int):=by rw [bS (by omega) (by omega)];omega
  obtain ⟨x,hx⟩: ∃x,tp[k]? =some x:=⟨_,aY hlt⟩;have hr:=hme k x hx;have hlen:=vw tp m k;have hix:lY tp m (k+1)=bif x.me==m then lY tp m k++[k] else lY tp m k:=by simp only [lY,hx]
  have hrn:IY tp m k=bif x.me==m then [(0,2)] else []:=by simp only [IY,hx]
  rw [hix,hrn];generalize lY tp m k=q at*;have gm:decide (8*(q.length+1)<=aE)=true:=ah (by simp only [aE];omega)
  have zR:(rows (mJ T) q).length=q.length*1:=aT (pg T);have pk:=(tE (f:=mJ T) (Jj hT) (pg T) q).pl;have hsk:tp.length-(k+1)<tp.length-k:=by omega
  cases c3:(x.me==m)
  ·dsimp only [cond_false];simp only [go_sem,c1,c2,hr,hw,hr2,c3,gm,zR,pk,hsk,hlt,AV.al,ae,aG,aW.aH,aL,AV.aH,hRA',hTB,hTR,hRR,fu,simprocAttr];exact hlt
  ·dsimp only [cond_true];have pk':=(tE (f:=mJ T) (Jj hT) (pg T) (q++[k])).pl;rw [rp] at pk' ⊢;simp only [mJ] at pk';simp only [go_sem,c1,c2,hr,hw,hr2,c3,gm,zR,pk,pk',hsk,hlt,AV.al,ae,aG,aW.aH,aL,AV.aH,hRA',hTB,hTR,hRR,mJ,fu,simprocAttr];exact hlt
 ·have c1:decide ((k:Int)<(tp.length:Int))=false:=cN (by omega)
  obtain rfl:k=tp.length:=by omega
  simp only [go_sem,c1,simprocAttr];exact hK _ rfl
theorem WI {T:List AV} (q:List Nat):(gQ (mJ T) 1 q).Qw:=by unfold gQ;split<;>trivial
theorem w72 (r:Rm) (m:Int) (hl:r.tp.length<=1000000000):bt av 72 [.fp r.a 0,.i .i64 m] [] 0 (.fz (rows (mJ (rows Tp.l r.tp)) (dE r.tp m)) (dE r.tp m).length) [] 0:=by
 have hRA:=Rm.al 0 r;have hr2:r.a[2]? =some (.fz (rows Tp.l r.tp) r.tp.length):=rfl;have hT:=ff 0 r.tp;have hme: ∀(k:Nat) (t:Tp),r.tp[k]? =some t->(rows Tp.l r.tp)[k*22]? =some (.i .i64 t.me):=fun k t hk=>by
  have:=cn (f:=Tp.l) (z:=22) (j:=0) (v:= .i .i64 t.me) Tp.len hk rfl;simpa using this
 generalize r.a=RA at*;generalize r.tp=tp at*;generalize rows Tp.l tp=T at*;have hfin:= @aa2 RA T tp m hl hRA hr2 hT hme;have hgi:=tE (f:=mJ T) (Jj hT) (pg T) (dE tp m);have hfr:=Kl (f:=mJ T) (z:=1) (dE tp m);have hcap:=WI (T:=T) (dE tp m);have hb:ae 0 (rows (mJ T) (dE tp m))=true:=bN (Jj hT);generalize dE tp m=q at*;have hRA': ∀j,ae j RA=true:=fun j=>aD _ hRA;have hRR: ∀g,aL g RA=RA:=fun g=>aU _ hRA;refine bt.dU (cx:=bZ []) Sound.nil mo Tryz.func72 Ds (by simp [i72]) (aQ ?_)
 dsimp only [i72];simp only [go_sem,hr2,simprocAttr];refine hfin ?_ ?_ (fun e' he5=> ?_)
 ·simp only [go_sem,AV.al,ae,aG,AV.aH,aL,hRA',hRR,simprocAttr]
 ·simp only [go_sem,simprocAttr]
 simp only [go_sem,he5,simprocAttr];refine bw.auI (h':=[]) (v':= .fz (rows (mJ T) q) q.length) hgi hfr hcap ?_ dj.hit (fun c kk hc=>by simp [ab] at hc) ?_
 ·rw [py];trivial
 ·exact bw.ends (Ends.au (by simp only [AV.al,hb]) rfl)
def Bq:Ct
 |[.fp c 0,.i .i64 m],_,n=>(qy c).bind fun r=>some (decide (r.tp.length<=1000000000),{v:= .fz (rows (mJ (rows Tp.l r.tp)) (dE r.tp m)) (dE r.tp m).length,n})
 |_,_,_=>none
theorem s72:aq av 72 Bq:=fun args h n c E hc ht=>by
 unfold Bq at hc;split at hc
 ·simp only [af] at hc;obtain ⟨r,hr,he⟩:=hc;cases he;rw [eh hr];exact ax.pure (by kernel_rfl) (by simp only [ae,AV.al,Rm.al,az]) (by simp only [AV.al];exact bN (Jj (ff 0 r.tp))) (w72 r _ (bO ht)) _ _
 ·cases hc
/-! the order bounds the number of taps -/
theorem qm {a b:Tp} (h:fb a b<0):a.me<b.me\/(a.me=b.me/\a.sh<b.sh):=by
 unfold fb P8 lJ at h;by_cases h1:a.me<b.me
 ·exact .inl h1
 ·by_cases h2:a.me>b.me
  ·rw [aN h1,aM h2] at h;simp at h
  ·rw [aN h1,aN h2] at h;simp only [ne_eq,not_true_eq_false,bV] at h;by_cases h3:a.sh<b.sh
   ·exact .inr ⟨by omega,h3⟩
   ·rw [aN h3] at h;split at h<;>omega
theorem s7 {a b:Tp} (h:a.me<b.me\/(a.me=b.me/\a.sh<b.sh)):fb a b<0:=by
 unfold fb P8 lJ;rcases h with h|⟨h1,h2⟩
 ·rw [aM h,aM (by decide)];omega
 ·rw [aN (show ¬a.me<b.me by omega),aN (show ¬a.me>b.me by omega),aN (by simp),aM h2];omega
theorem nP {r:Rm} {t:Tp} (h:lW r t=true):(0<=t.me/\t.me<=(r.ms.length:Int)-1)/\(0<=t.sh/\t.sh<=(r.sh.length:Int)-1):=by
 simp only [lW,aw] at h;exact ⟨dD h.1,dD h.2.1⟩
theorem EC {r:Rm} (h:eZ (nh r) r.tp 0=true) (hm:r.ms.length<=6) (hs:r.sh.length<=6):r.tp.length<=36:=by
 rw [fH] at h;have key: ∀(k:Nat) (t:Tp),r.tp[k]? =some t->(k:Int)<=t.me*6+t.sh:=by
  intro k;induction k with
  |zero=>
   intro t ht;have h0:=h 0 t ht;simp only [nh,aw] at h0;have:=nP h0.1;omega
  |succ k ih=>
   intro t ht;have h0:=h (k+1) t ht;have hk:k<r.tp.length:=by have:=(eK.1 ht).1;omega
   obtain ⟨u,hu⟩: ∃u,r.tp[k]? =some u:=⟨_,aY hk⟩;have h1:=h k u hu;simp only [nh,aw,gv,Nat.add_sub_cancel,hu] at h0 h1;have r1:=nP h1.1;have r0:=nP h0.1;have h2:=h0.2;rw [iS] at h2;rcases h2 with h2|h2
   ·simp at h2;omega
   ·have:=qm (bO h2);have:=ih u hu;omega
 rcases dw 36 r.tp.length with hg|hg
 ·obtain ⟨t,ht⟩: ∃t,r.tp[36]? =some t:=⟨_,aY hg⟩;have:=key 36 t ht;have h0:=h 36 t ht;simp only [nh,aw] at h0;have:=nP h0.1;omega
 ·exact hg
/-! the outs of a member differ -/
theorem YF {K:List Int} {x y:Int}:y∈sD K x↔y∈K\/y=x:=by
 unfold sD;cases h:K.contains x
 ·simp
 ·simp only [cond_true];have:x∈K:=by simpa using h
  constructor
  ·exact .inl
  ·rintro (h|rfl)
   ·exact h
   ·exact this
def Cn (l:List Int) (k:Nat):List Int:=(l.take k).foldl sD []
theorem Qh (l:List Int):Cn l 0=[]:=rfl
theorem Ka {l:List Int} {k:Nat} {x:Int} (h:l[k]? =some x):Cn l (k+1)=sD (Cn l k) x:=by
 unfold Cn;rw [jz,h,Bs,List.foldl_append];rfl
theorem Eb {l:List Int}: ∀{k:Nat},k<=l.length-> ∀y,y∈Cn l k↔y∈l.take k
 |0,_,y=>by simp [Qh]
 |k+1,hk,y=>by
  obtain ⟨x,hx⟩: ∃x,l[k]? =some x:=⟨_,aY (by omega)⟩
  rw [Ka hx,YF,Eb (by omega),jz,hx]
  simp
theorem Fq {l:List Int}: ∀{k:Nat},k<=l.length->((Cn l k).length<k/\ ∃i x,i<k/\l[i]? =some x/\(l.take i).contains x=true)\/((Cn l k).length=k/\ ∀i x,i<k->l[i]? =some x->(l.take i).contains x=false)
 |0,_=> .inr ⟨rfl,fun i x h=>by omega⟩
 |k+1,hk=>by
  obtain ⟨x,hx⟩: ∃x,l[k]? =some x:=⟨_,aY (by omega)⟩
  have hc:(Cn l k).contains x=(l.take k).contains x:=by
   rw [iG];simp [Eb (l:=l) (k:=k) (by omega)]
  have hnx:Cn l (k+1)=bif (l.take k).contains x then Cn l k else Cn l k++[x]:=by rw [Ka hx,<-hc];rfl
  rw [hnx];rcases Fq (l:=l) (k:=k) (by omega) with ⟨h1,i,y,h2,h3,h4⟩|⟨h1,h2⟩
  ·refine .inl ⟨?_,i,y,by omega,h3,h4⟩
   cases (l.take k).contains x
   ·simp only [cond_false,dN,nG];omega
   ·simp only [cond_true];omega
  ·cases hd:(l.take k).contains x
   ·refine .inr ⟨by simp only [cond_false,dN,nG];omega,fun i y hi hy=> ?_⟩
    rcases A5.1 hi with h|rfl
    ·exact h2 i y h hy
    ·rw [hx] at hy;cases hy;exact hd
   ·exact .inl ⟨by simp only [cond_true];omega,k,x,by omega,hx,hd⟩
theorem Jm (l:List Int):decide ((Cn l l.length).length<l.length)= !fV l:=by
 rcases Fq (l:=l) (bx _) with ⟨h1,i,x,h2,h3,h4⟩|⟨h1,h2⟩
 ·rw [ah h1];have:fV l=false:=by
   cases hn:fV l
   ·rfl
   ·unfold fV at hn;rw [fH] at hn;have:=hn i x h3;rw [gv,h4] at this;cases this
  rw [this];rfl
 ·rw [cN (by omega)]
  have:fV l=true:=by
   unfold fV;rw [fH];intro k x hx;rw [gv,h2 k x (eK.1 hx).1 hx];rfl
  rw [this];rfl
def KG (tp:List Tp) (i:Nat):Int:=match tp[i]? with
 |some t=>t.sw.ou
 |none=>0
def rh (tp:List Tp) (m:Int):List Int:=(dE tp m).map (KG tp)
def wP (tp:List Tp) (m:Nat):Bool:=fV (rh tp m)&&decide ((dE tp m).length<=5)
def kN (r:Rm):Bool:=eZ (nh r) r.tp 0&&ji (wP r.tp) r.ms.length
theorem I1 {f:Nat->Bool}: ∀{n k:Nat},k<n->f k=false->ji f n=false
 |n+1,k,h,hf=>by
  rw [yR];rcases A5.1 h with h|rfl
  ·rw [I1 h hf];rfl
  ·rw [hf,dW]
noncomputable def T82:List (Nat×Ct):=[(72,Bq),(148,bj JE)]
theorem Sb:Sound av (bZ T82):=Sound.cons s72 (Sound.cons ap4.nv Sound.nil)
noncomputable abbrev F82:Fx:=⟨av,bZ T82,[15,23,32,51],53,0⟩
theorem w82 (r:Rm) (hr:r.ok=true) (hs6:r.sh.length<=6):bt av 82 [.fp r.a 0] [] 0 (.b (kN r)) [] 0:=by
 have hRB: ∀j,ae j r.a=true:=fun j=>Rm.al j r;have hr2:r.a[2]? =some (.fz (rows Tp.l r.tp) r.tp.length):=rfl;have hr0:r.a[0]? =some (.fz (rows Mb.l r.ms) r.ms.length):=rfl;have hm6:r.ms.length<=6:=by simp only [Rm.ok,aw,aV] at hr;exact hr.1
 have hrA:=ey r;have hk148: ∀(h:Hp) n b,ab h b=some {cells:=[.fp r.a 0]}->bj JE [.fz (rows Tp.l r.tp) r.tp.length,.fn 149 [.p b 0]] h n=some (true,{v:= .b (eZ (nh r) r.tp 0),n,rd:=[b]}):=fun h n b hb=>by
  simp only [bj,bn,bQ,jf,iL,ny (hRB 0),dz (ff 0 r.tp),hb,aS,dV,JE,Fy,ey,hr,pX,az];rfl
 have hk72:r.tp.length<=36-> ∀(m:Int) (h:Hp) n,Bq [.fp r.a 0,.i .i64 m] h n=some (true,{v:= .fz (rows (mJ (rows Tp.l r.tp)) (dE r.tp m)) (dE r.tp m).length,n}):=fun hl m h n=>by
  simp only [Bq,hrA,aS,ah (show r.tp.length<=1000000000 by omega)]
 have htl:=fun h=>EC (r:=r) h hm6 hs6;have hR:kN r=(eZ (nh r) r.tp 0&&ji (wP r.tp) r.ms.length):=rfl;generalize kN r=R at hR ⊢;generalize eZ (nh r) r.tp 0=A at*;have hcell: ∀(i:Nat) (t:Tp),r.tp[i]? =some t->(rows Tp.l r.tp)[i*22+5]? =some (.i .i64 t.sw.ou):=fun i t ht=>cn (f:=Tp.l) (z:=22) (j:=5) (v:= .i .i64 t.sw.ou) Tp.len ht rfl;have hTB:=ff 0 r.tp;generalize r.a=RA at*;generalize r.ms.length=nm at*;generalize r.tp=tp at*;generalize rows Tp.l tp=T at*;have hTB': ∀j,ae j T=true:=fun j=>aD _ hTB;refine dT (cx:=bZ T82) Sb Tryz.func82 Wu ?_
 dsimp only [i82,T82];cases A
 ·simp only [go_sem,hr2,hk148,simprocAttr];exact Ends.au rfl (by rw [hR];rfl)
 have h36:=htl rfl;have hk72:=hk72 h36;simp only [go_sem,hr2,hr0,hk148,simprocAttr];refine Loop.fj (F:=F82) Sb mo nm (fun k=>ji (wP tp) k=true)
  (fun k=>[(1,.p 0 0),(21,.i .i64 (nm:Int)),(22,.i .i64 (k:Int))])
  (fun k=>[(0,{cells:=[.fp RA 0]})]) 1 (by decide) rfl ?_ ?_ (fun k hk ho=> ?_)
 ·simp only [go_sem,AV.al,ae,aG,simprocAttr]
 ·simp only [go_sem,AV.al,ae,aG,hRB,simprocAttr]
 dsimp only [F82,T82];by_cases hlt:k<nm
 rotate_left
 ·have c1:decide ((k:Int)<(nm:Int))=false:=cN (by omega)
  obtain rfl:k=nm:=by omega
  simp only [go_sem,c1,simprocAttr];exact Ends.au rfl (by rw [hR,ho];rfl)
 have c1:decide ((k:Int)<(nm:Int))=true:=ah (by omega)
 have hw:IntKind.i64.wrap ((k:Int)+1)=((k+1:Nat):Int):=by rw [bS (by omega) (by omega)];omega
 have hk72:=hk72 (k:Int);have hmt:wP tp k=(fV (rh tp k)&&decide ((dE tp k).length<=5)):=rfl;have hnl:=Jm (rh tp k);have hol:(rh tp k).length=(dE tp k).length:=by simp [rh]
 have hoL:(dE tp k).length<=36:=Cg (vw _ _ _) h36;have hoi: ∀(j i:Nat),(dE tp k)[j]? =some i-> ∃t:Tp,tp[i]? =some t/\(rh tp k)[j]? =some t.sw.ou:=fun j i hi=>by
  obtain ⟨_,t,ht,_⟩:=iT (bR hi);refine ⟨t,ht,?_⟩;simp only [rh,gF,hi,fN,KG,ht]
 have hf:ji (wP tp) (k+1)=(ji (wP tp) k&&wP tp k):=rfl;have hff:=I1 (f:=wP tp) hlt;rw [ho,eJ] at hf;generalize wP tp k=M at*;generalize rh tp k=os at*;generalize dE tp k=q at*;have hpB: ∀j,ae j (rows (mJ T) q)=true:=fun j=>aD _ (bN (Jj hTB));have hpat: ∀(j i:Nat),q[j]? =some i->(rows (mJ T) q)[j]? =some (.fp T (i*22)):=fun j i hi=>by
  have:=cn (f:=mJ T) (z:=1) (j:=0) (v:= .fp T (i*22)) (pg T) hi rfl;simpa using this
 generalize rows (mJ T) q=PL at*;simp only [go_sem,c1,hk72,simprocAttr];refine Loop.fj (F:=F82) Sb mo q.length (fun _=>True)
  (fun j=>[(1,.p 0 0),(4,.m 1),(5,.fz PL q.length),(21,.i .i64 (nm:Int)),(22,.i .i64 (k:Int)),(29,.fz PL q.length),(30,.i .i64 (q.length:Int)),(31,.i .i64 (j:Int))])
  (fun j=>[(1,qD (Cn os j)),(0,{cells:=[.fp RA 0]})]) 2 (by decide) trivial ?_ ?_ (fun j hj _=> ?_)
 ·simp only [go_sem,AV.al,ae,aG,hpB,simprocAttr]
 ·simp only [go_sem,AV.al,ae,aG,hRB,Qh,simprocAttr];exact ⟨rfl,rfl⟩
 dsimp only [F82,T82];by_cases hjl:j<q.length
 ·have d1:decide ((j:Int)<(q.length:Int))=true:=ah (by omega)
  have d2:decide (0<=(j:Int)/\(j:Int)<(q.length:Int))=true:=ah (by omega)
  have hw2:IntKind.i64.wrap ((j:Int)+1)=((j+1:Nat):Int):=by rw [bS (by omega) (by omega)];omega
  obtain ⟨i,hi⟩: ∃i,q[j]? =some i:=⟨_,aY hjl⟩;obtain ⟨t,ht,hos⟩:=hoi j i hi;have hp:=hpat j i hi;have hc:=hcell i t ht;rw [Ka hos];have hb:=rA;generalize iz 2 _=K0;generalize Cn os j=K at*;generalize t.sw.ou=x at*;have hfn:=Rl K x;have hl:=u5 K.length;cases hx:K.contains x
  ·rw [Qn hx] at hfn;have hs:sK K.length++[.b true]=sK (sD K x).length:=by unfold sK sD;rw [hx,cond_false,dN,nG,List.replicate_succ']
   have hK:K++[x]=sD K x:=by unfold sD;rw [hx];rfl
   have hb2:=hb 2 (sD K x).length;simp only [qD];generalize sK (sD K x).length=C2 at*;generalize sD K x=K2 at*;generalize sK K.length=C at*;simp only [go_sem,d1,d2,hp,hc,hw2,hfn,hl,hs,hK,hjl,AV.al,ae,aG,hRB,hpB,hb2,dK,simprocAttr]
  ·obtain ⟨i0,hi0,hil⟩:=Q2 hx;rw [hi0] at hfn;have hs:=Em (i:=i0) (k:=K.length);have hg:=zF hil;have hK:sD K x=K:=by unfold sD;rw [hx];rfl
   rw [hK];have hb2:=hb 2 K.length;simp only [qD];generalize sK K.length=C at*;simp only [go_sem,d1,d2,hp,hc,hw2,hfn,hl,hs,hg,hjl,AV.al,ae,aG,hRB,hpB,hb2,dK,simprocAttr]
 ·have d1:decide ((j:Int)<(q.length:Int))=false:=cN (by omega)
  obtain rfl:j=q.length:=by omega
  have n1:decide (((Cn os q.length).length:Int)<(q.length:Int))= !fV os:=by
   rw [<-hnl,hol,iG];simp
  have n2:decide ((q.length:Int)>5)= !decide (q.length<=5):=by rw [iG];simp;omega
  simp only [qD];generalize Cn os q.length=K at*;generalize sK K.length=C at*;cases m1:fV os
  ·rw [m1] at hmt;simp only [go_sem,d1,n1,m1,simprocAttr];exact Ends.au rfl (by rw [hR,hff (by rw [hmt];rfl)];rfl)
  cases m2:decide (q.length<=5)
  ·rw [m1,m2] at hmt;simp only [go_sem,d1,n1,m1,n2,m2,simprocAttr];exact Ends.au rfl (by rw [hR,hff (by rw [hmt];rfl)];rfl)
  ·rw [m1,m2] at hmt;simp only [go_sem,d1,n1,m1,n2,m2,hw,hlt,AV.al,ae,aG,hRB,simprocAttr];rw [hf,hmt];rfl
def k82:Ct
 |[.fp c 0],_,n=>(qy c).bind fun r=>some (r.ok&&decide (r.sh.length<=6),{v:= .b (kN r),n})
 |_,_,_=>none
theorem s82:aq av 82 k82:=fun args h n c E hc ht=>by
 unfold k82 at hc;split at hc
 ·simp only [af] at hc;obtain ⟨r,hr,he⟩:=hc;cases he;rw [eh hr];simp only [aw,aV] at ht;exact ax.pure (by kernel_rfl) (by simp only [ae,AV.al,Rm.al,az]) rfl (w82 r ht.1 ht.2) _ _
 ·cases hc
/-! Check -/
def bC (r:Rm):Bool:=lf r.ms&&(gg r&&kN r)
def Rm.is (r:Rm):Bool:=decide (r.ms.length<=9223372036854775807)&&(decide (r.sh.length<=9223372036854775807)&&(r.sh.all bu.ok&&(decide (r.tp.length<=9223372036854775807)&&r.tp.all fun t=>decide (t.sw.l.length<=9223372036854775807))))
theorem Rm.anC {r:Rm} (h:r.is=true) (h6:r.ms.length<=6):r.ok=true:=by
 simp only [Rm.is,Rm.ok,aw,aV] at*;exact ⟨h6,h.2⟩
theorem zQ {ms:List Mb} (h:lf ms=true):ms.length<=6:=by
 simp only [lf,aw,aV] at h;exact h.1
theorem HP {r:Rm} (h:gg r=true):r.sh.length<=6:=by
 simp only [gg,aw,aV] at h;exact h.1
theorem jQ (h:Hp) (f:Nat) (r:Rm):k7 (Go.Ab.nv h f) r.a=some ([],r.a):=by
 simp only [Rm.a,bn,bQ,dz (fR 0 _),dz (di 0 _),dz (ff 0 _),aS,List.nil_append]
abbrev CP:List UInt8:=[109,101,109,98,101,114,115]
abbrev GW:List UInt8:=[115,104,111,119,115]
abbrev H6:List UInt8:=[116,97,112,115]
noncomputable def T17:List (Nat×Ct):=[(80,bj k80),(81,bj k81),(82,bj k82)]
theorem alO:Sound av (bZ T17):=Sound.cons s80.nv (Sound.cons s81.nv (Sound.cons s82.nv Sound.nil))
theorem w17 (r:Rm) (hr:r.is=true):bt av 17 [.agg r.a] [] 0 (.i .i64 (if bC r then 0 else 420)) [] 0:=by
 have hrA:=ey r;have hml:r.ms.length<=9223372036854775807:=by simp only [Rm.is,aw,aV] at hr;exact hr.1
 have hsl:r.sh.length<=9223372036854775807:=by simp only [Rm.is,aw,aV] at hr;exact hr.2.1
 have hso:r.sh.all bu.ok=true:=by simp only [Rm.is,aw,aV] at hr;exact hr.2.2.1
 have hv:=fun h f=>jQ h f r;have hk80: ∀(h:Hp) n,ab h 1=some {cells:=r.a}->bj k80 [.p 1 0] h n=some (true,{v:= .b (lf r.ms),n,rd:=[1]}):=fun h n hb=>by
  simp only [bj,bn,bQ,iL,hv,hb,aS,dV,k80,hrA,ah hml];rfl
 have hk81:lf r.ms=true-> ∀(h:Hp) n,ab h 1=some {cells:=r.a}->bj k81 [.p 1 0] h n=some (true,{v:= .b (gg r),n,rd:=[1]}):=fun hm h n hb=>by
  simp only [bj,bn,bQ,iL,hv,hb,aS,dV,k81,hrA,ah (zQ hm),ah hsl,hso,az];rfl
 have hk82:lf r.ms=true->gg r=true-> ∀(h:Hp) n,ab h 1=some {cells:=r.a}->bj k82 [.p 1 0] h n=some (true,{v:= .b (kN r),n,rd:=[1]}):=fun hm hs h n hb=>by
  simp only [bj,bn,bQ,iL,hv,hb,aS,dV,k82,hrA,Rm.anC hr (zQ hm),ah (HP hs),az];rfl
 have hR:(if bC r then (0:Int) else 420)=if (lf r.ms&&(gg r&&kN r))=true then 0 else 420:=rfl
 generalize (if bC r then (0:Int) else 420)=R at hR ⊢
 have a3:r.a.length=3:=rfl;have ao:aX r.a=true:=rfl;have ad:List.take 3 (List.drop 0 r.a)=r.a:=rfl;generalize lf r.ms=M at*;generalize gg r=S at*;generalize kN r=T at*;generalize r.a=RA at*;have f1:(cy.s []).find (.s CP)=some none:=rfl;have f2:(cy.s [CP]).find (.s GW)=some none:=rfl;have f3:(cy.s [CP,GW]).find (.s H6)=some none:=rfl;have g1:(cy.s [CP,GW,H6]).find (.s CP)=some (some 0):=rfl;have g2:(cy.s [CP,GW,H6]).find (.s GW)=some (some 1):=rfl;have g3:(cy.s [CP,GW,H6]).find (.s H6)=some (some 2):=rfl;refine dT (cx:=bZ T17) alO Tryz.func17 Sc ?_
 dsimp only [i17,T17];simp only [go_sem,a3,ao,ad,f1,f2,f3,List.nil_append,ee,simprocAttr];refine Loop.rounds (F:=⟨av,bZ T17,[20,26],28,0⟩) 4 alO mo ?_;dsimp only [T17];cases M
 ·simp only [go_sem,a3,ao,ad,g1,g2,g3,hk80,simprocAttr];exact Ends.au rfl (by rw [hR];rfl)
 have hk81:=hk81 rfl;cases S
 ·simp only [go_sem,a3,ao,ad,g1,g2,g3,hk80,hk81,simprocAttr];exact Ends.au rfl (by rw [hR];rfl)
 have hk82:=hk82 rfl rfl;cases T
 ·simp only [go_sem,a3,ao,ad,g1,g2,g3,hk80,hk81,hk82,simprocAttr];exact Ends.au rfl (by rw [hR];rfl)
 ·simp only [go_sem,a3,ao,ad,g1,g2,g3,hk80,hk81,hk82,simprocAttr];exact Ends.au rfl (by rw [hR];rfl)
def l8:Ct
 |[.agg c],_,n=>(qy c).bind fun r=>some (r.is,{v:= .i .i64 (if bC r then 0 else 420),n})
 |_,_,_=>none
theorem G5:aq av 17 l8:=fun args h n c E hc ht=>by
 unfold l8 at hc;split at hc
 ·simp only [af] at hc;obtain ⟨r,hr,he⟩:=hc;cases he;rw [eh hr];exact ax.pure (by kernel_rfl) (by simp only [ae,AV.al,Rm.al,az]) rfl (w17 r ht) _ _
 ·cases hc
def tn:Rm:=⟨[],[],[]⟩
def jK (r:Rm×Int):AV:= .bg [.agg r.1.a,.i .i64 r.2]
theorem iu (r:Rm×Int):(jK r).al 0=true:=by simp only [jK,AV.al,ae,Rm.al,az]
theorem ZI {e:Int} {h:Hp} {n:Nat}:bw 0 (.bg [.agg [.ns,.ns,.ns],.i .i64 e]) h n (jK (tn,e)) [] 0:=by
 refine bw.xe (l:=[]) (v':=jK (tn,e)) (dj.bg ⟨dj.agg ⟨dj.hit,dj.hit,dj.hit,trivial⟩,dj.refl,trivial⟩) ?_;exact bw.ends (Ends.au rfl rfl)
theorem agf {kx:Ct} (hx:aq av 135 kx) (caps:List AV) (hcaps:ae 0 caps=true) (r:Rm×Int) (hz:r.2≠0->r.1=tn)
 (hv:r.2=0-> ∀(h:Hp) n,kx caps h n=some (true,{v:= .agg r.1.a,n}))
 (hp:r.2≠0-> ∀(h:Hp) n,kx caps h n=some (true,{v:= .bg [],n,pn:=some (eD r.2)})):bt av 134 [.fn 135 caps] [] 0 (jK r) [] 0:=by
 have hcx:Sound av (bZ [(135,kx)]):=Sound.cons hx Sound.nil;have hcb: ∀j,ae j caps=true:=fun j=>aD _ hcaps;refine cL.nU (pn:=none) z7.F2 hcx mo Tryz.func134 z6 (by simp [i134]) (pre:=zu) (ops:=[oo 4 (.Co 193 [.t 2,.t 3])]) rfl (by kernel_rfl) Tryz.func193 Al rfl ?_
 dsimp only [i134];simp only [go_sem,tu,simprocAttr];refine jl (caps:=[.p 0 0,.p 1 0]) (bs:=[0,1]) rfl rfl (by decide) (fun Gs h1 h2=> ?_)
 obtain ⟨g0,g1,rfl⟩: ∃a b,Gs=[a,b]:=by
  match Gs,h1 with
  |[a,b],_=>exact ⟨a,b,rfl⟩
 refine ⟨by simp [i193],?_⟩
 have hne:g0≠g1:=by simpa using h2
 have hgl: ∀a b:List AV,iC [(1,{cells:=a,gid:=some g1}),(0,{cells:=b,gid:=some g0})] g0=some (.p 0 0)/\iC [(1,{cells:=a,gid:=some g1}),(0,{cells:=b,gid:=some g0})] g1=some (.p 1 0):=fun a b=>by
  have b1:g1.beq g0=false:=by
   cases h:g1.beq g0 with
   |false=>rfl
   |true=>exact absurd (dC h).symm hne
  have z1:Nat.beq 1 0=false:=rfl;have z2:Nat.beq 1 1=true:=rfl;have z3:Nat.beq 0 0=true:=rfl;have b2: ∀g:Nat,g.beq g=true:=fun g=>by simp
  constructor
  ·simp [iC,vW,ab,b1,b2,z1,z2,z3]
  ·simp [iC,vW,ab,b1,b2,z1,z2,z3]
 have hgl0:=fun a b=>(hgl a b).1;have hgl1:=fun a b=>(hgl a b).2;obtain ⟨R,e⟩:=r;dsimp only [nd,ab] at*;by_cases he:e=0
 ·subst he;have hk:=hv rfl;have a3:R.a.length=3:=rfl;have ao:aX R.a=true:=rfl;have ad:List.take 3 (List.drop 0 R.a)=R.a:=rfl;have hb:=Rm.al 0 R;simp only [jK];generalize R.a=RA at*;simp only [go_sem,hk,ig,hgl0,hgl1,a3,ao,ad,simprocAttr];dsimp only [i193,eD];simp only [go_sem,a3,ao,ad,simprocAttr];exact bw.ends (Ends.au (by simp only [AV.al,ae,hb,az]) rfl)
 ·have hk:=hp he;have hzz:=hz he;subst hzz;simp only [go_sem,hk,ig,hgl0,hgl1,simprocAttr];dsimp only [i193,eD];simp only [go_sem,fN,GN,simprocAttr];exact ZI
theorem w59 (r:Rm) (g:FuncId) (fc:List AV) (hfc: ∀h f,k7 (Go.Ab.nv h f) fc=some ([],fc)) (hfb:ae 0 fc=true) (res:Rm×Int) (h134:bt av 134 [.fn 135 [.fp r.a 0,.fp [.fn g fc] 0]] [] 0 (jK res) [] 0):bt av 59 [.agg r.a,.fn g fc] [] 0 (jK res) [] 0:=by
 have hrb:=Rm.al 0 r;have hs:=dv (by kernel_rfl) (by simp only [ae,AV.al,hrb,hfb,az]) (iu res) h134
 have hat:=fun h n=>gl (a0:=[.fn 135 [.fp r.a 0,.fp [.fn g fc] 0]]) (v0:=jK res) h n;generalize kP [.fn 135 [.fp r.a 0,.fp [.fn g fc] 0]] (jK res)=kT at hs hat;have hv:=fun h f=>jQ h f r;have hk: ∀(h:Hp) n,ab h 0=some {cells:=r.a}->ab h 1=some {cells:=[.fn g fc]}->ew kT [.fn 135 [.p 0 0,.p 1 0]] h n=some (true,{v:=jK res,n,rd:=[0,1],md:=[(0,none),(1,none)]}):=fun h n h0 h1=>by
  have hb:=iu res;simp only [ew,bn,bQ,iL,jf,hv,hfc,h0,h1,aS,dV,hat,hb,ee,List.nil_append,cM];simp [bX.plain,vO,h0,h1,jM,cj]
 have hcx:Sound av (bZ [(134,ew kT)]):=Sound.cons hs.ng Sound.nil;have a3:r.a.length=3:=rfl;have a0:res.1.a.length=3:=rfl;have ao:aX res.1.a=true:=rfl;have ad:List.take 3 (List.drop 0 res.1.a)=res.1.a:=rfl;have hb:=Rm.al 0 res.1;obtain ⟨R,e⟩:=res;simp only [jK] at*;generalize R.a=RA at*;generalize r.a=ra at*;refine dT hcx Tryz.func59 Iw ?_
 dsimp only [i59];simp only [go_sem,hk,a3,a0,ao,ad,simprocAttr];exact Ends.au (by simp only [AV.al,ae,hb,az]) rfl
/-! Clone of members, with a live result -/
theorem amq (L:List AV):bt av 152 [.fz L 0] [] 0 .ze [] 0:=QV mo Tryz.func152 (z:=2) (bytes:=24) (zs:=[.s [],.i .i64 0]) FC L
theorem aj7 (x:Mb) (l:List Mb) (hl:l.length<=1000):bt av 152 [.fz (rows Mb.l (x::l)) (l.length+1)] [] 0 (.sg 0 0 (l.length+1)) [(0,{cells:=rows Mb.l (x::l),gr:=some 2})] 1:=
 Qq mo Tryz.func152 (z:=2) (bytes:=24) (zs:=[.s [],.i .i64 0]) FC (aT (l:=x::l) Mb.len) (fF Mb.one _) (fR 0 _) (by simp only [aE];omega)
def G3:Ct
 |[.fz L m],_,n=>(bk 2 QM m L).bind fun l=>match l with
  |[]=>some (true,{v:= .ze,n})
  |_=>some (decide (m<=1000),{v:= .sg n 0 m,n:=n+1,nw:=[(n,{cells:=L,gr:=some 2})]})
 |_,_,_=>none
theorem asH:aq av 152 G3:=fun args h n c E hc ht=>by
 unfold G3 at hc;split at hc
 ·simp only [af] at hc;obtain ⟨l,hl,he⟩:=hc;obtain ⟨rfl,rfl⟩:=bD zD hl;cases l with
  |nil=>
   cases he;exact ax.pure (by kernel_rfl) rfl rfl (amq _) _ _
  |cons x l=>
   cases he;have hl:=bO ht;simp only [List.length_cons] at hl;refine (ax.canon (n:=n) (pn:=none) [] [] (by kernel_rfl) rfl (argsL:=[.fz (rows Mb.l (x::l)) (x::l).length]) (by simp only [ae,AV.al,fR,az]) trivial (aj7 x l (by omega)) (eB _) (by simp only [ko,fR,ie];rfl)).cast ?_ ?_
   ·simp only [aL,AV.aH,jr]
   ·show ({v:= .sg (ix [] n 0) 0 (x::l).length,n:=n+1,rd:=[],md:=[],nw:=[(ix [] n 0,{cells:=aL (ix [] n) (rows Mb.l (x::l)),gr:=some 2})],pn:=none}:bX)=_;rw [jr];rfl
 ·cases hc
/-! what is valid and has no members is empty -/
theorem zE {r:Rm} (hg:bC r=true) (h0:r.ms=[]):r.sh=[]/\r.tp=[]:=by
 simp only [bC,gg,kN,aw] at hg;obtain ⟨_,⟨_,h2,_⟩,h3,_⟩:=hg;constructor
 ·cases hs:r.sh with
  |nil=>rfl
  |cons s l=>
   rw [hs,fL,aw] at h2;have:=h2.1;simp only [dX,aw,h0,kv] at this;have:=dD this.1;omega
 ·cases ht:r.tp with
  |nil=>rfl
  |cons t l=>
   rw [fH] at h3;have:=h3 0 t (by rw [ht];rfl)
   simp only [nh,aw] at this;have:=(nP this.1).1;rw [h0,kv] at this;omega
theorem fk {r:Rm} (hg:bC r=true):r.ms.length<=6/\r.sh.length<=6/\r.tp.length<=36/\(∀s∈r.sh,s.ss.length<=3/\s.rt.length<=3/\1<=s.ss.length)/\ ∀t∈r.tp,t.sw.l.length<=3:=by
 have hg0:=hg;simp only [bC,gg,kN,aw,aV] at hg;obtain ⟨h1,⟨h2,h3,_⟩,h4,_⟩:=hg;have m6:=zQ h1;refine ⟨m6,h2,EC h4 m6 h2,fun s hs=> ?_,fun t ht=> ?_⟩
 ·have:=er.1 h3 s hs;simp only [dX,aw,lU] at this;have h5:=dD this.2.1;have h6:=this.2.2.1;omega
 ·rw [fH] at h4;obtain ⟨k,hk⟩:=vT ht;have:=h4 k t hk;simp only [nh,lW,aw] at this;have h5:=this.1.2.2;split at h5
  ·simp only [aw] at h5;have:=h5.2.2.2.1;simp only [dL,aw] at this;have:=dD this.1.1;omega
  ·cases h5
theorem O8 (q:List bu):(gQ bu.l 4 q).plain=true:=(tE (f:=bu.l) bu.al bu.len q).pl
theorem XC (q:List Tp):(gQ Tp.l 22 q).plain=true:=(tE (f:=Tp.l) Tp.al Tp.len q).pl
theorem NH {x:Nat} (q:List bu):zo (nz ((gQ bu.l 4 q).bl 3)) ((gQ bu.l 4 q).bl 3++[x])=true:=by
 unfold gQ;split<;>rfl
theorem O0 {a b:aW} {r:Hp} (q:List bu):AW ((5,a)::(4,b)::((gQ bu.l 4 q).h 3++r)) (nz ((gQ bu.l 4 q).bl 3))=true:=by
 unfold gQ;split<;>rfl
theorem acO {x:Nat} (q:List Tp):zo (nz ((gQ Tp.l 22 q).bl 4)) ((gQ Tp.l 22 q).bl 4++[x])=true:=by
 unfold gQ;split<;>rfl
theorem Tw {a b:aW} {r:Hp} (q:List Tp):AW ((6,a)::(5,b)::((gQ Tp.l 22 q).h 4++r)) (nz ((gQ Tp.l 22 q).bl 4))=true:=by
 unfold gQ;split<;>rfl
noncomputable def O1:List (Nat×Ct):=[(17,l8),(62,fZ),(90,tK),(152,G3)]
theorem CC:Sound av (bZ O1):=Sound.cons G5 (Sound.cons x3 (Sound.cons s90 (Sound.cons asH Sound.nil)))
noncomputable abbrev Qu:Fx:=⟨av,bZ O1,[22,50],73,0⟩
theorem asi (r:Rm) (hr:r.is=true) (hg:bC r=false):cL av 85 [.agg r.a] [] 0 (some (eD 420)) (.bg []) [] 0:=by
 have hk: ∀(h:Hp) n,l8 [.agg r.a] h n=some (true,{v:= .i .i64 420,n}):=fun h n=>by
  simp only [l8,ey,aS,hr,hg];rfl
 have a3:r.a.length=3:=rfl;have ad:List.take 3 (List.drop 0 r.a)=r.a:=rfl;generalize r.a=ra at*;refine cL.dQ CC mo Tryz.func85 DI (by simp [i85]) (aQ ?_)
 dsimp only [i85,O1];simp only [go_sem,hk,a3,ad,fZ,simprocAttr];exact Ends.au rfl rfl
theorem atU (r:Rm) (hr:r.is=true) (hg:bC r=true) (h0:r.ms=[]):bt av 85 [.agg r.a] [] 0 (.p 0 0) [(0,{cells:=[.ze,.ns,.ns]})] 1:=by
 obtain ⟨hs0,ht0⟩:=zE hg h0;have hk: ∀(h:Hp) n,l8 [.agg r.a] h n=some (true,{v:= .i .i64 0,n}):=fun h n=>by
  simp only [l8,ey,aS,hr,hg];rfl
 obtain ⟨ms,sh,tp⟩:=r;dsimp only at h0 hs0 ht0;subst h0 hs0 ht0;have ea:(Rm.a ⟨[],[],[]⟩)=[.fz [] 0,.fz [] 0,.fz [] 0]:=rfl;have hk2: ∀(h:Hp) n,G3 [.fz [] 0] h n=some (true,{v:= .ze,n}):=fun h n=>rfl;rw [ea] at hk ⊢;refine dT CC Tryz.func85 DI ?_
 dsimp only [i85,O1];simp only [go_sem,hk,hk2,fZ,simprocAttr];refine Loop.rounds (F:=Qu) 1 CC mo ?_;dsimp only [Qu,O1];simp only [go_sem,simprocAttr];refine Loop.rounds (F:=Qu) 1 CC mo ?_;dsimp only [Qu,O1];simp only [go_sem,simprocAttr];refine Ends.R [(0,1)] (by decide) (by decide) rfl rfl ?_
 exact ⟨rfl,rfl,by decide,trivial⟩
theorem OT (mv rc:List AV) (ms:List AV) (nm:Nat) (sh:List bu) (hl:sh.length<=6) (hok: ∀s∈sh,s.ss.length<=3/\s.rt.length<=3/\1<=s.ss.length) (hrc:ae 0 rc=true) (hms:ae 0 ms=true) (hr2:rc[2]? =some (.fz mv nm)) {K:cF} {e:Env} {h:Hp} {n:Nat} {N:Nat}
 (he:na 4 [] e [(1,.p 0 0),(3,.p 2 0),(19,.fz (rows bu.l sh) sh.length),(20,.i .i64 (sh.length:Int)),(21,.i .i64 0)])
 (hh:iy 4 [] h [(2,{cells:=[.sg 1 0 N,.ns,.ns]}),(1,{cells:=ms,gr:=some 2}),(0,{cells:=rc})])
 (hK: ∀e',cV e' 1=some (.p 0 0)->cV e' 3=some (.p 2 0)->K (.exit 0) e' ((gQ bu.l 4 sh).h 3++[(2,{cells:=[.sg 1 0 N,(gQ bu.l 4 sh).v 3,.ns]}),(1,{cells:=ms,gr:=some 2}),(0,{cells:=rc})]) 4):
 Ab.Loop av [22,50] 73 0 Qr K e h n:=by
 have hsB: ∀j,ae j (rows bu.l sh)=true:=fun j=>di j sh;have hsR: ∀g,aL g (rows bu.l sh)=rows bu.l sh:=fun g=>ef g sh;have hrB: ∀j,ae j rc=true:=fun j=>aD _ hrc;have hrR: ∀g,aL g rc=rc:=fun g=>aU _ hrc;have hmB: ∀j,ae j ms=true:=fun j=>aD _ hms;have hmR: ∀g,aL g ms=ms:=fun g=>aU _ hms;have hSat: ∀(k:Nat) x,sh[k]? =some x->List.take 4 (List.drop (k*4) (rows bu.l sh))=x.l:=fun k x hk=>eo bu.len hk;have htk:sh.take sh.length=sh:=fU;refine Loop.uE (F:=Qu) CC mo (X:=Nat) (fun k=>k<=sh.length) (fun k=>sh.length-k)
  (fun k=>[(1,.p 0 0),(3,.p 2 0),(19,.fz (rows bu.l sh) sh.length),(20,.i .i64 (sh.length:Int)),(21,.i .i64 (k:Int))])
  (fun k=>(gQ bu.l 4 (sh.take k)).h 3++[(2,{cells:=[.sg 1 0 N,(gQ bu.l 4 (sh.take k)).v 3,.ns]}),(1,{cells:=ms,gr:=some 2}),(0,{cells:=rc})]) 4 0 (fun k=>k+1) [] (fun _=>[(3,6)]) (by decide) (by decide) (fun k=>by decide) (eB _) he hh (fun k hk=> ?_)
 dsimp only [Qu,O1];by_cases hlt:k<sh.length
 ·have c1:decide ((k:Int)<(sh.length:Int))=true:=ah (by omega)
  have c2:decide (0<=(k:Int)/\(k:Int)<(sh.length:Int))=true:=ah (by omega)
  have hw:IntKind.i64.wrap ((k:Int)+1)=((k+1:Nat):Int):=by rw [bS (by omega) (by omega)];omega
  obtain ⟨x,hx⟩: ∃x,sh[k]? =some x:=⟨_,aY hlt⟩;have hr:=hSat k x hx;obtain ⟨l1,l2,l3⟩:=hok x (bR hx);have htk1:sh.take (k+1)=sh.take k++[x]:=by rw [jz,hx];rfl
  have hql:(sh.take k).length<=6:=by rw [gO];omega
  rw [htk1];generalize sh.take k=q at*;have gm:decide (64*(q.length+1)<=aE)=true:=ah (by simp only [aE];omega)
  have zR:(rows bu.l q).length=q.length*4:=aT bu.len;have pk:=O8 q;have pk':=O8 (q++[x]);rw [rp] at pk' ⊢;have hsk:sh.length-(k+1)<sh.length-k:=by omega
  obtain ⟨ow,ss,rt,bl⟩:=x;dsimp only at l1 l2;simp only [bu.l] at hr pk';have hk1: ∀(h:Hp) n,tK [.fz (rows aC ss) ss.length] h n=some (true,{v:= .fz (rows aC ss) ss.length,n}):=fun h n=>by
   simp only [tK,eE,aS,ah (show 8*ss.length<=aE by simp only [aE];omega)]
  have hk2: ∀(h:Hp) n,tK [.fz (rows aC rt) rt.length] h n=some (true,{v:= .fz (rows aC rt) rt.length,n}):=fun h n=>by
   simp only [tK,eE,aS,ah (show 8*rt.length<=aE by simp only [aE];omega)]
  simp only [go_sem,c1,c2,hr,hw,hk1,hk2,gm,zR,pk,pk',hsk,hlt,AV.al,ae,aG,aW.aH,aL,AV.aH,hsB,hsR,hrB,hrR,hmB,hmR,iB,iR,bu.l,fu,simprocAttr];rw [NH,O0];exact ⟨rfl,hlt⟩
 ·have c1:decide ((k:Int)<(sh.length:Int))=false:=cN (by omega)
  obtain rfl:k=sh.length:=by omega
  rw [htk];simp only [go_sem,c1,simprocAttr];exact hK _ rfl rfl
theorem Pq (mv rc:List AV) (ms:List AV) (S:Go.Ab.Sh) (hS:S.plain=true) (nm:Nat) (tp:List Tp) (hl:tp.length<=36) (hok: ∀t∈tp,t.sw.l.length<=3) (hrc:ae 0 rc=true) (hms:ae 0 ms=true) {K:cF} {e:Env} {h:Hp} {n:Nat} {N:Nat}
 (he:na 5 [] e [(3,.p 2 0),(47,.fz (rows Tp.l tp) tp.length),(48,.i .i64 (tp.length:Int)),(49,.i .i64 0)])
 (hh:iy 5 [] h (S.h 3++[(2,{cells:=[.sg 1 0 N,S.v 3,.ns]}),(1,{cells:=ms,gr:=some 2}),(0,{cells:=rc})]))
 (hK: ∀e',cV e' 3=some (.p 2 0)->K (.exit 2) e' ((gQ Tp.l 22 tp).h 4++(S.h 3++[(2,{cells:=[.sg 1 0 N,S.v 3,(gQ Tp.l 22 tp).v 4]}),(1,{cells:=ms,gr:=some 2}),(0,{cells:=rc})])) 5):
 Ab.Loop av [22,50] 73 0 IA K e h n:=by
 have hsB: ∀j,ae j (rows Tp.l tp)=true:=fun j=>ff j tp;have hsR: ∀g,aL g (rows Tp.l tp)=rows Tp.l tp:=fun g=>je g tp;have hrB: ∀j,ae j rc=true:=fun j=>aD _ hrc;have hrR: ∀g,aL g rc=rc:=fun g=>aU _ hrc;have hmB: ∀j,ae j ms=true:=fun j=>aD _ hms;have hmR: ∀g,aL g ms=ms:=fun g=>aU _ hms;have hSat: ∀(k:Nat) x,tp[k]? =some x->List.take 22 (List.drop (k*22) (rows Tp.l tp))=x.l:=fun k x hk=>eo Tp.len hk;have htk:tp.take tp.length=tp:=fU;refine Loop.uE (F:=Qu) CC mo (X:=Nat) (fun k=>k<=tp.length) (fun k=>tp.length-k)
  (fun k=>[(3,.p 2 0),(47,.fz (rows Tp.l tp) tp.length),(48,.i .i64 (tp.length:Int)),(49,.i .i64 (k:Int))])
  (fun k=>(gQ Tp.l 22 (tp.take k)).h 4++(S.h 3++[(2,{cells:=[.sg 1 0 N,S.v 3,(gQ Tp.l 22 (tp.take k)).v 4]}),(1,{cells:=ms,gr:=some 2}),(0,{cells:=rc})])) 5 0 (fun k=>k+1) [] (fun _=>[(4,7)]) (by decide) (by decide) (fun k=>by decide) (eB _) he hh (fun k hk=> ?_)
 dsimp only [Qu,O1];by_cases hlt:k<tp.length
 ·have c1:decide ((k:Int)<(tp.length:Int))=true:=ah (by omega)
  have c2:decide (0<=(k:Int)/\(k:Int)<(tp.length:Int))=true:=ah (by omega)
  have hw:IntKind.i64.wrap ((k:Int)+1)=((k+1:Nat):Int):=by rw [bS (by omega) (by omega)];omega
  obtain ⟨x,hx⟩: ∃x,tp[k]? =some x:=⟨_,aY hlt⟩;have hr:=hSat k x hx;have l1:=hok x (bR hx);have htk1:tp.take (k+1)=tp.take k++[x]:=by rw [jz,hx];rfl
  have hql:(tp.take k).length<=36:=by rw [gO];omega
  rw [htk1];generalize tp.take k=q at*;have gm:decide (192*(q.length+1)<=aE)=true:=ah (by simp only [aE];omega)
  have zR:(rows Tp.l q).length=q.length*22:=aT Tp.len;have pk:=XC q;have pk':=XC (q++[x]);rw [rp] at pk' ⊢;have hsk:tp.length-(k+1)<tp.length-k:=by omega
  have x22:x.l.length=22:=rfl;have xo:aX x.l=true:=rfl;have xd:List.take 22 (List.drop 0 x.l)=x.l:=rfl;have x4:x.l[4]? =some (.fz (rows aC x.sw.l) x.sw.l.length):=rfl;have xs:List.take 4 x.l++[.fz (rows aC x.sw.l) x.sw.l.length]++List.drop (4+1) x.l=x.l:=rfl;have xb: ∀j,ae j x.l=true:=fun j=>aD _ (Tp.al x);have xr: ∀g,aL g x.l=x.l:=fun g=>aU _ (Tp.al x);have hk1: ∀(h:Hp) n,tK [.fz (rows aC x.sw.l) x.sw.l.length] h n=some (true,{v:= .fz (rows aC x.sw.l) x.sw.l.length,n}):=fun h n=>by
   simp only [tK,eE,aS,ah (show 8*x.sw.l.length<=aE by simp only [aE];omega)]
  generalize x.sw.l=sl at*;generalize x.l=XL at*;simp only [go_sem,c1,c2,hr,hw,hk1,gm,zR,pk,pk',hsk,hlt,x22,xo,xd,x4,xs,xb,xr,AV.al,ae,aG,aW.aH,aL,AV.aH,hsB,hsR,hrB,hrR,hmB,hmR,hS,iB,iR,fu,simprocAttr];rw [acO,Tw];exact ⟨rfl,hlt⟩
 ·have c1:decide ((k:Int)<(tp.length:Int))=false:=cN (by omega)
  obtain rfl:k=tp.length:=by omega
  rw [htk];simp only [go_sem,c1,simprocAttr];exact hK _ rfl
abbrev Ja (r:Rm) (a b c:Nat):aW:={cells:=[.sg a 0 r.ms.length,(gQ bu.l 4 r.sh).v b,(gQ Tp.l 22 r.tp).v c]}
abbrev ej (r:Rm):aW:={cells:=rows Mb.l r.ms,gr:=some 2}
theorem w85 (r:Rm) (hr:r.is=true) (hg:bC r=true) (h0:r.ms≠[]):bt av 85 [.agg r.a] [] 0 (.p 0 0) ((0,Ja r 1 2 3)::(1,ej r)::((gQ bu.l 4 r.sh).h 2++(gQ Tp.l 22 r.tp).h 3)) 4:=by
 obtain ⟨m6,s6,t36,hso,hto⟩:=fk hg;have hk: ∀(h:Hp) n,l8 [.agg r.a] h n=some (true,{v:= .i .i64 0,n}):=fun h n=>by
  simp only [l8,ey,aS,hr,hg];rfl
 have a3:r.a.length=3:=rfl;have ad:List.take 3 (List.drop 0 r.a)=r.a:=rfl;have r0:r.a[0]? =some (.fz (rows Mb.l r.ms) r.ms.length):=rfl;have r1:r.a[1]? =some (.fz (rows bu.l r.sh) r.sh.length):=rfl;have r2:r.a[2]? =some (.fz (rows Tp.l r.tp) r.tp.length):=rfl;have hrb:=Rm.al 0 r;have hkc: ∀(h:Hp) n,G3 [.fz (rows Mb.l r.ms) r.ms.length] h n=some (true,{v:= .sg n 0 r.ms.length,n:=n+1,nw:=[(n,{cells:=rows Mb.l r.ms,gr:=some 2})]}):=fun h n=>by
  have hd:decide (r.ms.length<=1000)=true:=ah (by omega)
  simp only [G3,EA,aS];cases hm:r.ms with
  |nil=>exact absurd hm h0
  |cons x l=>rw [hm] at hd;simp only [hd]
 have hl1:= @OT (rows Tp.l r.tp) r.a (rows Mb.l r.ms) r.tp.length r.sh s6 hso hrb (fR 0 r.ms) r2;have hl2:= @Pq (rows Tp.l r.tp) r.a (rows Mb.l r.ms) (gQ bu.l 4 r.sh) (O8 r.sh) r.tp.length r.tp t36 hto hrb (fR 0 r.ms);have pS:=O8 r.sh;have pT:=XC r.tp;have hsB: ∀j,ae j (rows bu.l r.sh)=true:=fun j=>di j r.sh;have hsR: ∀g,aL g (rows bu.l r.sh)=rows bu.l r.sh:=fun g=>ef g r.sh;have htB: ∀j,ae j (rows Tp.l r.tp)=true:=fun j=>ff j r.tp;have htR: ∀g,aL g (rows Tp.l r.tp)=rows Tp.l r.tp:=fun g=>je g r.tp;have hmB: ∀j,ae j (rows Mb.l r.ms)=true:=fun j=>fR j r.ms;have hmR: ∀g,aL g (rows Mb.l r.ms)=rows Mb.l r.ms:=fun g=>jr g r.ms;have hrB: ∀j,ae j r.a=true:=fun j=>Rm.al j r;have hrR: ∀g,aL g r.a=r.a:=fun g=>aU _ hrb;simp only [Ja,ej];generalize r.a=RA at*;generalize gQ bu.l 4 r.sh=gS at*;generalize gQ Tp.l 22 r.tp=gT at*;refine dT CC Tryz.func85 DI ?_
 dsimp only [i85,O1];simp only [go_sem,hk,a3,ad,fZ,r0,r1,r2,hkc,simprocAttr];refine hl1 (N:=r.ms.length) ?_ ?_ (fun e' he1 he3=> ?_)
 ·simp only [go_sem,AV.al,ae,aG,AV.aH,aL,hsB,hsR,hrB,hrR,simprocAttr]
 ·simp only [go_sem,AV.al,ae,aG,aW.aH,AV.aH,aL,hmB,hmR,hrB,hrR,simprocAttr]
 simp only [go_sem,he1,he3,r2,pS,simprocAttr];refine hl2 (N:=r.ms.length) ?_ ?_ (fun e2 he3=> ?_)
 ·simp only [go_sem,AV.al,ae,aG,AV.aH,aL,htB,htR,he3,simprocAttr]
 ·simp only [go_sem,pS,AV.al,ae,aG,aW.aH,AV.aH,aL,hmB,hmR,hrB,hrR,simprocAttr]
 simp only [go_sem,he3,pS,pT,simprocAttr];refine Ends.R [(0,2),(2,3),(3,4)] (by decide) (by decide) ?_ ?_ ?_
 ·rfl
 ·rfl
 ·simp only [go_sem,pS,pT,AV.al,ae,aG,aW.aH,AV.aH,aL,hmB,hmR,hsB,hsR,htB,htR,simprocAttr]
theorem re {α:Type} (f:α->List AV) (z:Nat) (l:List α):gQ f z l= .nil\/gQ f z l= .sg {cells:=rows f l,gr:=some z} 0 l.length:=by
 unfold gQ;split
 ·exact .inl rfl
 ·exact .inr rfl
theorem bw.refl {n0 n:Nat} {v:AV} {h:Hp}:bw n0 v h n v h n:=fun D φ w D0 φ0 H0 w0 u hD0 hD hv hH hS=>⟨D,φ,hD,hv,hS⟩
theorem bw.trans {n0 n n1 n2:Nat} {v v1 v2:AV} {h h1 h2:Hp} (a:bw n0 v h n v1 h1 n1) (b:bw n0 v1 h1 n1 v2 h2 n2):bw n0 v h n v2 h2 n2:=fun D φ w D0 φ0 H0 w0 u hD0 hD hv hH hS=>by
 obtain ⟨D',φ',g1,g2,g3⟩:=a D φ w D0 φ0 H0 w0 u hD0 hD hv hH hS;exact b D' φ' w D0 φ0 H0 w0 u hD0 g1 g2 g3.hr g3
def mV (r:Rm) (lm:Bool) (a:Nat):AV:=bif lm then (match r.ms with|[]=> .ze|_=> .sg a 0 r.ms.length) else .fz (rows Mb.l r.ms) r.ms.length
def sV (r:Rm) (ls:Bool) (b:Nat):AV:=bif ls then (gQ bu.l 4 r.sh).v b else .fz (rows bu.l r.sh) r.sh.length
def tV (r:Rm) (lt:Bool) (c:Nat):AV:=bif lt then (gQ Tp.l 22 r.tp).v c else .fz (rows Tp.l r.tp) r.tp.length
def mH (r:Rm) (lm:Bool) (a:Nat):Hp:=bif lm then (match r.ms with|[]=>[]|_=>[(a,ej r)]) else []
def sH (r:Rm) (ls:Bool) (b:Nat):Hp:=bif ls then (gQ bu.l 4 r.sh).h b else []
def tH (r:Rm) (lt:Bool) (c:Nat):Hp:=bif lt then (gQ Tp.l 22 r.tp).h c else []
abbrev l4 (r:Rm) (lm ls lt:Bool) (a b c:Nat):aW:={cells:=[mV r lm a,sV r ls b,tV r lt c]}
def fP (r:Rm) (lm ls lt:Bool) (n:Nat):Hp:=(n,l4 r lm ls lt (n+1) (n+2) (n+3))::(mH r lm (n+1)++(sH r ls (n+2)++tH r lt (n+3)))
theorem ahU (r:Rm) (hr:r.is=true) (hg:bC r=true) (lm ls lt:Bool):bt av 85 [.agg r.a] [] 0 (.p 0 0) (fP r lm ls lt 0) 4:=by
 by_cases h0:r.ms=[]
 ·obtain ⟨hs0,ht0⟩:=zE hg h0;have hw:=atU r hr hg h0;obtain ⟨ms,sh,tp⟩:=r;dsimp only at h0 hs0 ht0;subst h0 hs0 ht0;refine cL.cov hw ?_;have e: ∀(D:Nat->Prop) (φ:bU) (u:Value),True:=fun _ _ _=>trivial;intro D φ w D0 φ0 H0 w0 u hD0 hD hv hH hS;have key:bw 0 (.p 0 0) [(0,{cells:=[.ze,.ns,.ns]})] 1 (.p 0 0) (fP ⟨[],[],[]⟩ lm ls lt 0) 1:=by
   refine bw.wkH (Go.Ab.nL.refl _) (h':=fP ⟨[],[],[]⟩ lm ls lt 0) ?_ bw.refl;cases lm<;>cases ls<;>cases lt<;>exact ⟨⟨_,rfl,rfl,rfl,rfl,by first|exact Go.Ab.nL.ze|exact Go.Ab.nL.refl _,by first|exact Go.Ab.nL.ns|exact Go.Ab.nL.refl _,by first|exact Go.Ab.nL.ns|exact Go.Ab.nL.refl _,trivial⟩,trivial⟩
  obtain ⟨D',φ',g1,g2,g3⟩:=key D φ w D0 φ0 H0 w0 u hD0 hD hv hH hS;exact ⟨D',φ',fun b hb=>by have:=g1 b hb;omega,g2,g3⟩
 ·have hw:=w85 r hr hg h0;have em: ∀a,mV r true a= .sg a 0 r.ms.length:=fun a=>by
   unfold mV;split
   ·rename_i h;exact absurd h h0
   ·rfl
  have emh: ∀a,mH r true a=[(a,ej r)]:=fun a=>by
   unfold mH;split
   ·rename_i h;exact absurd h h0
   ·rfl
  have start:fP r true true true 0=(0,Ja r 1 2 3)::(1,ej r)::((gQ bu.l 4 r.sh).h 2++(gQ Tp.l 22 r.tp).h 3):=by
   simp only [fP,l4,em,emh,sV,tV,sH,tH,cond_true];rfl
  rw [<-start] at hw;refine cL.cov hw ?_;have st: ∀(ls:Bool),bw 0 (.p 0 0) (fP r true ls true 0) 4 (.p 0 0) (fP r true ls lt 0) 4:=fun ls=>by
   cases lt;rotate_left
   ·exact bw.refl
   refine bw.Zt (f:=Tp.l) (z:=22) (l:=r.tp) (b:=3) (v':= .p 0 0) (h':=fP r true ls false 0) ?_ dj.refl ?_ bw.refl
   ·cases ls<;>simp [fP,emh,sH,tH,pA,r8,py,sN]
   ·cases ls
    ·simp only [fP,l4,em,emh,sV,tV,sH,tH,cond_true,cond_false];exact ⟨⟨by decide,_,rfl,rfl,rfl,rfl,dj.refl,dj.refl,dj.hit,trivial⟩,⟨by decide,_,rfl,rfl,rfl,rfl,gE.refl⟩,trivial⟩
    ·rcases re bu.l 4 r.sh with e1|e1
     ·simp only [fP,l4,em,emh,sV,tV,sH,tH,cond_true,cond_false,e1];exact ⟨⟨by decide,_,rfl,rfl,rfl,rfl,dj.refl,dj.refl,dj.hit,trivial⟩,⟨by decide,_,rfl,rfl,rfl,rfl,gE.refl⟩,trivial⟩
     ·simp only [fP,l4,em,emh,sV,tV,sH,tH,cond_true,cond_false,e1];exact ⟨⟨by decide,_,rfl,rfl,rfl,rfl,dj.refl,dj.refl,dj.hit,trivial⟩,⟨by decide,_,rfl,rfl,rfl,rfl,gE.refl⟩,⟨by decide,_,rfl,rfl,rfl,rfl,gE.refl⟩,trivial⟩
  have ss:bw 0 (.p 0 0) (fP r true true true 0) 4 (.p 0 0) (fP r true ls true 0) 4:=by
   cases ls;rotate_left
   ·exact bw.refl
   refine bw.Zt (f:=bu.l) (z:=4) (l:=r.sh) (b:=2) (v':= .p 0 0) (h':=fP r true false true 0) ?_ dj.refl ?_ bw.refl
   ·simp [fP,emh,sH,tH,pA,r8,py,sN]
   ·rcases re Tp.l 22 r.tp with e1|e1
    ·simp only [fP,l4,em,emh,sV,tV,sH,tH,cond_true,cond_false,e1];exact ⟨⟨by decide,_,rfl,rfl,rfl,rfl,dj.refl,dj.hit,dj.refl,trivial⟩,⟨by decide,_,rfl,rfl,rfl,rfl,gE.refl⟩,trivial⟩
    ·simp only [fP,l4,em,emh,sV,tV,sH,tH,cond_true,cond_false,e1];refine ⟨⟨by decide,_,rfl,rfl,rfl,rfl,dj.refl,dj.hit,dj.refl,trivial⟩,⟨by decide,_,rfl,rfl,rfl,rfl,gE.refl⟩,⟨by decide,_,?_,rfl,rfl,rfl,gE.refl⟩,trivial⟩
     rcases re bu.l 4 r.sh with e2|e2<;>rw [e2]<;>rfl
  refine bw.trans ss (bw.trans (st ls) ?_);cases lm;rotate_left
  ·exact bw.refl
  refine bw.rM (b:=1) (x:= .sg 1 0 r.ms.length) (k:=ej r) (o:=0) (m:=r.ms.length) (cs:=rows Mb.l r.ms) (v':= .p 0 0) (h':=fP r false ls lt 0) ?_ rfl (.inr rfl) (.inl rfl) dj.refl ?_ bw.refl
  ·simp only [fP,emh,ab,ee];rfl
  ·rcases re bu.l 4 r.sh with e1|e1<;>rcases re Tp.l 22 r.tp with e2|e2<;>cases ls<;>cases lt<;>
    simp only [fP,l4,em,emh,mV,mH,sV,tV,sH,tH,cond_true,cond_false,e1,e2]<;>
    first
     |exact ⟨⟨by decide,_,rfl,rfl,rfl,rfl,dj.hit,dj.refl,dj.refl,trivial⟩,trivial⟩
     |exact ⟨⟨by decide,_,rfl,rfl,rfl,rfl,dj.hit,dj.refl,dj.refl,trivial⟩,⟨by decide,_,rfl,rfl,rfl,rfl,gE.refl⟩,trivial⟩
     |exact ⟨⟨by decide,_,rfl,rfl,rfl,rfl,dj.hit,dj.refl,dj.refl,trivial⟩,⟨by decide,_,rfl,rfl,rfl,rfl,gE.refl⟩,⟨by decide,_,rfl,rfl,rfl,rfl,gE.refl⟩,trivial⟩
def fh (lm ls lt:Bool):Ct
 |[.agg c],_,n=>(qy c).bind fun r=>some (r.is,bif bC r then {v:= .p n 0,n:=n+4,nw:=fP r lm ls lt n} else {v:= .bg [],n,pn:=some (eD 420)})
 |_,_,_=>none
theorem DP (lm ls lt:Bool):aq av 85 (fh lm ls lt):=fun args h n c E hc ht=>by
 unfold fh at hc;split at hc
 ·simp only [af] at hc;obtain ⟨r,hr,he⟩:=hc;simp only [aP,bq] at he;obtain ⟨rfl,rfl⟩:=he;rw [eh hr];have hab:ae 0 [AV.agg r.a]=true:=by simp only [ae,AV.al,Rm.al,az]
  cases hg:bC r
  ·exact ax.yK (by kernel_rfl) hab rfl (asi r ht hg) _ _
  ·simp only [cond_true];have hm:=fR 4 r.ms;have hs:=di 4 r.sh;have htp:=ff 4 r.tp;have rm:=fun g=>jr g r.ms;have rs:=fun g=>ef g r.sh;have rt:=fun g=>je g r.tp;have hfx:aL (nth []) [AV.agg r.a]=[AV.agg r.a]:=aU _ hab;have hmv:(∃x,r.ms=x):=⟨_,rfl⟩;refine (ax.canon (n:=n) (pn:=none) [] [] (by kernel_rfl) rfl (argsL:=[.agg r.a]) hab trivial (ahU r ht hg lm ls lt) (eB _) ?_).cast hfx ?_
   ·rcases re bu.l 4 r.sh with e1|e1<;>rcases re Tp.l 22 r.tp with e2|e2<;>cases lm<;>cases ls<;>cases lt<;>cases hms:r.ms<;>(try rw [hms] at hm)<;>
     simp [fP,l4,ej,mV,mH,sV,tV,sH,tH,hms,e1,e2,ko,ae,AV.al,hm,hs,htp,Go.Ab.Sh.v,Go.Ab.Sh.h,aG,dy]
   ·rcases re bu.l 4 r.sh with e1|e1<;>rcases re Tp.l 22 r.tp with e2|e2<;>cases lm<;>cases ls<;>cases lt<;>cases hms:r.ms<;>(try rw [hms] at rm)<;>
     simp [fP,l4,ej,mV,mH,sV,tV,sH,tH,hms,e1,e2,lK,fE,aW.aH,aL,AV.aH,rm,rs,rt,Go.Ab.Sh.v,Go.Ab.Sh.h,ix,aG]
 ·cases hc
theorem adS (h:Hp) (f:Nat) (l:List Mb):k7 (Go.Ab.nv h f) (rows Mb.l l)=some ([],rows Mb.l l):=oJ (fun a=>by simp only [Mb.l,bn,bQ,DN,jN,aS,List.nil_append]) l
theorem Qo {h:Hp} {a:Nat} {l:List Mb} (f:Nat) (ha:ab h a=some {cells:=rows Mb.l l,gr:=some 2}):Go.Ab.nv h (f+1) (.sg a 0 l.length)=some ([a],.fz (rows Mb.l l) l.length):=by
 have zR:(rows Mb.l l).length=l.length*2:=aT Mb.len;have e:aA (rows Mb.l l) 0 (l.length*2)=rows Mb.l l:=by rw [aA,fy,<-zR,fU]
 simp only [HF,ha,aS,dV,e,adS]
def xf (r:Rm) (s:List UInt8):Int:=if bC r then (if jc s&&decide (AB r.ms s<0) then (if r.ms.length<6 then 0 else 3) else 2) else 420
def iM (r:Rm) (s:List UInt8):Rm×Int:=(if xf r s=0 then ⟨r.ms++[⟨s,0⟩],r.sh,r.tp⟩ else tn,xf r s)
def nI (ms:List Mb) (s:List UInt8):Int:=if jc s&&decide (AB ms s<0) then (if ms.length<6 then 0 else 3) else 2
def T93:List (Nat×Ct):=[(62,fZ),(94,F9),(95,bj Ho)]
theorem O3:Sound av (bZ T93):=Sound.cons x3 (Sound.cons s94 (Sound.cons s95.nv Sound.nil))
theorem ara (r:Rm) (s:List UInt8) (h6:r.ms.length<=6) (he:nI r.ms s≠0):cL av 93 [.p 0 0,.fp [.s s] 0] [(0,{cells:=[.sg 1 0 r.ms.length,.fz (rows bu.l r.sh) r.sh.length,.fz (rows Tp.l r.tp) r.tp.length]}),(1,ej r)] 2 (some (eD (nI r.ms s))) (.bg []) [] 2:=by
 have hk: ∀(h:Hp) n,ab h 0=some {cells:=[.sg 1 0 r.ms.length,.fz (rows bu.l r.sh) r.sh.length,.fz (rows Tp.l r.tp) r.tp.length]}->ab h 1=some (ej r)->bj Ho [.p 0 0,.s s] h n=some (true,{v:= .i .i64 (AB r.ms s),n,rd:=[0,1]}):=fun h n h0 h1=>by
  have hv:=Qo (h:=h) (a:=1) (l:=r.ms) 4 h1;have hf:([AV.fz (rows Mb.l r.ms) r.ms.length,.fz (rows bu.l r.sh) r.sh.length,.fz (rows Tp.l r.tp) r.tp.length]:List AV)=r.a:=rfl;simp only [bj,bn,bQ,iL,DN,hv,dz (di 0 r.sh),dz (ff 0 r.tp),h0,aS,dV,cM,List.nil_append,hf,Ho,ey,ah (show r.ms.length<=9223372036854775807 by omega)]
  rfl
 have n1:decide (((r.ms.length:Nat):Int)<6)=decide (r.ms.length<6):=by rw [iG];simp;omega
 obtain ⟨ms,sh,tp⟩:=r;have hR:nI ms s=if jc s&&decide (AB ms s<0) then (if ms.length<6 then 0 else 3) else 2:=rfl
 dsimp only at*;generalize nI ms s=R at*;refine cL.dQ O3 mo Tryz.func93 zA (by simp [i93]) (aQ ?_)
 dsimp only [i93,T93];cases c1:jc s
 ·rw [c1] at hR;have hR:R=2:=hR;subst hR;simp only [go_sem,F9,c1,fZ,simprocAttr];exact Ends.au rfl rfl
 cases c2:decide (AB ms s<0)
 ·rw [c1,c2] at hR;have hR:R=2:=hR;subst hR;simp only [go_sem,F9,c1,hk,c2,fZ,simprocAttr];exact Ends.au rfl rfl
 ·rw [c1,c2] at hR;simp only [az,cu] at hR;have c3:decide (ms.length<6)=false:=by
   rw [decide_eq_false_iff_not];intro h;rw [aM h] at hR;exact he hR
  rw [aN (ob c3)] at hR;subst hR;simp only [go_sem,F9,c1,hk,c2,n1,c3,fZ,simprocAttr];exact Ends.au rfl rfl
theorem w93 (r:Rm) (s:List UInt8) (h6:r.ms.length<=6) (he:nI r.ms s=0):cL av 93 [.p 0 0,.fp [.s s] 0] [(0,{cells:=[.sg 1 0 r.ms.length,.fz (rows bu.l r.sh) r.sh.length,.fz (rows Tp.l r.tp) r.tp.length]}),(1,ej r)] 2 none (.bg [])
 [(0,{cells:=[.sg 2 0 (r.ms.length+1),.fz (rows bu.l r.sh) r.sh.length,.fz (rows Tp.l r.tp) r.tp.length]}),(2,{cells:=rows Mb.l (r.ms++[⟨s,0⟩]),gr:=some 2})] 3:=by
 have hk: ∀(h:Hp) n,ab h 0=some {cells:=[.sg 1 0 r.ms.length,.fz (rows bu.l r.sh) r.sh.length,.fz (rows Tp.l r.tp) r.tp.length]}->ab h 1=some (ej r)->bj Ho [.p 0 0,.s s] h n=some (true,{v:= .i .i64 (AB r.ms s),n,rd:=[0,1]}):=fun h n h0 h1=>by
  have hv:=Qo (h:=h) (a:=1) (l:=r.ms) 4 h1;have hf:([AV.fz (rows Mb.l r.ms) r.ms.length,.fz (rows bu.l r.sh) r.sh.length,.fz (rows Tp.l r.tp) r.tp.length]:List AV)=r.a:=rfl;simp only [bj,bn,bQ,iL,DN,hv,dz (di 0 r.sh),dz (ff 0 r.tp),h0,aS,dV,cM,List.nil_append,hf,Ho,ey,ah (show r.ms.length<=9223372036854775807 by omega)]
  rfl
 have n1:decide (((r.ms.length:Nat):Int)<6)=decide (r.ms.length<6):=by rw [iG];simp;omega
 have hsB:=fun j=>di j r.sh;have htB:=fun j=>ff j r.tp;have hsR:=fun g=>ef g r.sh;have htR:=fun g=>je g r.tp;have zR:(rows Mb.l r.ms).length=r.ms.length*2:=aT Mb.len;have ha:rows Mb.l (r.ms++[⟨s,0⟩])=rows Mb.l r.ms++[.s s,.i .i64 0]:=by rw [df];rfl
 have hmB:=fun j=>fR j r.ms;have hmR:=fun g=>jr g r.ms;have gm:decide (24*(r.ms.length+1)<=aE)=true:=ah (by simp only [aE];omega)
 obtain ⟨ms,sh,tp⟩:=r;dsimp only at*;have h3:jc s=true/\decide (AB ms s<0)=true/\decide (ms.length<6)=true:=by
  unfold nI at he;split at he
  ·rename_i h;rw [aw] at h;split at he
   ·rename_i h2;exact ⟨h.1,h.2,ah h2⟩
   ·cases he
  ·cases he
 obtain ⟨c1,c2,c3⟩:=h3;rw [ha];refine cL.dQ O3 mo Tryz.func93 zA (by simp [i93]) (aQ ?_)
 dsimp only [i93,T93];simp only [go_sem,F9,c1,hk,c2,n1,c3,fZ,gm,zR,simprocAttr];refine Ends.R [(2,3)] (by decide) (by decide) rfl rfl ?_
 have hab: ∀j,ae j (rows Mb.l ms++[.s s,.i .i64 0])=true:=fun j=>by rw [<-ha];exact fR j _
 have har: ∀g,aL g (rows Mb.l ms++[.s s,.i .i64 0])=rows Mb.l ms++[.s s,.i .i64 0]:=fun g=>by rw [<-ha];exact jr g _
 simp only [go_sem,AV.al,ae,aG,aW.aH,AV.aH,aL,hab,har,hsB,hsR,htB,htR,simprocAttr]
theorem agn (s:List UInt8) (he:jc s=false):cL av 93 [.p 0 0,.fp [.s s] 0] [(0,{cells:=[.ze,.fz [] 0,.fz [] 0]})] 1 (some (eD 2)) (.bg []) [] 1:=by
 refine cL.dQ O3 mo Tryz.func93 zA (by simp [i93]) (aQ ?_)
 dsimp only [i93,T93];simp only [go_sem,F9,he,fZ,simprocAttr];exact Ends.au rfl rfl
theorem atk (s:List UInt8) (he:jc s=true):cL av 93 [.p 0 0,.fp [.s s] 0] [(0,{cells:=[.ze,.fz [] 0,.fz [] 0]})] 1 none (.bg [])
 [(0,{cells:=[.sg 1 0 1,.fz [] 0,.fz [] 0]}),(1,{cells:=rows Mb.l [⟨s,0⟩],gr:=some 2})] 2:=by
 have hk: ∀(h:Hp) n,ab h 0=some {cells:=[.ze,.fz [] 0,.fz [] 0]}->bj Ho [.p 0 0,.s s] h n=some (true,{v:= .i .i64 (-1),n,rd:=[0]}):=fun h n h0=>by
  simp only [bj,bn,bQ,iL,DN,agh,dz (show ae 0 []=true from rfl),h0,aS,dV,cM,List.nil_append]
  rfl
 have ha:rows Mb.l [⟨s,0⟩]=[.s s,.i .i64 0]:=rfl;rw [ha];refine cL.dQ O3 mo Tryz.func93 zA (by simp [i93]) (aQ ?_)
 dsimp only [i93,T93];have gm:decide (24<=aE)=true:=rfl;simp only [go_sem,F9,he,fZ,hk,gm,simprocAttr];refine Ends.R [(1,2)] (by decide) (by decide) rfl rfl ?_
 simp only [go_sem,AV.al,ae,aG,aW.aH,AV.aH,aL,simprocAttr]
noncomputable def wQ (b:Ct) (g:FuncId) (k:Ct):List (Nat×Ct):=[(85,b),(g,k)]
theorem qf {lm ls lt:Bool} {g:FuncId} {k:Ct} (hk:aq av g k):Sound av (bZ (wQ (fh lm ls lt) g k)):=Sound.cons (DP lm ls lt) (Sound.cons hk Sound.nil)
theorem ajS (r:Rm) (hr:r.is=true) (hg:bC r=false) (g:FuncId) (fc:List AV):cL av 135 [.fp r.a 0,.fp [.fn g fc] 0] [] 0 (some (eD 420)) (.bg []) [] 0:=by
 have hcx:Sound av (bZ [(85,fh true true true)]):=Sound.cons (DP true true true) Sound.nil;have hk: ∀(h:Hp) n,fh true true true [.agg r.a] h n=some (true,{v:= .bg [],n,pn:=some (eD 420)}):=fun h n=>by
  simp only [fh,ey,aS,hr,hg];rfl
 have a3:r.a.length=3:=rfl;have ad:List.take 3 (List.drop 0 r.a)=r.a:=rfl;generalize r.a=ra at*;generalize fh true true true=kb at*;refine cL.dQ hcx mo Tryz.func135 fQ (by simp [i135]) (aQ ?_)
 dsimp only [i135];simp only [go_sem,hk,a3,ad,simprocAttr];exact Ends.au rfl rfl
theorem alr (r:Rm) (hr:r.is=true) (hg:bC r=true) (s:List UInt8) (hm:r.ms≠[]) (he:nI r.ms s=0):bt av 135 [.fp r.a 0,.fp [.fn 93 [.fp [.s s] 0]] 0] [] 0 (.agg (iM r s).1.a) [] 0:=by
 have hl:=fk hg;have hB:=fR 3 (r.ms++[⟨s,0⟩]);have hB2:=fR 2 r.ms;have hsB:=fun j=>di j r.sh;have htB:=fun j=>ff j r.tp;have hsR:=fun g=>ef g r.sh;have htR:=fun g=>je g r.tp;have hmR:=fun g=>jr g (r.ms++[⟨s,0⟩]);have hmR2:=fun g=>jr g r.ms;have hs:=bY (R:=[1,2]) (ks:=[{cells:=[.sg 1 0 r.ms.length,.fz (rows bu.l r.sh) r.sh.length,.fz (rows Tp.l r.tp) r.tp.length]},ej r]) (by kernel_rfl) (by decide) rfl (w93 r s hl.1 he) (by decide) (by simp [ko,dS,hB,hsB,htB,ae,AV.al,dy,ab,aG])
 have hat: ∀(h:Hp) n,ab h 1=some {cells:=[.sg 2 0 r.ms.length,.fz (rows bu.l r.sh) r.sh.length,.fz (rows Tp.l r.tp) r.tp.length]}->ab h 2=some (ej r)->kH [1,2] [{cells:=[.sg 1 0 r.ms.length,.fz (rows bu.l r.sh) r.sh.length,.fz (rows Tp.l r.tp) r.tp.length]},ej r] [.p 0 0,.fp [.s s] 0] (.bg []) [(0,{cells:=[.sg 2 0 (r.ms.length+1),.fz (rows bu.l r.sh) r.sh.length,.fz (rows Tp.l r.tp) r.tp.length]}),(2,{cells:=rows Mb.l (r.ms++[⟨s,0⟩]),gr:=some 2})] 3 none [.p 1 0,.fp [.s s] 0] h n=some (true,{v:= .bg [],n:=n+1,rd:=[1,2],md:=[(1,some {cells:=[.sg n 0 (r.ms.length+1),.fz (rows bu.l r.sh) r.sh.length,.fz (rows Tp.l r.tp) r.tp.length]}),(2,none)],nw:=[(n,{cells:=rows Mb.l (r.ms++[⟨s,0⟩]),gr:=some 2})]}):=fun h n h1 h2=>by
  refine dt (h:=h) (n:=n) rfl ⟨⟨?_,?_⟩,⟨?_,?_⟩,trivial⟩ ?_
  ·rw [h1];simp [aW.aH,aL,AV.aH,nth,hsR,htR]
  ·simp [ae,AV.al,hsB,htB,aG]
  ·rw [h2];simp [aW.aH,ej,hmR2]
  ·exact hB2
  ·simp [lK,fE,aW.aH,aL,AV.aH,ix,nth,ab,hsR,htR,hmR,aG,cj]
 generalize kH [1,2] _ _ _ _ _ _=kT at hs hat;have hk: ∀(h:Hp) n,fh true false false [.agg r.a] h n=some (true,{v:= .p n 0,n:=n+4,nw:=[(n,{cells:=[.sg (n+1) 0 r.ms.length,.fz (rows bu.l r.sh) r.sh.length,.fz (rows Tp.l r.tp) r.tp.length]}),(n+1,ej r)]}):=fun h n=>by
  simp only [fh,ey,aS,hr,hg,cond_true];unfold fP l4 mV mH sV tV sH tH;split
  ·rename_i h0;exact absurd h0 hm
  ·rfl
 have hcx:=qf (lm:=true) (ls:=false) (lt:=false) hs;generalize fh true false false=kb at*;have a3:r.a.length=3:=rfl;have ad:List.take 3 (List.drop 0 r.a)=r.a:=rfl;generalize r.a=ra at*;have hR:(iM r s).1.a=[.fz (rows Mb.l (r.ms++[⟨s,0⟩])) (r.ms.length+1),.fz (rows bu.l r.sh) r.sh.length,.fz (rows Tp.l r.tp) r.tp.length]:=by
  have e0:xf r s=0:=by simp only [xf,hg,cu];exact he
  simp only [iM,e0,cu,Rm.a,dN,List.length_cons,kv]
 rw [hR];generalize ej r=LM at*;refine bt.dU hcx mo Tryz.func135 fQ (by simp [i135]) (aQ ?_)
 dsimp only [i135,wQ];simp only [go_sem,hk,a3,ad,hat,simprocAttr];refine bw.rM (b:=5) (x:= .sg 5 0 (r.ms.length+1)) (o:=0) (m:=r.ms.length+1) (cs:=rows Mb.l (r.ms++[⟨s,0⟩])) (v':= .agg [.fz (rows Mb.l (r.ms++[⟨s,0⟩])) (r.ms.length+1),.fz (rows bu.l r.sh) r.sh.length,.fz (rows Tp.l r.tp) r.tp.length]) (h':=[]) rfl rfl (.inr rfl) (.inl rfl) (dj.agg ⟨dj.hit,dj.refl,dj.refl,trivial⟩) trivial ?_;exact bw.ends (Ends.au (by simp only [AV.al,ae,fR,hsB,htB,az]) rfl)
theorem S5 (r:Rm) (hr:r.is=true) (hg:bC r=true) (s:List UInt8) (hm:r.ms≠[]) (he:nI r.ms s≠0):cL av 135 [.fp r.a 0,.fp [.fn 93 [.fp [.s s] 0]] 0] [] 0 (some (eD (nI r.ms s))) (.bg []) [] 0:=by
 have hl:=fk hg;have hB2:=fR 2 r.ms;have hsB:=fun j=>di j r.sh;have htB:=fun j=>ff j r.tp;have hsR:=fun g=>ef g r.sh;have htR:=fun g=>je g r.tp;have hmR2:=fun g=>jr g r.ms;have hs:=bY (R:=[1,2]) (ks:=[{cells:=[.sg 1 0 r.ms.length,.fz (rows bu.l r.sh) r.sh.length,.fz (rows Tp.l r.tp) r.tp.length]},ej r]) (by kernel_rfl) (by decide) rfl (ara r s hl.1 he) (by decide) (by simp [ko])
 have hat: ∀(h:Hp) n,ab h 1=some {cells:=[.sg 2 0 r.ms.length,.fz (rows bu.l r.sh) r.sh.length,.fz (rows Tp.l r.tp) r.tp.length]}->ab h 2=some (ej r)->kH [1,2] [{cells:=[.sg 1 0 r.ms.length,.fz (rows bu.l r.sh) r.sh.length,.fz (rows Tp.l r.tp) r.tp.length]},ej r] [.p 0 0,.fp [.s s] 0] (.bg []) [] 2 (some (eD (nI r.ms s))) [.p 1 0,.fp [.s s] 0] h n=some (true,{v:= .bg [],n,rd:=[1,2],md:=[(1,none),(2,none)],pn:=some (eD (nI r.ms s))}):=fun h n h1 h2=>by
  refine dt (h:=h) (n:=n) rfl ⟨⟨?_,?_⟩,⟨?_,?_⟩,trivial⟩ ?_
  ·rw [h1];simp [aW.aH,aL,AV.aH,nth,hsR,htR]
  ·simp [ae,AV.al,hsB,htB,aG]
  ·rw [h2];simp [aW.aH,ej,hmR2]
  ·exact hB2
  ·simp [lK,fE,aW.aH,aL,AV.aH,ix,nth,ab,hsR,htR,aG,cj]
 generalize kH [1,2] _ _ _ _ _ _=kT at hs hat;have hk: ∀(h:Hp) n,fh true false false [.agg r.a] h n=some (true,{v:= .p n 0,n:=n+4,nw:=[(n,{cells:=[.sg (n+1) 0 r.ms.length,.fz (rows bu.l r.sh) r.sh.length,.fz (rows Tp.l r.tp) r.tp.length]}),(n+1,ej r)]}):=fun h n=>by
  simp only [fh,ey,aS,hr,hg,cond_true];unfold fP l4 mV mH sV tV sH tH;split
  ·rename_i h0;exact absurd h0 hm
  ·rfl
 have hcx:=qf (lm:=true) (ls:=false) (lt:=false) hs;generalize fh true false false=kb at*;have a3:r.a.length=3:=rfl;have ad:List.take 3 (List.drop 0 r.a)=r.a:=rfl;generalize r.a=ra at*;generalize ej r=LM at*;refine cL.dQ hcx mo Tryz.func135 fQ (by simp [i135]) (aQ ?_)
 dsimp only [i135,wQ];simp only [go_sem,hk,a3,ad,hat,simprocAttr];exact Ends.au rfl rfl
theorem QI {r:Rm} (hr:r.is=true) (hg:bC r=true) (hm:r.ms=[]) (h:Hp) (n:Nat):fh true false false [.agg r.a] h n=some (true,{v:= .p n 0,n:=n+4,nw:=[(n,{cells:=[.ze,.fz [] 0,.fz [] 0]})]}):=by
 obtain ⟨hs0,ht0⟩:=zE hg hm;simp only [fh,ey,aS,hr,hg,cond_true];obtain ⟨ms,sh,tp⟩:=r;dsimp only at hm hs0 ht0;subst hm hs0 ht0;rfl
theorem ajl (r:Rm) (hr:r.is=true) (hg:bC r=true) (s:List UInt8) (hm:r.ms=[]) (he:jc s=true):bt av 135 [.fp r.a 0,.fp [.fn 93 [.fp [.s s] 0]] 0] [] 0 (.agg (iM r s).1.a) [] 0:=by
 have hs:=bY (R:=[1]) (ks:=[{cells:=[.ze,.fz [] 0,.fz [] 0]}]) (by kernel_rfl) (by decide) rfl (atk s he) (by decide) (by simp [ko,dS,ae,AV.al,dy,ab,aG,rows,Mb.l])
 have hat: ∀(h:Hp) n,ab h 1=some {cells:=[.ze,.fz [] 0,.fz [] 0]}->kH [1] [{cells:=[.ze,.fz [] 0,.fz [] 0]}] [.p 0 0,.fp [.s s] 0] (.bg []) [(0,{cells:=[.sg 1 0 1,.fz [] 0,.fz [] 0]}),(1,{cells:=rows Mb.l [⟨s,0⟩],gr:=some 2})] 2 none [.p 1 0,.fp [.s s] 0] h n=some (true,{v:= .bg [],n:=n+1,rd:=[1],md:=[(1,some {cells:=[.sg n 0 1,.fz [] 0,.fz [] 0]})],nw:=[(n,{cells:=rows Mb.l [⟨s,0⟩],gr:=some 2})]}):=fun h n h1=>by
  refine dt (h:=h) (n:=n) rfl ⟨⟨?_,?_⟩,trivial⟩ ?_
  ·rw [h1];simp [aW.aH,aL,AV.aH,nth]
  ·simp [ae,AV.al,aG]
  ·simp [lK,fE,aW.aH,aL,AV.aH,ix,nth,ab,aG,cj,rows,Mb.l]
 generalize kH [1] _ _ _ _ _ _=kT at hs hat;have hk:=QI hr hg hm;have hcx:=qf (lm:=true) (ls:=false) (lt:=false) hs;generalize fh true false false=kb at*;have hR:(iM r s).1.a=[.fz (rows Mb.l [⟨s,0⟩]) 1,.fz [] 0,.fz [] 0]:=by
  obtain ⟨hs0,ht0⟩:=zE hg hm;have h1:AB [] s= -1:=rfl;have e0:xf r s=0:=by simp only [xf,hg,cu,hm,he,h1];rfl
  simp only [iM,e0,cu,Rm.a,hm,hs0,ht0];rfl
 rw [hR];have a3:r.a.length=3:=rfl;have ad:List.take 3 (List.drop 0 r.a)=r.a:=rfl;generalize r.a=ra at*;refine bt.dU hcx mo Tryz.func135 fQ (by simp [i135]) (aQ ?_)
 dsimp only [i135,wQ];simp only [go_sem,hk,a3,ad,hat,simprocAttr];refine bw.rM (b:=5) (x:= .sg 5 0 1) (o:=0) (m:=1) (cs:=rows Mb.l [⟨s,0⟩]) (v':= .agg [.fz (rows Mb.l [⟨s,0⟩]) 1,.fz [] 0,.fz [] 0]) (h':=[]) rfl rfl (.inr rfl) (.inl rfl) (dj.agg ⟨dj.hit,dj.refl,dj.refl,trivial⟩) trivial ?_;exact bw.ends (Ends.au rfl rfl)
theorem Sp (r:Rm) (hr:r.is=true) (hg:bC r=true) (s:List UInt8) (hm:r.ms=[]) (he:jc s=false):cL av 135 [.fp r.a 0,.fp [.fn 93 [.fp [.s s] 0]] 0] [] 0 (some (eD 2)) (.bg []) [] 0:=by
 have hs:=bY (R:=[1]) (ks:=[{cells:=[.ze,.fz [] 0,.fz [] 0]}]) (by kernel_rfl) (by decide) rfl (agn s he) (by decide) (by simp [ko])
 have hat: ∀(h:Hp) n,ab h 1=some {cells:=[.ze,.fz [] 0,.fz [] 0]}->kH [1] [{cells:=[.ze,.fz [] 0,.fz [] 0]}] [.p 0 0,.fp [.s s] 0] (.bg []) [] 1 (some (eD 2)) [.p 1 0,.fp [.s s] 0] h n=some (true,{v:= .bg [],n,rd:=[1],md:=[(1,none)],pn:=some (eD 2)}):=fun h n h1=>by
  refine dt (h:=h) (n:=n) rfl ⟨⟨?_,?_⟩,trivial⟩ ?_
  ·rw [h1];simp [aW.aH,aL,AV.aH,nth]
  ·simp [ae,AV.al,aG]
  ·simp [lK,fE,aW.aH,aL,AV.aH,ix,nth,ab,aG,cj]
 generalize kH [1] _ _ _ _ _ _=kT at hs hat;have hk:=QI hr hg hm;have hcx:=qf (lm:=true) (ls:=false) (lt:=false) hs;generalize fh true false false=kb at*;have a3:r.a.length=3:=rfl;have ad:List.take 3 (List.drop 0 r.a)=r.a:=rfl;generalize r.a=ra at*;refine cL.dQ hcx mo Tryz.func135 fQ (by simp [i135]) (aQ ?_)
 dsimp only [i135,wQ];simp only [go_sem,hk,a3,ad,hat,simprocAttr];exact Ends.au rfl rfl
noncomputable def kX (a0:List AV) (v0:AV) (pn:Option Value):Ct:=fun a h n=>open Classical in if a=a0 then some (true,{v:=v0,n,pn}) else none
theorem ru {a0:List AV} {v0:AV} {pn:Option Value} (h:Hp) (n:Nat):kX a0 v0 pn a0 h n=some (true,{v:=v0,n,pn}):=aM rfl
theorem iP {P:Program} {f:FuncId} {a0:List AV} {v0:AV} {pn:Option Value} (hc:Go.Ab.bJ P f=true) (ha:ae 0 a0=true) (hv:v0.al 0=true) (hf:cL P f a0 [] 0 pn v0 [] 0):aq P f (kX a0 v0 pn):=fun args h n c E he ht=>by
 unfold kX at he;split at he
 ·rename_i hh;subst hh;cases he;exact ax.yK hc ha hv hf _ _
 ·cases he
theorem za (r:Rm) (g:FuncId) (fc:List AV) (hfc: ∀h f,k7 (Go.Ab.nv h f) fc=some ([],fc)) (hfb:ae 0 fc=true) (res:Rm×Int) (hz:res.2≠0->res.1=tn)
 (hv:res.2=0->bt av 135 [.fp r.a 0,.fp [.fn g fc] 0] [] 0 (.agg res.1.a) [] 0)
 (hp:res.2≠0->cL av 135 [.fp r.a 0,.fp [.fn g fc] 0] [] 0 (some (eD res.2)) (.bg []) [] 0):bt av 59 [.agg r.a,.fn g fc] [] 0 (jK res) [] 0:=by
 have hrb:=Rm.al 0 r;have hb:ae 0 [AV.fp r.a 0,.fp [.fn g fc] 0]=true:=by simp only [ae,AV.al,hrb,hfb,az]
 refine w59 r g fc hfc hfb res ?_;by_cases he:res.2=0
 ·exact agf (iP (by kernel_rfl) hb (by simp only [AV.al,Rm.al]) (hv he)) _ hb res hz (fun _ h n=>ru h n) (fun h=>absurd he h)
 ·exact agf (iP (by kernel_rfl) hb rfl (hp he)) _ hb res hz (fun h=>absurd h he) (fun _ h n=>ru h n)
theorem HN (r:Rm) (hr:r.is=true) (hg:bC r=false) (g:FuncId) (fc:List AV) (hfc: ∀h f,k7 (Go.Ab.nv h f) fc=some ([],fc)) (hfb:ae 0 fc=true):bt av 59 [.agg r.a,.fn g fc] [] 0 (jK (tn,420)) [] 0:=
 za r g fc hfc hfb (tn,420) (fun _=>rfl) (fun h=>by cases h) (fun _=>ajS r hr hg g fc)
theorem Xa {r:Rm} (hg:bC r=true) (s:List UInt8):xf r s=nI r.ms s:=by simp only [xf,hg,cu,nI]
theorem asA (r:Rm) (hr:r.is=true) (s:List UInt8):bt av 59 [.agg r.a,.fn 93 [.fp [.s s] 0]] [] 0 (jK (iM r s)) [] 0:=by
 cases hg:bC r
 ·have e:iM r s=(tn,420):=by
   have e0:xf r s=420:=by simp only [xf,hg];rfl
   simp only [iM,e0];rfl
  rw [e];exact HN r hr hg 93 _ (fun h f=>by simp only [bn,bQ,ny (show ae 0 [AV.s s]=true from rfl),aS,cM]) rfl
 ·have e2:(iM r s).2=nI r.ms s:=Xa hg s;refine za r 93 _ (fun h f=>by simp only [bn,bQ,ny (show ae 0 [AV.s s]=true from rfl),aS,cM]) rfl _ (fun h=> ?_) (fun h=> ?_) (fun h=> ?_)
  ·simp only [iM] at h ⊢;rw [aN h]
  ·rw [e2] at h;by_cases hm:r.ms=[]
   ·refine ajl r hr hg s hm ?_;simp only [nI,hm] at h;cases hn:jc s
    ·rw [hn] at h;cases h
    ·rfl
   ·exact alr r hr hg s hm h
  ·rw [e2] at h ⊢;by_cases hm:r.ms=[]
   ·have h1:AB [] s= -1:=rfl;cases hn:jc s
    ·have:nI r.ms s=2:=by simp only [nI,hn];rfl
     rw [this];exact Sp r hr hg s hm hn
    ·exfalso;apply h;simp only [nI,hn,hm,h1];rfl
   ·exact S5 r hr hg s hm h
/-! Enter -/
def xK (n:Nat):Int:=max 0 ((n:Int)-1)
def tc (r:Rm) (i e:Int):AV:= .bg [.agg r.a,.i .i64 i,.i .i64 e]
theorem w24 (r:Rm) (hr:r.is=true) (s:List UInt8) (hl:r.ms.length<=1000000):bt av 24 [.agg r.a,.s s] [] 0 (tc (iM r s).1 (xK (iM r s).1.ms.length) (iM r s).2) [] 0:=by
 have hb:=iu (iM r s);have hrb:=Rm.al 0 r;have hs:=dv (by kernel_rfl) (by simp only [ae,AV.al,hrb,az]) hb (asA r hr s)
 have hat:=fun h n=>gl (a0:=[.agg r.a,.fn 93 [.fp [.s s] 0]]) (v0:=jK (iM r s)) h n;have hlen:(iM r s).1.ms.length<=1000001:=by
  unfold iM;split
  ·simp only [dN,List.length_cons,kv];omega
  ·exact eB _
 generalize kP _ _=kT at hs hat;have hv:=fun h f=>jQ h f r;have hk: ∀(h:Hp) n,ab h 1=some {cells:=[.s s]}->ew kT [.agg r.a,.fn 93 [.p 1 0]] h n=some (true,{v:=jK (iM r s),n,rd:=[1],md:=[(1,none)]}):=fun h n h1=>by
  simp only [ew,bn,bQ,iE,iL,DN,jf,hv,h1,aS,dV,hat,hb,ee,List.nil_append,cM];simp [bX.plain,vO,h1,jM,cj]
 have hcx:Sound av (bZ [(59,ew kT)]):=Sound.cons hs.ng Sound.nil;have a3:r.a.length=3:=rfl;generalize hR:iM r s=R at*;obtain ⟨R,e⟩:=R;have a0:R.a.length=3:=rfl;have ao:aX R.a=true:=rfl;have ad:List.take 3 (List.drop 0 R.a)=R.a:=rfl;have ad2:List.take 3 (List.drop 0 r.a)=r.a:=rfl;have ag:R.a[0]? =some (.fz (rows Mb.l R.ms) R.ms.length):=rfl;have hbR:=Rm.al 0 R;have n1:IntKind.i64.wrap ((R.ms.length:Int)-1)=(R.ms.length:Int)-1:=by dsimp only at hlen;exact bS (by omega) (by omega)
 simp only [jK,tc] at*;generalize R.a=RA at*;generalize r.a=ra at*;refine dT hcx Tryz.func24 adb ?_
 dsimp only [i24];simp only [go_sem,hk,a3,a0,ao,ad,ad2,ag,n1,simprocAttr];exact Ends.au (by simp only [AV.al,ae,hbR,az]) rfl
end Go.Proofs.Rom
