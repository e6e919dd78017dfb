/- The small language's text of the functions; printed by ShowI.lean. -/
import Derived.Test.YtlokbfkdgnopeaaDoorProg
import Derived.Test.YtlokbfkdgnopeaaDoorAbRuns
namespace Go.Proofs.Fld
open Go.Ab
abbrev i4r0 : List IOper := [
 oo 4 (.mv (.c (.b false)))]
abbrev i4r1 : List IOper := [
 oo 18 (.call (.c (.fn 5 [])) []),
 ot 19 (.not (.t 18))]
abbrev i4r2 : List IOper := [
 oo 4 (.mv (.c (.b false)))]
abbrev i4r3 : List IOper := [
 oo 21 (.mv (.t 0)),
 oo 22 (.i2i .i64 (.t 21)),
 oo 23 (.call (.c (.fn 9 [])) [.t 22]),
 oo 20 (.mv (.t 23)),
 oo 24 (.ext (.t 20) 0),
 oo 25 (.ext (.t 20) 1),
 oo 5 (.new [.i .i64 0, .i .i64 0, .i .i64 0]),
 on_ (.st 3 (.t 5) (.t 24)),
 oo 6 (.mv (.t 25))]
abbrev i4r4 : List IOper := [
 oo 26 (.mv (.t 6)),
 ot 27 (.bin .neq (.t 26) (.c (.i .i64 0)))]
abbrev i4r5 : List IOper := [
 oo 4 (.mv (.c (.b false)))]
abbrev i4r6 : List IOper := [
 oo 28 (.build [.i .i64 0, .i .i64 0, .i .i64 0, .i .i64 0, .i .i64 0, .i .i64 0, .i .i64 0, .i .i64 0] [(0, 1, .c (.i .i64 400)), (1, 1, .c (.i .i64 1200)), (2, 1, .c (.i .i64 2800)), (3, 1, .c (.i .i64 6000)), (4, 1, .c (.i .i64 12400)), (5, 1, .c (.i .i64 18800)), (6, 1, .c (.i .i64 25200)), (7, 1, .c (.i .i64 31600))]),
 oo 29 (.mv (.c (.i .i64 0)))]
abbrev i4r7 : List IOper := [
 ot 30 (.bin .lss (.t 29) (.c (.i .i64 8)))]
abbrev i4r8 : List IOper := [
 oo 31 (.mv (.t 29)),
 oo 32 (.ixA 8 1 false (.t 28) (.t 29)),
 oo 7 (.mv (.t 31)),
 oo 8 (.mv (.t 32))]
abbrev i4r9 : List IOper := [
 oo 33 (.mv (.t 0)),
 oo 34 (.i2i .i64 (.t 33)),
 oo 35 (.mv (.t 8)),
 oo 36 (.bin .add (.t 34) (.t 35)),
 oo 9 (.mv (.t 36))]
abbrev i4r10 : List IOper := [
 oo 38 (.ld true 3 (.t 5)),
 oo 39 (.mv (.t 9)),
 oo 40 (.bin .sub (.t 39) (.c (.i .i64 1))),
 oo 41 (.mv (.t 1)),
 oo 42 (.i2i .i64 (.t 41)),
 oo 43 (.bin .rem (.t 42) (.c (.i .i64 400))),
 oo 44 (.bin .sub (.t 40) (.t 43)),
 oo 45 (.call (.c (.fn 10 [])) [.t 38, .t 44]),
 oo 37 (.mv (.t 45)),
 oo 46 (.ext (.t 37) 0),
 oo 47 (.ext (.t 37) 1),
 oo 10 (.mv (.t 46)),
 oo 11 (.mv (.t 47))]
abbrev i4r11 : List IOper := [
 oo 49 (.ld true 3 (.t 5)),
 oo 50 (.mv (.t 9)),
 oo 51 (.call (.c (.fn 10 [])) [.t 49, .t 50]),
 oo 48 (.mv (.t 51)),
 oo 52 (.ext (.t 48) 0),
 oo 53 (.ext (.t 48) 1),
 oo 12 (.mv (.t 52)),
 oo 13 (.mv (.t 53))]
abbrev i4r12 : List IOper := [
 oo 55 (.ld true 3 (.t 5)),
 oo 56 (.mv (.t 9)),
 oo 57 (.bin .sub (.t 56) (.c (.i .i64 1))),
 oo 58 (.call (.c (.fn 11 [])) [.t 55, .t 57]),
 oo 54 (.mv (.t 58)),
 oo 59 (.ext (.t 54) 0),
 oo 60 (.ext (.t 54) 1),
 oo 14 (.new [.i .i64 0, .i .i64 0, .i .i64 0]),
 on_ (.st 3 (.t 14) (.t 59)),
 oo 15 (.mv (.t 60))]
abbrev i4r13 : List IOper := [
 oo 61 (.mv (.t 10)),
 ot 62 (.mv (.t 61)),
 og 63 (.mv (.t 11)) 62 false false,
 og 64 (.bin .neq (.t 63) (.c (.i .i64 0))) 62 false false,
 oo 65 (.pick (.t 62) (.c (.b true)) (.t 64)),
 ot 66 (.mv (.t 65)),
 og 67 (.mv (.t 12)) 66 false false,
 og 68 (.not (.t 67)) 66 false false,
 oo 69 (.pick (.t 66) (.c (.b true)) (.t 68)),
 ot 70 (.mv (.t 69)),
 og 71 (.mv (.t 13)) 70 false false,
 og 72 (.bin .neq (.t 71) (.c (.i .i64 0))) 70 false false,
 oo 73 (.pick (.t 70) (.c (.b true)) (.t 72)),
 ot 74 (.mv (.t 73)),
 og 75 (.mv (.t 15)) 74 false false,
 og 76 (.bin .neq (.t 75) (.c (.i .i64 8))) 74 false false,
 ot 77 (.pick (.t 74) (.c (.b true)) (.t 76))]
abbrev i4r14 : List IOper := [
 oo 4 (.mv (.c (.b false)))]
abbrev i4r15 : List IOper := [
 oo 79 (.ld true 3 (.t 5)),
 oo 80 (.mv (.t 9)),
 oo 81 (.call (.c (.fn 11 [])) [.t 79, .t 80]),
 oo 78 (.mv (.t 81)),
 oo 82 (.ext (.t 78) 0),
 oo 83 (.ext (.t 78) 1),
 oo 16 (.new [.i .i64 0, .i .i64 0, .i .i64 0]),
 on_ (.st 3 (.t 16) (.t 82)),
 oo 17 (.mv (.t 83))]
abbrev i4r16 : List IOper := [
 oo 84 (.mv (.t 7)),
 ot 85 (.bin .eql (.t 84) (.c (.i .i64 7)))]
abbrev i4r17 : List IOper := [
 oo 86 (.mv (.t 17)),
 oo 87 (.bin .eql (.t 86) (.c (.i .i64 4))),
 ot 88 (.mv (.t 87)),
 og 89 (.ld true 3 (.t 16)) 88 true false,
 og 90 (.build [.i .i64 0, .i .i64 0, .i .i64 0] []) 88 true false,
 og 91 (.eqk false true [.i, .i, .i] (.t 89) (.t 90)) 88 true false,
 oo 92 (.pick (.t 88) (.t 91) (.c (.b false))),
 oo 4 (.mv (.t 92))]
abbrev i4r18 : List IOper := [
 oo 93 (.mv (.t 17)),
 oo 94 (.bin .neq (.t 93) (.c (.i .i64 0))),
 ot 95 (.mv (.t 94)),
 og 96 (.ld true 3 (.t 16)) 95 false false,
 og 97 (.call (.c (.fn 12 [])) [.t 96]) 95 false false,
 og 98 (.bin .neq (.t 97) (.c (.i .i64 0))) 95 false false,
 oo 99 (.pick (.t 95) (.c (.b true)) (.t 98)),
 ot 100 (.mv (.t 99)),
 og 101 (.fa 2 (.t 16)) 100 false false,
 og 102 (.ld false 1 (.t 101)) 100 false false,
 og 103 (.fa 2 (.t 5)) 100 false false,
 og 104 (.ld false 1 (.t 103)) 100 false false,
 og 105 (.bin .add (.t 104) (.c (.i .i64 1))) 100 false false,
 og 106 (.bin .neq (.t 102) (.t 105)) 100 false false,
 ot 107 (.pick (.t 100) (.c (.b true)) (.t 106))]
abbrev i4r19 : List IOper := [
 oo 4 (.mv (.c (.b false)))]
abbrev i4r20 : List IOper := [
 oo 108 (.ld true 3 (.t 16)),
 on_ (.st 3 (.t 5) (.t 108))]
abbrev i4r21 : List IOper := [
 oo 109 (.bin .add (.t 29) (.c (.i .i64 1))),
 oo 29 (.mv (.t 109))]
abbrev i4l22 : ICode := (.seq (.reg i4r7) (.seq (.cond (.t 30) .skip (.exit 0)) (.seq (.block 1 (.seq (.reg i4r8) (.seq (.reg i4r9) (.seq (.reg i4r10) (.seq (.reg i4r11) (.seq (.reg i4r12) (.seq (.seq (.reg i4r13) (.cond (.t 77) (.seq (.reg i4r14) .ret) .skip)) (.seq (.reg i4r15) (.seq (.seq (.reg i4r16) (.cond (.t 85) (.seq (.reg i4r17) .ret) .skip)) (.seq (.seq (.reg i4r18) (.cond (.t 107) (.seq (.reg i4r19) .ret) .skip)) (.reg i4r20))))))))))) (.reg i4r21))))
abbrev i4r23 : List IOper := [
 oo 4 (.mv (.c (.b false)))]
abbrev i4c : ICode := (.seq (.reg i4r0) (.seq (.seq (.reg i4r1) (.cond (.t 19) (.seq (.reg i4r2) .ret) .skip)) (.seq (.reg i4r3) (.seq (.seq (.reg i4r4) (.cond (.t 27) (.seq (.reg i4r5) .ret) .skip)) (.seq (.seq (.reg i4r6) (.block 0 (.loop i4l22))) (.seq (.reg i4r23) .ret))))))
def i4 : IFn := { np := 2, N := 110, ct := [19, 27, 30, 77, 85, 107], code := i4c, res := [.t 4] }
theorem i4_eq : compF Tryd.prog Tryd.f4 = some i4 := by kernel_rfl
end Go.Proofs.Fld
