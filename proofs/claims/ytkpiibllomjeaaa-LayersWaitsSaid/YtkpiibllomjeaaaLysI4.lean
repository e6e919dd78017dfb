/- The small language's text of the functions; printed by ShowI.lean. -/
import Derived.Test.YtkpiibllomjeaaaProg
import Derived.Test.YtkpiibllomjeaaaAbRuns
namespace Go.Proofs.Lys
open Go.Ab
abbrev i4r0 : List IOper := [
 oo 5 (.box (.t 0)),
 oo 6 (.box (.t 1)),
 oo 7 (.box (.t 2)),
 oo 9 (.box (.t 4)),
 oo 10 (.mv (.c (.b false)))]
abbrev i4r1 : List IOper := [
 oo 32 (.ld true 21 (.t 5)),
 oo 33 (.call (.c (.fn 8 [])) [.t 32]),
 oo 11 (.new [.ns, .i .i64 0, .i .i64 0, .i .i64 0, .i .i64 0, .i .i64 0, .i .i64 0, .i .i64 0, .i .i64 0, .b false, .i .i64 0, .i .i64 0, .i .i64 0, .i .i64 0, .i .i64 0, .i .i64 0, .i .i64 0, .i .i64 0, .ns, .ns, .ns, .i .i64 0, .i .i64 0, .i .i64 0]),
 on_ (.st 24 (.t 11) (.t 33))]
abbrev i4r2 : List (IOper × List Nat) := [
 (oo 34 (.fa 8 (.t 9)), []),
 (oo 35 (.ld false 1 (.t 34)), []),
 (oo 36 (.fa 8 (.t 9)), [0, 1]),
 (oo 37 (.ld false 1 (.t 36)), [0, 1]),
 (oo 38 (.lenS (.t 37)), [0, 1]),
 (oo 39 (.mn (.t 38) [.c (.i .i64 50)]), [0, 1]),
 (oo 40 (.slS (.t 35) none (some (.t 39))), []),
 (oo 41 (.fa 5 (.t 9)), [0, 1, 2, 3, 4, 5, 6]),
 (oo 42 (.ld false 1 (.t 41)), [0, 1, 2, 3, 4, 5, 6]),
 (oo 43 (.fa 5 (.t 9)), [0, 1, 2, 3, 4, 5, 6, 7, 8]),
 (oo 44 (.ld false 1 (.t 43)), [0, 1, 2, 3, 4, 5, 6, 7, 8]),
 (oo 45 (.lenV (.t 44)), [0, 1, 2, 3, 4, 5, 6, 7, 8]),
 (oo 46 (.mn (.t 45) [.c (.i .i64 16)]), [0, 1, 2, 3, 4, 5, 6, 7, 8]),
 (oo 47 (.slV 1 (.t 42) none (some (.t 46)) none), [0, 1, 2, 3, 4, 5, 6]),
 (oo 48 (.fa 6 (.t 9)), [0, 1, 2, 3, 4, 5, 6, 7, 8, 9, 10, 11, 12, 13]),
 (oo 49 (.ld false 1 (.t 48)), [0, 1, 2, 3, 4, 5, 6, 7, 8, 9, 10, 11, 12, 13]),
 (oo 50 (.fa 6 (.t 9)), [0, 1, 2, 3, 4, 5, 6, 7, 8, 9, 10, 11, 12, 13, 14, 15]),
 (oo 51 (.ld false 1 (.t 50)), [0, 1, 2, 3, 4, 5, 6, 7, 8, 9, 10, 11, 12, 13, 14, 15]),
 (oo 52 (.lenV (.t 51)), [0, 1, 2, 3, 4, 5, 6, 7, 8, 9, 10, 11, 12, 13, 14, 15]),
 (oo 53 (.mn (.t 52) [.c (.i .i64 17)]), [0, 1, 2, 3, 4, 5, 6, 7, 8, 9, 10, 11, 12, 13, 14, 15]),
 (oo 54 (.slV 2 (.t 49) none (some (.t 53)) none), [0, 1, 2, 3, 4, 5, 6, 7, 8, 9, 10, 11, 12, 13]),
 (oo 55 (.fa 8 (.t 9)), [11, 12, 13, 18, 19, 20]),
 (on_ (.st 1 (.t 55) (.t 40)), [11, 12, 13, 18, 19, 20]),
 (oo 56 (.fa 5 (.t 9)), [18, 19, 20]),
 (on_ (.st 1 (.t 56) (.t 47)), [18, 19, 20]),
 (oo 57 (.fa 6 (.t 9)), []),
 (on_ (.st 1 (.t 57) (.t 54)), [])]
abbrev i4r3 : List IOper := [
 oo 58 (.mv (.t 3)),
 oo 59 (.mv (.t 3)),
 oo 60 (.lenV (.t 59)),
 oo 61 (.mn (.t 60) [.c (.i .i64 8)]),
 oo 62 (.slV 4 (.t 58) none (some (.t 61)) none),
 oo 63 (.lenV (.t 62)),
 oo 64 (.mv (.c (.i .i64 0)))]
abbrev i4r4 : List IOper := [
 ot 65 (.bin .lss (.t 64) (.t 63))]
abbrev i4r5 : List IOper := [
 oo 66 (.ixaV 4 (.t 62) (.t 64)),
 oo 67 (.ld true 4 (.t 66)),
 oo 13 (.new [.i .u8 0, .i .u8 0, .i .u8 0, .i .u8 0]),
 on_ (.st 4 (.t 13) (.t 67))]
abbrev i4r6 : List IOper := [
 oo 69 (.ld true 24 (.t 11)),
 oo 70 (.ld true 4 (.t 13)),
 oo 71 (.call (.c (.fn 20 [])) [.t 69, .t 70]),
 oo 68 (.mv (.t 71)),
 oo 72 (.ext (.t 68) 0),
 oo 73 (.ext (.t 68) 1),
 oo 74 (.ext (.t 68) 2),
 oo 14 (.new [.ns, .i .i64 0, .i .i64 0, .i .i64 0, .i .i64 0, .i .i64 0, .i .i64 0, .i .i64 0, .i .i64 0, .b false, .i .i64 0, .i .i64 0, .i .i64 0, .i .i64 0, .i .i64 0, .i .i64 0, .i .i64 0, .i .i64 0, .ns, .ns, .ns, .i .i64 0, .i .i64 0, .i .i64 0]),
 oo 15 (.new [.b false, .i .i64 0, .i .i64 0, .i .i64 0, .i .i64 0, .ns, .ns, .i .i64 0, .s []]),
 on_ (.st 24 (.t 14) (.t 72)),
 on_ (.st 9 (.t 15) (.t 73)),
 oo 16 (.mv (.t 74))]
abbrev i4r7 : List IOper := [
 oo 75 (.ld true 24 (.t 14)),
 on_ (.st 24 (.t 11) (.t 75))]
abbrev i4r8 : List IOper := [
 oo 76 (.mv (.t 16)),
 ot 77 (.not (.t 76))]
abbrev i4r9 : List IOper := [
 oo 78 (.ld true 9 (.t 9)),
 on_ (.st 9 (.t 15) (.t 78))]
abbrev i4r10 : List (IOper × List Nat) := [
 (oo 79 (.fa 0 (.t 11)), []),
 (oo 80 (.ld true 18 (.t 79)), []),
 (oo 81 (.ld true 3 (.t 6)), [0, 1]),
 (oo 82 (.fa 0 (.t 11)), [0, 1, 2]),
 (oo 83 (.ld true 18 (.t 82)), [0, 1, 2]),
 (oo 84 (.call (.c (.fn 9 [])) [.t 81, .t 83]), [0, 1]),
 (oo 85 (.build [.ns, .i .i64 0, .i .i64 0, .i .i64 0, .i .i64 0, .i .i64 0, .i .i64 0, .i .i64 0, .i .i64 0, .b false, .i .i64 0, .i .i64 0, .i .i64 0, .i .i64 0, .i .i64 0, .i .i64 0, .i .i64 0, .i .i64 0, .ns, .i .i64 0, .i .i64 0, .i .i64 0, .i .i64 0, .i .i64 0, .i .i64 0, .i .i64 0, .i .i64 0, .b false, .i .i64 0, .i .i64 0, .i .i64 0, .i .i64 0, .i .i64 0, .i .i64 0, .i .i64 0, .i .i64 0] [(0, 18, .t 80), (18, 18, .t 84)]), []),
 (oo 86 (.mv (.c (.i .i64 0))), [0, 1, 2, 3, 4, 5, 6])]
abbrev i4r11 : List IOper := [
 ot 87 (.bin .lss (.t 86) (.c (.i .i64 2)))]
abbrev i4r12 : List IOper := [
 oo 88 (.ixA 2 18 true (.t 85) (.t 86)),
 oo 18 (.new [.ns, .i .i64 0, .i .i64 0, .i .i64 0, .i .i64 0, .i .i64 0, .i .i64 0, .i .i64 0, .i .i64 0, .b false, .i .i64 0, .i .i64 0, .i .i64 0, .i .i64 0, .i .i64 0, .i .i64 0, .i .i64 0, .i .i64 0]),
 on_ (.st 18 (.t 18) (.t 88))]
abbrev i4r13 : List (IOper × List Nat) := [
 (oo 89 (.ld true 4 (.t 7)), []),
 (oo 90 (.ld true 9 (.t 15)), [0]),
 (oo 91 (.call (.c (.fn 21 [])) [.t 89, .t 90]), []),
 (oo 92 (.ld true 9 (.t 15)), [0, 1, 2]),
 (oo 93 (.build [.b false, .i .i64 0, .i .i64 0, .i .i64 0, .i .i64 0, .ns, .ns, .i .i64 0, .s [], .b false, .i .i64 0, .i .i64 0, .i .i64 0, .i .i64 0, .ns, .ns, .i .i64 0, .s []] [(0, 9, .t 91), (9, 9, .t 92)]), []),
 (oo 94 (.mv (.c (.i .i64 0))), [0, 1, 2, 3, 4])]
abbrev i4r14 : List IOper := [
 ot 95 (.bin .lss (.t 94) (.c (.i .i64 2)))]
abbrev i4r15 : List IOper := [
 oo 96 (.ixA 2 9 true (.t 93) (.t 94)),
 oo 20 (.new [.b false, .i .i64 0, .i .i64 0, .i .i64 0, .i .i64 0, .ns, .ns, .i .i64 0, .s []]),
 on_ (.st 9 (.t 20) (.t 96))]
abbrev i4r16 : List IOper := [
 oo 98 (.ld true 18 (.t 18)),
 oo 99 (.ld true 9 (.t 20)),
 oo 100 (.call (.c (.fn 22 [])) [.t 98, .t 99]),
 oo 97 (.mv (.t 100)),
 oo 101 (.ext (.t 97) 0),
 oo 102 (.ext (.t 97) 1),
 oo 103 (.ext (.t 97) 2),
 oo 21 (.new [.ns, .i .i64 0, .i .i64 0, .i .i64 0, .i .i64 0, .i .i64 0, .i .i64 0, .i .i64 0, .i .i64 0, .b false, .i .i64 0, .i .i64 0, .i .i64 0, .i .i64 0, .i .i64 0, .i .i64 0, .i .i64 0, .i .i64 0]),
 on_ (.st 18 (.t 21) (.t 101)),
 oo 22 (.mv (.t 102)),
 oo 23 (.mv (.t 103))]
abbrev i4r17 : List IOper := [
 oo 105 (.ld true 18 (.t 18)),
 oo 106 (.ld true 9 (.t 20)),
 oo 107 (.call (.c (.fn 23 [])) [.t 105, .t 106]),
 oo 104 (.mv (.t 107)),
 oo 108 (.ext (.t 104) 0),
 oo 109 (.ext (.t 104) 1),
 oo 110 (.ext (.t 104) 2),
 oo 24 (.new [.ns, .i .i64 0, .i .i64 0, .i .i64 0, .i .i64 0, .i .i64 0, .i .i64 0, .i .i64 0, .i .i64 0, .b false, .i .i64 0, .i .i64 0, .i .i64 0, .i .i64 0, .i .i64 0, .i .i64 0, .i .i64 0, .i .i64 0]),
 on_ (.st 18 (.t 24) (.t 108)),
 oo 25 (.mv (.t 109)),
 oo 26 (.mv (.t 110))]
abbrev i4r18 : List IOper := [
 oo 111 (.mv (.t 23)),
 oo 112 (.mv (.t 26)),
 oo 113 (.bin .neq (.t 111) (.t 112)),
 ot 114 (.mv (.t 113)),
 og 115 (.ld true 18 (.t 21)) 114 false false,
 og 116 (.ld true 18 (.t 24)) 114 false false,
 og 117 (.call (.c (.fn 16 [])) [.t 115, .t 116]) 114 false false,
 og 118 (.not (.t 117)) 114 false false,
 oo 119 (.pick (.t 114) (.c (.b true)) (.t 118)),
 ot 120 (.mv (.t 119)),
 og 121 (.mv (.t 22)) 120 false false,
 og 122 (.mv (.t 25)) 120 false false,
 og 123 (.call (.c (.fn 24 [])) [.t 121, .t 122]) 120 false false,
 og 124 (.not (.t 123)) 120 false false,
 ot 125 (.pick (.t 120) (.c (.b true)) (.t 124))]
abbrev i4r19 : List IOper := [
 oo 10 (.mv (.c (.b false)))]
abbrev i4r20 : List IOper := [
 oo 126 (.bin .add (.t 94) (.c (.i .i64 1))),
 oo 94 (.mv (.t 126))]
abbrev i4l21 : ICode := (.seq (.reg i4r14) (.seq (.cond (.t 95) .skip (.exit 4)) (.seq (.block 5 (.seq (.reg i4r15) (.seq (.reg i4r16) (.seq (.reg i4r17) (.seq (.reg i4r18) (.cond (.t 125) (.seq (.reg i4r19) .ret) .skip)))))) (.reg i4r20))))
abbrev i4r22 : List IOper := [
 oo 127 (.bin .add (.t 86) (.c (.i .i64 1))),
 oo 86 (.mv (.t 127))]
abbrev i4l23 : ICode := (.seq (.reg i4r11) (.seq (.cond (.t 87) .skip (.exit 2)) (.seq (.block 3 (.seq (.reg i4r12) (.seq (.dreg i4r13) (.block 4 (.loop i4l21))))) (.reg i4r22))))
abbrev i4r24 : List IOper := [
 oo 129 (.fa 0 (.t 11)),
 oo 130 (.ld true 18 (.t 129)),
 oo 131 (.ld true 9 (.t 15)),
 oo 132 (.call (.c (.fn 23 [])) [.t 130, .t 131]),
 oo 128 (.mv (.t 132)),
 oo 133 (.ext (.t 128) 0),
 oo 134 (.ext (.t 128) 1),
 oo 135 (.ext (.t 128) 2),
 oo 27 (.new [.ns, .i .i64 0, .i .i64 0, .i .i64 0, .i .i64 0, .i .i64 0, .i .i64 0, .i .i64 0, .i .i64 0, .b false, .i .i64 0, .i .i64 0, .i .i64 0, .i .i64 0, .i .i64 0, .i .i64 0, .i .i64 0, .i .i64 0]),
 on_ (.st 18 (.t 27) (.t 133)),
 oo 28 (.mv (.t 134)),
 oo 29 (.mv (.t 135))]
abbrev i4r25 : List IOper := [
 oo 136 (.mv (.t 29)),
 ot 137 (.bin .eql (.t 136) (.c (.i .i64 0)))]
abbrev i4r26 : List IOper := [
 oo 138 (.ld true 18 (.t 27)),
 oo 139 (.fa 0 (.t 11)),
 on_ (.st 18 (.t 139) (.t 138))]
abbrev i4r27 : List IOper := [
 oo 141 (.ld true 4 (.t 13)),
 oo 142 (.call (.c (.fn 25 [])) [.t 141]),
 oo 140 (.mv (.t 142)),
 oo 143 (.ext (.t 140) 0),
 oo 144 (.ext (.t 140) 1),
 oo 30 (.mv (.t 143)),
 oo 31 (.mv (.t 144))]
abbrev i4r28 : List IOper := [
 oo 145 (.fa 0 (.t 13)),
 oo 146 (.ld false 1 (.t 145)),
 oo 147 (.bin .rem (.t 146) (.c (.i .u8 8))),
 ot 148 (.bin .eql (.t 147) (.c (.i .u8 7)))]
abbrev i4r29 : List IOper := [
 oo 150 (.fa 0 (.t 11)),
 oo 151 (.ld true 18 (.t 150)),
 oo 152 (.mv (.t 30)),
 oo 153 (.mv (.t 31)),
 oo 154 (.call (.c (.fn 15 [])) [.t 151, .t 152, .t 153]),
 oo 149 (.mv (.t 154)),
 oo 155 (.ext (.t 149) 0),
 oo 156 (.ext (.t 149) 1),
 oo 157 (.fa 0 (.t 11)),
 on_ (.st 18 (.t 157) (.t 155))]
abbrev i4r30 : List IOper := [
 oo 158 (.bin .add (.t 64) (.c (.i .i64 1))),
 oo 64 (.mv (.t 158))]
abbrev i4l31 : ICode := (.seq (.reg i4r4) (.seq (.cond (.t 65) .skip (.exit 0)) (.seq (.block 1 (.seq (.reg i4r5) (.seq (.reg i4r6) (.seq (.reg i4r7) (.seq (.seq (.reg i4r8) (.cond (.t 77) (.reg i4r9) .skip)) (.seq (.seq (.dreg i4r10) (.block 2 (.loop i4l23))) (.seq (.seq (.reg i4r24) (.seq (.reg i4r25) (.cond (.t 137) (.reg i4r26) .skip))) (.seq (.reg i4r27) (.seq (.reg i4r28) (.cond (.t 148) (.reg i4r29) .skip)))))))))) (.reg i4r30))))
abbrev i4r32 : List IOper := [
 oo 159 (.call (.c (.fn 19 [])) []),
 oo 10 (.mv (.t 159))]
abbrev i4c : ICode := (.seq (.reg i4r0) (.seq (.reg i4r1) (.seq (.dreg i4r2) (.seq (.seq (.reg i4r3) (.block 0 (.loop i4l31))) (.seq (.reg i4r32) .ret)))))
def i4 : IFn := { np := 5, N := 160, ct := [65, 77, 87, 95, 125, 137, 148], code := i4c, res := [.t 10] }
theorem i4_eq : compF Try.prog Try.f4 = some i4 := by kernel_rfl
end Go.Proofs.Lys
