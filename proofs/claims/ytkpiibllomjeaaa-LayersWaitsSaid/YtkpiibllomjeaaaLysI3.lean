/- The small language's text of the functions; printed by ShowI.lean. -/
import Derived.Test.YtkpiibllomjeaaaProg
import Derived.Test.YtkpiibllomjeaaaAbRuns
namespace Go.Proofs.Lys
open Go.Ab
abbrev i3r0 : List IOper := [
 oo 6 (.box (.t 0)),
 oo 7 (.box (.t 1)),
 oo 8 (.box (.t 2)),
 oo 10 (.box (.t 4)),
 oo 11 (.box (.t 5)),
 oo 12 (.mv (.c (.b false)))]
abbrev i3r1 : List IOper := [
 oo 32 (.mv (.t 3)),
 oo 33 (.mv (.t 3)),
 oo 34 (.lenV (.t 33)),
 oo 35 (.mn (.t 34) [.c (.i .i64 5)]),
 oo 36 (.slV 1 (.t 32) none (some (.t 35)) none),
 oo 3 (.mv (.t 36))]
abbrev i3r2 : List IOper := [
 oo 37 (.ld true 21 (.t 6)),
 oo 38 (.call (.c (.fn 8 [])) [.t 37]),
 oo 39 (.fld true 18 0 (.t 38)),
 oo 13 (.new [.ns, .i .i64 0, .i .i64 0, .i .i64 0, .i .i64 0, .i .i64 0, .i .i64 0, .i .i64 0, .i .i64 0, .b false, .i .i64 0, .i .i64 0, .i .i64 0, .i .i64 0, .i .i64 0, .i .i64 0, .i .i64 0, .i .i64 0]),
 on_ (.st 18 (.t 13) (.t 39))]
abbrev i3r3 : List (IOper × List Nat) := [
 (oo 40 (.ld true 18 (.t 13)), []),
 (oo 41 (.ld true 3 (.t 7)), [0]),
 (oo 42 (.ld true 18 (.t 13)), [0, 1]),
 (oo 43 (.call (.c (.fn 9 [])) [.t 41, .t 42]), [0]),
 (oo 44 (.ld true 3 (.t 8)), [0, 1, 2, 3]),
 (oo 45 (.ld true 3 (.t 7)), [0, 1, 2, 3, 4]),
 (oo 46 (.ld true 18 (.t 13)), [0, 1, 2, 3, 4, 5]),
 (oo 47 (.call (.c (.fn 9 [])) [.t 45, .t 46]), [0, 4]),
 (oo 48 (.call (.c (.fn 9 [])) [.t 44, .t 47]), [0]),
 (oo 49 (.build [.ns, .i .i64 0, .i .i64 0, .i .i64 0, .i .i64 0, .i .i64 0, .i .i64 0, .i .i64 0, .i .i64 0, .b false, .i .i64 0, .i .i64 0, .i .i64 0, .i .i64 0, .i .i64 0, .i .i64 0, .i .i64 0, .i .i64 0, .ns, .i .i64 0, .i .i64 0, .i .i64 0, .i .i64 0, .i .i64 0, .i .i64 0, .i .i64 0, .i .i64 0, .b false, .i .i64 0, .i .i64 0, .i .i64 0, .i .i64 0, .i .i64 0, .i .i64 0, .i .i64 0, .i .i64 0, .ns, .i .i64 0, .i .i64 0, .i .i64 0, .i .i64 0, .i .i64 0, .i .i64 0, .i .i64 0, .i .i64 0, .b false, .i .i64 0, .i .i64 0, .i .i64 0, .i .i64 0, .i .i64 0, .i .i64 0, .i .i64 0, .i .i64 0] [(0, 18, .t 40), (18, 18, .t 43), (36, 18, .t 48)]), []),
 (oo 50 (.mv (.c (.i .i64 0))), [0, 1, 2, 3, 4, 5, 6, 7, 8, 9])]
abbrev i3r4 : List IOper := [
 ot 51 (.bin .lss (.t 50) (.c (.i .i64 3)))]
abbrev i3r5 : List IOper := [
 oo 52 (.ixA 3 18 true (.t 49) (.t 50)),
 oo 15 (.new [.ns, .i .i64 0, .i .i64 0, .i .i64 0, .i .i64 0, .i .i64 0, .i .i64 0, .i .i64 0, .i .i64 0, .b false, .i .i64 0, .i .i64 0, .i .i64 0, .i .i64 0, .i .i64 0, .i .i64 0, .i .i64 0, .i .i64 0]),
 on_ (.st 18 (.t 15) (.t 52))]
abbrev i3r6 : List IOper := [
 oo 54 (.ld true 18 (.t 15)),
 oo 55 (.call (.c (.fn 10 [])) [.t 54]),
 oo 53 (.mv (.t 55)),
 oo 56 (.ext (.t 53) 0),
 oo 57 (.ext (.t 53) 1),
 oo 16 (.mv (.t 56)),
 oo 17 (.mv (.t 57))]
abbrev i3r7 : List IOper := [
 oo 59 (.ld true 18 (.t 15)),
 oo 60 (.call (.c (.fn 11 [])) [.t 59]),
 oo 58 (.mv (.t 60)),
 oo 61 (.ext (.t 58) 0),
 oo 62 (.ext (.t 58) 1),
 oo 18 (.mv (.t 61)),
 oo 19 (.mv (.t 62))]
abbrev i3r8 : List (IOper × List Nat) := [
 (oo 63 (.ld true 18 (.t 15)), []),
 (oo 64 (.call (.c (.fn 12 [])) [.t 63]), []),
 (oo 65 (.ld true 18 (.t 15)), [0, 1]),
 (oo 66 (.call (.c (.fn 13 [])) [.t 65]), []),
 (oo 67 (.bin .neq (.t 64) (.t 66)), []),
 (ot 68 (.mv (.t 67)), []),
 (og 69 (.mv (.t 16)) 68 false false, []),
 (og 70 (.mv (.t 18)) 68 false false, [6]),
 (og 71 (.bin .neq (.t 69) (.t 70)) 68 false false, []),
 (oo 72 (.pick (.t 68) (.c (.b true)) (.t 71)), []),
 (ot 73 (.mv (.t 72)), []),
 (og 74 (.mv (.t 17)) 73 false false, []),
 (og 75 (.mv (.t 19)) 73 false false, [11]),
 (og 76 (.bin .neq (.t 74) (.t 75)) 73 false false, []),
 (ot 77 (.pick (.t 73) (.c (.b true)) (.t 76)), [])]
abbrev i3r9 : List IOper := [
 oo 12 (.mv (.c (.b false)))]
abbrev i3r10 : List IOper := [
 oo 78 (.ld true 2 (.t 11)),
 oo 79 (.ixaA 2 1 (.t 11) (.c (.i .i64 0))),
 oo 80 (.ld false 1 (.t 79)),
 oo 81 (.bin .rem (.t 80) (.c (.i .i64 3))),
 oo 82 (.ixaA 2 1 (.t 11) (.c (.i .i64 1))),
 oo 83 (.ld false 1 (.t 82)),
 oo 84 (.bin .rem (.t 83) (.c (.i .i64 4))),
 oo 85 (.build [.i .i64 0, .i .i64 0] [(0, 1, .t 81), (1, 1, .t 84)]),
 oo 86 (.build [.i .i64 0, .i .i64 0] [(0, 1, .c (.i .i64 (-1))), (1, 1, .c (.i .i64 1))]),
 oo 87 (.build [.i .i64 0, .i .i64 0, .i .i64 0, .i .i64 0, .i .i64 0, .i .i64 0] [(0, 2, .t 78), (2, 2, .t 85), (4, 2, .t 86)]),
 oo 88 (.mv (.c (.i .i64 0)))]
abbrev i3r11 : List IOper := [
 ot 89 (.bin .lss (.t 88) (.c (.i .i64 3)))]
abbrev i3r12 : List IOper := [
 oo 90 (.ixA 3 2 true (.t 87) (.t 88)),
 oo 21 (.new [.i .i64 0, .i .i64 0]),
 on_ (.st 2 (.t 21) (.t 90))]
abbrev i3r13 : List IOper := [
 oo 92 (.ld true 18 (.t 15)),
 oo 93 (.ixaA 2 1 (.t 21) (.c (.i .i64 0))),
 oo 94 (.ld false 1 (.t 93)),
 oo 95 (.ixaA 2 1 (.t 21) (.c (.i .i64 1))),
 oo 96 (.ld false 1 (.t 95)),
 oo 97 (.call (.c (.fn 14 [])) [.t 92, .t 94, .t 96]),
 oo 91 (.mv (.t 97)),
 oo 98 (.ext (.t 91) 0),
 oo 99 (.ext (.t 91) 1),
 oo 22 (.new [.ns, .i .i64 0, .i .i64 0, .i .i64 0, .i .i64 0, .i .i64 0, .i .i64 0, .i .i64 0, .i .i64 0, .b false, .i .i64 0, .i .i64 0, .i .i64 0, .i .i64 0, .i .i64 0, .i .i64 0, .i .i64 0, .i .i64 0]),
 on_ (.st 18 (.t 22) (.t 98)),
 oo 23 (.mv (.t 99))]
abbrev i3r14 : List IOper := [
 oo 101 (.ld true 18 (.t 15)),
 oo 102 (.ixaA 2 1 (.t 21) (.c (.i .i64 0))),
 oo 103 (.ld false 1 (.t 102)),
 oo 104 (.ixaA 2 1 (.t 21) (.c (.i .i64 1))),
 oo 105 (.ld false 1 (.t 104)),
 oo 106 (.call (.c (.fn 15 [])) [.t 101, .t 103, .t 105]),
 oo 100 (.mv (.t 106)),
 oo 107 (.ext (.t 100) 0),
 oo 108 (.ext (.t 100) 1),
 oo 24 (.new [.ns, .i .i64 0, .i .i64 0, .i .i64 0, .i .i64 0, .i .i64 0, .i .i64 0, .i .i64 0, .i .i64 0, .b false, .i .i64 0, .i .i64 0, .i .i64 0, .i .i64 0, .i .i64 0, .i .i64 0, .i .i64 0, .i .i64 0]),
 on_ (.st 18 (.t 24) (.t 107)),
 oo 25 (.mv (.t 108))]
abbrev i3r15 : List IOper := [
 oo 109 (.mv (.t 23)),
 oo 110 (.mv (.t 25)),
 oo 111 (.bin .neq (.t 109) (.t 110)),
 ot 112 (.mv (.t 111)),
 og 113 (.ld true 18 (.t 22)) 112 false false,
 og 114 (.ld true 18 (.t 24)) 112 false false,
 og 115 (.call (.c (.fn 16 [])) [.t 113, .t 114]) 112 false false,
 og 116 (.not (.t 115)) 112 false false,
 ot 117 (.pick (.t 112) (.c (.b true)) (.t 116))]
abbrev i3r16 : List IOper := [
 oo 12 (.mv (.c (.b false)))]
abbrev i3r17 : List IOper := [
 oo 118 (.bin .add (.t 88) (.c (.i .i64 1))),
 oo 88 (.mv (.t 118))]
abbrev i3l18 : ICode := (.seq (.reg i3r11) (.seq (.cond (.t 89) .skip (.exit 2)) (.seq (.block 3 (.seq (.reg i3r12) (.seq (.reg i3r13) (.seq (.reg i3r14) (.seq (.reg i3r15) (.cond (.t 117) (.seq (.reg i3r16) .ret) .skip)))))) (.reg i3r17))))
abbrev i3r19 : List IOper := [
 oo 120 (.fa 0 (.t 15)),
 oo 121 (.ld false 1 (.t 120)),
 oo 122 (.fa 1 (.t 15)),
 oo 123 (.ld false 1 (.t 122)),
 oo 124 (.fa 2 (.t 15)),
 oo 125 (.ld false 1 (.t 124)),
 oo 126 (.fa 14 (.t 15)),
 oo 127 (.ld true 4 (.t 126)),
 oo 128 (.call (.c (.fn 17 [])) [.t 121, .t 123, .t 125, .t 127]),
 oo 119 (.mv (.t 128)),
 oo 129 (.ext (.t 119) 0),
 oo 130 (.ext (.t 119) 1),
 oo 26 (.new [.ns, .i .i64 0, .i .i64 0, .i .i64 0, .i .i64 0, .i .i64 0, .i .i64 0, .i .i64 0, .i .i64 0, .b false, .i .i64 0, .i .i64 0, .i .i64 0, .i .i64 0, .i .i64 0, .i .i64 0, .i .i64 0, .i .i64 0]),
 on_ (.st 18 (.t 26) (.t 129)),
 oo 17 (.mv (.t 130))]
abbrev i3r20 : List IOper := [
 oo 132 (.fa 0 (.t 15)),
 oo 133 (.ld false 1 (.t 132)),
 oo 134 (.fa 1 (.t 15)),
 oo 135 (.ld false 1 (.t 134)),
 oo 136 (.fa 2 (.t 15)),
 oo 137 (.ld false 1 (.t 136)),
 oo 138 (.fa 14 (.t 15)),
 oo 139 (.ld true 4 (.t 138)),
 oo 140 (.call (.c (.fn 18 [])) [.t 133, .t 135, .t 137, .t 139]),
 oo 131 (.mv (.t 140)),
 oo 141 (.ext (.t 131) 0),
 oo 142 (.ext (.t 131) 1),
 oo 27 (.new [.ns, .i .i64 0, .i .i64 0, .i .i64 0, .i .i64 0, .i .i64 0, .i .i64 0, .i .i64 0, .i .i64 0, .b false, .i .i64 0, .i .i64 0, .i .i64 0, .i .i64 0, .i .i64 0, .i .i64 0, .i .i64 0, .i .i64 0]),
 on_ (.st 18 (.t 27) (.t 141)),
 oo 19 (.mv (.t 142))]
abbrev i3r21 : List IOper := [
 oo 143 (.mv (.t 17)),
 oo 144 (.mv (.t 19)),
 oo 145 (.bin .neq (.t 143) (.t 144)),
 ot 146 (.mv (.t 145)),
 og 147 (.ld true 18 (.t 26)) 146 false false,
 og 148 (.ld true 18 (.t 27)) 146 false false,
 og 149 (.call (.c (.fn 16 [])) [.t 147, .t 148]) 146 false false,
 og 150 (.not (.t 149)) 146 false false,
 ot 151 (.pick (.t 146) (.c (.b true)) (.t 150))]
abbrev i3r22 : List IOper := [
 oo 12 (.mv (.c (.b false)))]
abbrev i3r23 : List IOper := [
 oo 152 (.bin .add (.t 50) (.c (.i .i64 1))),
 oo 50 (.mv (.t 152))]
abbrev i3l24 : ICode := (.seq (.reg i3r4) (.seq (.cond (.t 51) .skip (.exit 0)) (.seq (.block 1 (.seq (.reg i3r5) (.seq (.reg i3r6) (.seq (.reg i3r7) (.seq (.seq (.dreg i3r8) (.cond (.t 77) (.seq (.reg i3r9) .ret) .skip)) (.seq (.seq (.reg i3r10) (.block 2 (.loop i3l18))) (.seq (.reg i3r19) (.seq (.reg i3r20) (.seq (.reg i3r21) (.cond (.t 151) (.seq (.reg i3r22) .ret) .skip)))))))))) (.reg i3r23))))
abbrev i3r25 : List IOper := [
 oo 154 (.mv (.t 3)),
 oo 155 (.ixaA 2 1 (.t 11) (.c (.i .i64 0))),
 oo 156 (.ld false 1 (.t 155)),
 oo 157 (.ixaA 2 1 (.t 11) (.c (.i .i64 1))),
 oo 158 (.ld false 1 (.t 157)),
 oo 159 (.ld true 4 (.t 10)),
 oo 160 (.call (.c (.fn 17 [])) [.t 154, .t 156, .t 158, .t 159]),
 oo 153 (.mv (.t 160)),
 oo 161 (.ext (.t 153) 0),
 oo 162 (.ext (.t 153) 1),
 oo 28 (.new [.ns, .i .i64 0, .i .i64 0, .i .i64 0, .i .i64 0, .i .i64 0, .i .i64 0, .i .i64 0, .i .i64 0, .b false, .i .i64 0, .i .i64 0, .i .i64 0, .i .i64 0, .i .i64 0, .i .i64 0, .i .i64 0, .i .i64 0]),
 on_ (.st 18 (.t 28) (.t 161)),
 oo 29 (.mv (.t 162))]
abbrev i3r26 : List IOper := [
 oo 164 (.mv (.t 3)),
 oo 165 (.ixaA 2 1 (.t 11) (.c (.i .i64 0))),
 oo 166 (.ld false 1 (.t 165)),
 oo 167 (.ixaA 2 1 (.t 11) (.c (.i .i64 1))),
 oo 168 (.ld false 1 (.t 167)),
 oo 169 (.ld true 4 (.t 10)),
 oo 170 (.call (.c (.fn 18 [])) [.t 164, .t 166, .t 168, .t 169]),
 oo 163 (.mv (.t 170)),
 oo 171 (.ext (.t 163) 0),
 oo 172 (.ext (.t 163) 1),
 oo 30 (.new [.ns, .i .i64 0, .i .i64 0, .i .i64 0, .i .i64 0, .i .i64 0, .i .i64 0, .i .i64 0, .i .i64 0, .b false, .i .i64 0, .i .i64 0, .i .i64 0, .i .i64 0, .i .i64 0, .i .i64 0, .i .i64 0, .i .i64 0]),
 on_ (.st 18 (.t 30) (.t 171)),
 oo 31 (.mv (.t 172))]
abbrev i3r27 : List IOper := [
 oo 173 (.mv (.t 29)),
 oo 174 (.mv (.t 31)),
 oo 175 (.bin .eql (.t 173) (.t 174)),
 ot 176 (.mv (.t 175)),
 og 177 (.ld true 18 (.t 28)) 176 true false,
 og 178 (.ld true 18 (.t 30)) 176 true false,
 og 179 (.call (.c (.fn 16 [])) [.t 177, .t 178]) 176 true false,
 oo 180 (.pick (.t 176) (.t 179) (.c (.b false))),
 ot 181 (.mv (.t 180)),
 og 182 (.call (.c (.fn 19 [])) []) 181 true false,
 oo 183 (.pick (.t 181) (.t 182) (.c (.b false))),
 oo 12 (.mv (.t 183))]
abbrev i3c : ICode := (.seq (.reg i3r0) (.seq (.reg i3r1) (.seq (.reg i3r2) (.seq (.seq (.dreg i3r3) (.block 0 (.loop i3l24))) (.seq (.reg i3r25) (.seq (.reg i3r26) (.seq (.reg i3r27) .ret)))))))
def i3 : IFn := { np := 6, N := 184, ct := [51, 77, 89, 117, 151], code := i3c, res := [.t 12] }
end Go.Proofs.Lys
