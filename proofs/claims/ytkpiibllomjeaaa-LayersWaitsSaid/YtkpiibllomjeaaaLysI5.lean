/- The small language's text of the functions; printed by ShowI.lean. -/
import Derived.Test.YtkpiibllomjeaaaProg
import Derived.Test.YtkpiibllomjeaaaAbRuns
namespace Go.Proofs.Lys
open Go.Ab
abbrev i5r0 : List IOper := [
 oo 3 (.box (.t 0)),
 oo 6 (.mv (.c (.b false)))]
abbrev i5r1 : List IOper := [
 oo 32 (.call (.c (.fn 19 [])) []),
 ot 33 (.not (.t 32))]
abbrev i5r2 : List IOper := [
 oo 6 (.mv (.c (.b false)))]
abbrev i5r3 : List IOper := [
 oo 34 (.ld true 21 (.t 3)),
 oo 35 (.call (.c (.fn 8 [])) [.t 34]),
 oo 7 (.new [.ns, .i .i64 0, .i .i64 0, .i .i64 0, .i .i64 0, .i .i64 0, .i .i64 0, .i .i64 0, .i .i64 0, .b false, .i .i64 0, .i .i64 0, .i .i64 0, .i .i64 0, .i .i64 0, .i .i64 0, .i .i64 0, .i .i64 0, .ns, .ns, .ns, .i .i64 0, .i .i64 0, .i .i64 0]),
 on_ (.st 24 (.t 7) (.t 35))]
abbrev i5r4 : List IOper := [
 oo 36 (.fa 0 (.t 7)),
 oo 37 (.fa 3 (.t 36)),
 oo 38 (.ld false 1 (.t 37)),
 ot 39 (.bin .lss (.t 38) (.c (.i .i64 0)))]
abbrev i5r5 : List IOper := [
 oo 6 (.mv (.c (.b true)))]
abbrev i5r6 : List IOper := [
 oo 40 (.fa 0 (.t 7)),
 oo 41 (.fa 3 (.t 40)),
 oo 42 (.ld false 1 (.t 41)),
 oo 43 (.bin .add (.t 42) (.c (.i .i64 1))),
 oo 44 (.mv (.t 2)),
 oo 45 (.bin .rem (.t 44) (.c (.i .u8 2))),
 oo 46 (.i2i .i64 (.t 45)),
 oo 47 (.bin .add (.t 43) (.t 46)),
 oo 48 (.bin .rem (.t 47) (.c (.i .i64 3))),
 oo 8 (.mv (.t 48))]
abbrev i5r7 : List IOper := [
 oo 50 (.fa 0 (.t 7)),
 oo 51 (.ld true 18 (.t 50)),
 oo 52 (.fa 0 (.t 7)),
 oo 53 (.fa 3 (.t 52)),
 oo 54 (.ld false 1 (.t 53)),
 oo 55 (.fa 0 (.t 7)),
 oo 56 (.fa 6 (.t 55)),
 oo 57 (.ld false 1 (.t 56)),
 oo 58 (.call (.c (.fn 14 [])) [.t 51, .t 54, .t 57]),
 oo 49 (.mv (.t 58)),
 oo 59 (.ext (.t 49) 0),
 oo 60 (.ext (.t 49) 1),
 oo 9 (.new [.ns, .i .i64 0, .i .i64 0, .i .i64 0, .i .i64 0, .i .i64 0, .i .i64 0, .i .i64 0, .i .i64 0, .b false, .i .i64 0, .i .i64 0, .i .i64 0, .i .i64 0, .i .i64 0, .i .i64 0, .i .i64 0, .i .i64 0]),
 on_ (.st 18 (.t 9) (.t 59)),
 oo 10 (.mv (.t 60))]
abbrev i5r8 : List IOper := [
 oo 62 (.fa 0 (.t 7)),
 oo 63 (.ld true 18 (.t 62)),
 oo 64 (.mv (.t 8)),
 oo 65 (.fa 0 (.t 7)),
 oo 66 (.fa 6 (.t 65)),
 oo 67 (.ld false 1 (.t 66)),
 oo 68 (.call (.c (.fn 14 [])) [.t 63, .t 64, .t 67]),
 oo 61 (.mv (.t 68)),
 oo 69 (.ext (.t 61) 0),
 oo 70 (.ext (.t 61) 1),
 oo 11 (.new [.ns, .i .i64 0, .i .i64 0, .i .i64 0, .i .i64 0, .i .i64 0, .i .i64 0, .i .i64 0, .i .i64 0, .b false, .i .i64 0, .i .i64 0, .i .i64 0, .i .i64 0, .i .i64 0, .i .i64 0, .i .i64 0, .i .i64 0]),
 on_ (.st 18 (.t 11) (.t 69)),
 oo 12 (.mv (.t 70))]
abbrev i5r9 : List IOper := [
 oo 72 (.ld true 18 (.t 11)),
 oo 73 (.call (.c (.fn 10 [])) [.t 72]),
 oo 71 (.mv (.t 73)),
 oo 74 (.ext (.t 71) 0),
 oo 75 (.ext (.t 71) 1),
 oo 13 (.mv (.t 74)),
 oo 14 (.mv (.t 75))]
abbrev i5r10 : List IOper := [
 oo 76 (.mv (.t 10)),
 oo 77 (.bin .neq (.t 76) (.c (.i .i64 0))),
 ot 78 (.mv (.t 77)),
 og 79 (.mv (.t 12)) 78 false false,
 og 80 (.bin .neq (.t 79) (.c (.i .i64 0))) 78 false false,
 oo 81 (.pick (.t 78) (.c (.b true)) (.t 80)),
 ot 82 (.mv (.t 81)),
 og 83 (.mv (.t 14)) 82 false false,
 og 84 (.bin .neq (.t 83) (.c (.i .i64 0))) 82 false false,
 oo 85 (.pick (.t 82) (.c (.b true)) (.t 84)),
 ot 86 (.mv (.t 85)),
 og 87 (.mv (.t 13)) 86 false false,
 og 88 (.mv (.t 8)) 86 false false,
 og 89 (.bin .neq (.t 87) (.t 88)) 86 false false,
 ot 90 (.pick (.t 86) (.c (.b true)) (.t 89))]
abbrev i5r11 : List IOper := [
 oo 6 (.mv (.c (.b false)))]
abbrev i5r12 : List IOper := [
 oo 91 (.mv (.t 1)),
 oo 92 (.mv (.t 1)),
 oo 93 (.lenV (.t 92)),
 oo 94 (.mn (.t 93) [.c (.i .i64 30)]),
 oo 95 (.slV 4 (.t 91) none (some (.t 94)) none),
 oo 96 (.lenV (.t 95)),
 oo 97 (.mv (.c (.i .i64 0)))]
abbrev i5r13 : List IOper := [
 ot 98 (.bin .lss (.t 97) (.t 96))]
abbrev i5r14 : List IOper := [
 oo 99 (.ixaV 4 (.t 95) (.t 97)),
 oo 100 (.ld true 4 (.t 99)),
 oo 16 (.new [.i .u8 0, .i .u8 0, .i .u8 0, .i .u8 0]),
 on_ (.st 4 (.t 16) (.t 100))]
abbrev i5r15 : List IOper := [
 oo 102 (.ld true 24 (.t 7)),
 oo 103 (.ld true 4 (.t 16)),
 oo 104 (.call (.c (.fn 20 [])) [.t 102, .t 103]),
 oo 101 (.mv (.t 104)),
 oo 105 (.ext (.t 101) 0),
 oo 106 (.ext (.t 101) 1),
 oo 107 (.ext (.t 101) 2),
 oo 17 (.new [.ns, .i .i64 0, .i .i64 0, .i .i64 0, .i .i64 0, .i .i64 0, .i .i64 0, .i .i64 0, .i .i64 0, .b false, .i .i64 0, .i .i64 0, .i .i64 0, .i .i64 0, .i .i64 0, .i .i64 0, .i .i64 0, .i .i64 0, .ns, .ns, .ns, .i .i64 0, .i .i64 0, .i .i64 0]),
 oo 18 (.new [.b false, .i .i64 0, .i .i64 0, .i .i64 0, .i .i64 0, .ns, .ns, .i .i64 0, .s []]),
 on_ (.st 24 (.t 17) (.t 105)),
 on_ (.st 9 (.t 18) (.t 106)),
 oo 19 (.mv (.t 107))]
abbrev i5r16 : List IOper := [
 oo 108 (.ld true 24 (.t 17)),
 on_ (.st 24 (.t 7) (.t 108))]
abbrev i5r17 : List (IOper × List Nat) := [
 (oo 109 (.mv (.t 19)), []),
 (oo 110 (.not (.t 109)), []),
 (ot 111 (.mv (.t 110)), []),
 (og 112 (.fa 4 (.t 18)) 111 false false, []),
 (og 113 (.ld false 1 (.t 112)) 111 false false, []),
 (og 114 (.call (.c (.fn 26 [])) []) 111 false false, [3, 4]),
 (og 115 (.fa 0 (.t 7)) 111 false false, [3, 4, 5]),
 (og 116 (.fa 3 (.t 115)) 111 false false, [3, 4, 5]),
 (og 117 (.ld false 1 (.t 116)) 111 false false, [3, 4, 5]),
 (og 118 (.ixaV 1 (.t 114) (.t 117)) 111 false false, [3, 4]),
 (og 119 (.ld false 1 (.t 118)) 111 false false, [3, 4]),
 (og 120 (.bin .neq (.t 113) (.t 119)) 111 false false, []),
 (ot 121 (.pick (.t 111) (.c (.b true)) (.t 120)), [])]
abbrev i5r18 : List IOper := [
 oo 123 (.ld true 18 (.t 9)),
 oo 124 (.ld true 9 (.t 18)),
 oo 125 (.call (.c (.fn 22 [])) [.t 123, .t 124]),
 oo 122 (.mv (.t 125)),
 oo 126 (.ext (.t 122) 0),
 oo 127 (.ext (.t 122) 1),
 oo 128 (.ext (.t 122) 2),
 oo 20 (.new [.ns, .i .i64 0, .i .i64 0, .i .i64 0, .i .i64 0, .i .i64 0, .i .i64 0, .i .i64 0, .i .i64 0, .b false, .i .i64 0, .i .i64 0, .i .i64 0, .i .i64 0, .i .i64 0, .i .i64 0, .i .i64 0, .i .i64 0]),
 on_ (.st 18 (.t 20) (.t 126)),
 oo 21 (.mv (.t 127)),
 oo 22 (.mv (.t 128))]
abbrev i5r19 : List IOper := [
 oo 130 (.ld true 18 (.t 11)),
 oo 131 (.ld true 9 (.t 18)),
 oo 132 (.call (.c (.fn 22 [])) [.t 130, .t 131]),
 oo 129 (.mv (.t 132)),
 oo 133 (.ext (.t 129) 0),
 oo 134 (.ext (.t 129) 1),
 oo 135 (.ext (.t 129) 2),
 oo 23 (.new [.ns, .i .i64 0, .i .i64 0, .i .i64 0, .i .i64 0, .i .i64 0, .i .i64 0, .i .i64 0, .i .i64 0, .b false, .i .i64 0, .i .i64 0, .i .i64 0, .i .i64 0, .i .i64 0, .i .i64 0, .i .i64 0, .i .i64 0]),
 on_ (.st 18 (.t 23) (.t 133)),
 oo 24 (.mv (.t 134)),
 oo 25 (.mv (.t 135))]
abbrev i5r20 : List IOper := [
 oo 136 (.mv (.t 22)),
 oo 137 (.bin .neq (.t 136) (.c (.i .i64 0))),
 ot 138 (.mv (.t 137)),
 og 139 (.mv (.t 25)) 138 false false,
 og 140 (.bin .neq (.t 139) (.c (.i .i64 0))) 138 false false,
 oo 141 (.pick (.t 138) (.c (.b true)) (.t 140)),
 ot 142 (.mv (.t 141)),
 og 143 (.mv (.t 21)) 142 false false,
 og 144 (.mv (.t 24)) 142 false false,
 og 145 (.call (.c (.fn 24 [])) [.t 143, .t 144]) 142 false false,
 og 146 (.not (.t 145)) 142 false false,
 ot 147 (.pick (.t 142) (.c (.b true)) (.t 146))]
abbrev i5r21 : List IOper := [
 oo 6 (.mv (.c (.b false)))]
abbrev i5r22 : List (IOper × List Nat) := [
 (oo 148 (.ld true 18 (.t 20)), []),
 (oo 149 (.ld true 18 (.t 23)), [0]),
 (on_ (.st 18 (.t 9) (.t 148)), [1]),
 (on_ (.st 18 (.t 11) (.t 149)), [])]
abbrev i5r23 : List IOper := [
 oo 150 (.bin .add (.t 97) (.c (.i .i64 1))),
 oo 97 (.mv (.t 150))]
abbrev i5l24 : ICode := (.seq (.reg i5r13) (.seq (.cond (.t 98) .skip (.exit 0)) (.seq (.block 1 (.seq (.reg i5r14) (.seq (.reg i5r15) (.seq (.reg i5r16) (.seq (.seq (.dreg i5r17) (.cond (.t 121) (.exit 1) .skip)) (.seq (.reg i5r18) (.seq (.reg i5r19) (.seq (.seq (.reg i5r20) (.cond (.t 147) (.seq (.reg i5r21) .ret) .skip)) (.dreg i5r22))))))))) (.reg i5r23))))
abbrev i5r25 : List IOper := [
 oo 151 (.call (.c (.fn 26 [])) []),
 oo 152 (.mv (.t 8)),
 oo 153 (.ixaV 1 (.t 151) (.t 152)),
 oo 154 (.ld false 1 (.t 153)),
 oo 155 (.build [.b false, .b false, .b false, .b false, .i .i64 0, .i .i64 0, .i .i64 0, .i .i64 0] [(1, 1, .c (.b true)), (4, 1, .c (.i .i64 5)), (5, 1, .c (.i .i64 5))]),
 oo 156 (.call (.c (.fn 27 [])) [.t 154, .c (.i .i64 9), .c (.i .i64 9), .t 155]),
 oo 26 (.new [.b false, .i .i64 0, .i .i64 0, .i .i64 0, .i .i64 0, .ns, .ns, .i .i64 0, .s []]),
 on_ (.st 9 (.t 26) (.t 156))]
abbrev i5r26 : List IOper := [
 oo 158 (.ld true 18 (.t 11)),
 oo 159 (.ld true 9 (.t 26)),
 oo 160 (.call (.c (.fn 28 [])) [.t 158, .t 159]),
 oo 157 (.mv (.t 160)),
 oo 161 (.ext (.t 157) 0),
 oo 162 (.ext (.t 157) 1),
 oo 163 (.ext (.t 157) 2),
 oo 27 (.new [.ns, .i .i64 0, .i .i64 0, .i .i64 0, .i .i64 0, .i .i64 0, .i .i64 0, .i .i64 0, .i .i64 0, .b false, .i .i64 0, .i .i64 0, .i .i64 0, .i .i64 0, .i .i64 0, .i .i64 0, .i .i64 0, .i .i64 0]),
 oo 28 (.new [.b false, .i .i64 0, .i .i64 0, .i .i64 0, .i .i64 0, .ns, .ns, .i .i64 0, .s []]),
 on_ (.st 18 (.t 27) (.t 161)),
 on_ (.st 9 (.t 28) (.t 162)),
 oo 29 (.mv (.t 163))]
abbrev i5r27 : List IOper := [
 oo 165 (.ld true 18 (.t 27)),
 oo 166 (.call (.c (.fn 10 [])) [.t 165]),
 oo 164 (.mv (.t 166)),
 oo 167 (.ext (.t 164) 0),
 oo 168 (.ext (.t 164) 1),
 oo 30 (.mv (.t 167)),
 oo 31 (.mv (.t 168))]
abbrev i5r28 : List IOper := [
 oo 169 (.mv (.t 29)),
 ot 170 (.mv (.t 169)),
 og 171 (.fa 3 (.t 27)) 170 true false,
 og 172 (.ld false 1 (.t 171)) 170 true false,
 og 173 (.mv (.t 8)) 170 true false,
 og 174 (.bin .eql (.t 172) (.t 173)) 170 true false,
 oo 175 (.pick (.t 170) (.t 174) (.c (.b false))),
 ot 176 (.mv (.t 175)),
 og 177 (.mv (.t 31)) 176 true false,
 og 178 (.bin .eql (.t 177) (.c (.i .i64 4))) 176 true false,
 oo 179 (.pick (.t 176) (.t 178) (.c (.b false))),
 ot 180 (.mv (.t 179)),
 og 181 (.fa 2 (.t 28)) 180 true false,
 og 182 (.ld false 1 (.t 181)) 180 true false,
 og 183 (.fa 14 (.t 11)) 180 true false,
 og 184 (.fa 0 (.t 183)) 180 true false,
 og 185 (.ld false 1 (.t 184)) 180 true false,
 og 186 (.bin .add (.t 185) (.c (.i .i64 1))) 180 true false,
 og 187 (.bin .rem (.t 186) (.c (.i .i64 65536))) 180 true false,
 og 188 (.bin .eql (.t 182) (.t 187)) 180 true false,
 oo 189 (.pick (.t 180) (.t 188) (.c (.b false))),
 oo 6 (.mv (.t 189))]
abbrev i5c : ICode := (.seq (.reg i5r0) (.seq (.seq (.reg i5r1) (.cond (.t 33) (.seq (.reg i5r2) .ret) .skip)) (.seq (.reg i5r3) (.seq (.seq (.reg i5r4) (.cond (.t 39) (.seq (.reg i5r5) .ret) .skip)) (.seq (.reg i5r6) (.seq (.reg i5r7) (.seq (.reg i5r8) (.seq (.reg i5r9) (.seq (.seq (.reg i5r10) (.cond (.t 90) (.seq (.reg i5r11) .ret) .skip)) (.seq (.seq (.reg i5r12) (.block 0 (.loop i5l24))) (.seq (.reg i5r25) (.seq (.reg i5r26) (.seq (.reg i5r27) (.seq (.reg i5r28) .ret))))))))))))))
def i5 : IFn := { np := 3, N := 190, ct := [33, 39, 90, 98, 121, 147], code := i5c, res := [.t 6] }
theorem i5_eq : compF Try.prog Try.f5 = some i5 := by kernel_rfl
end Go.Proofs.Lys
