/- The small language's text of the functions; printed by ShowI.lean. -/
import Derived.Test.YthnmkedknannhaaProg
import Derived.Test.YthnmkedknannhaaAbRuns
namespace Go.Proofs.Res
open Go.Ab
abbrev i6r0 : List IOper := [
 oo 1 (.box (.t 0)),
 oo 2 (.mv (.c (.b false)))]
abbrev i6r1 : List IOper := [
 oo 24 (.call (.c (.fn 16 [])) []),
 ot 25 (.not (.t 24))]
abbrev i6r2 : List IOper := [
 oo 2 (.mv (.c (.b false)))]
abbrev i6r3 : List IOper := [
 oo 3 (.new [.i .i64 0, .b false, .i .i64 0, .ns])]
abbrev i6r4 : List IOper := [
 oo 4 (.new (bigZ 65536 (.i .i64 0))),
 oo 5 (.new (bigZ 65536 (.i .i64 0)))]
abbrev i6r5 : List IOper := [
 oo 6 (.new (bigZ 65536 (.b false)))]
abbrev i6r6 : List IOper := [
 oo 26 (.ld true 3 (.t 1)),
 oo 27 (.call (.c (.fn 17 [])) [.t 26]),
 oo 7 (.mv (.t 27))]
abbrev i6r7 : List IOper := [
 oo 28 (.ld true 3 (.t 1)),
 oo 29 (.call (.c (.fn 27 [])) [.t 28]),
 oo 30 (.lenV (.t 29)),
 oo 31 (.mv (.c (.i .i64 0)))]
abbrev i6r8 : List IOper := [
 ot 32 (.bin .lss (.t 31) (.t 30))]
abbrev i6r9 : List IOper := [
 oo 33 (.mv (.t 31)),
 oo 34 (.ixaV 1 (.t 29) (.t 31)),
 oo 35 (.ld false 1 (.t 34)),
 oo 9 (.new [.i .i64 0]),
 oo 8 (.mv (.t 33)),
 on_ (.st 1 (.t 9) (.t 35))]
abbrev i6r10 : List (IOper × List Nat) := [
 (oo 36 (.fa 0 (.t 3)), []),
 (oo 37 (.ld false 1 (.t 36)), []),
 (oo 38 (.fa 2 (.t 1)), [0, 1]),
 (oo 39 (.ld false 1 (.t 38)), [0, 1]),
 (oo 40 (.mv (.t 8)), [0, 1, 2, 3]),
 (oo 41 (.ixaV 3 (.t 39) (.t 40)), [0, 1]),
 (oo 42 (.fa 1 (.t 41)), [0, 1]),
 (oo 43 (.ld false 1 (.t 42)), [0, 1]),
 (oo 44 (.bin .rem (.t 43) (.c (.i .u16 700))), [0, 1]),
 (oo 45 (.i2i .i64 (.t 44)), [0, 1]),
 (oo 46 (.bin .add (.t 37) (.t 45)), []),
 (oo 10 (.new [.i .i64 0]), [0, 1, 2, 3, 4, 5, 6, 7, 8, 9, 10]),
 (on_ (.st 1 (.t 10) (.t 46)), [])]
abbrev i6r11 : List IOper := [
 oo 47 (.fa 2 (.t 1)),
 oo 48 (.ld false 1 (.t 47)),
 oo 49 (.mv (.t 8)),
 oo 50 (.ixaV 3 (.t 48) (.t 49)),
 oo 51 (.fa 0 (.t 50)),
 oo 52 (.ld false 1 (.t 51)),
 oo 53 (.bin .rem (.t 52) (.c (.i .u8 3))),
 ot 54 (.bin .neq (.t 53) (.c (.i .u8 0)))]
abbrev i6r12 : List IOper := [
 oo 56 (.ld true 4 (.t 3)),
 oo 57 (.ld false 1 (.t 10)),
 oo 58 (.ld false 1 (.t 9)),
 oo 59 (.call (.c (.fn 13 [])) [.t 56, .t 57, .t 58]),
 oo 55 (.mv (.t 59)),
 oo 60 (.ext (.t 55) 0),
 oo 61 (.ext (.t 55) 1),
 oo 11 (.new [.i .i64 0, .b false, .i .i64 0, .ns]),
 on_ (.st 4 (.t 11) (.t 60)),
 oo 12 (.mv (.t 61))]
abbrev i6r13 : List IOper := [
 oo 62 (.mv (.t 12)),
 ot 63 (.bin .neq (.t 62) (.c (.i .i64 0)))]
abbrev i6r14 : List IOper := [
 oo 64 (.mv (.t 12)),
 oo 65 (.bin .neq (.t 64) (.c (.i .i64 6))),
 ot 66 (.mv (.t 65)),
 og 67 (.mv (.t 12)) 66 true false,
 og 68 (.bin .neq (.t 67) (.c (.i .i64 3))) 66 true false,
 ot 69 (.pick (.t 66) (.t 68) (.c (.b false)))]
abbrev i6r15 : List IOper := [
 oo 2 (.mv (.c (.b false)))]
abbrev i6r16 : List IOper := [
 oo 70 (.ld false 1 (.t 9)),
 oo 71 (.ixaA 65536 1 (.t 6) (.t 70)),
 on_ (.st 1 (.t 71) (.c (.b true)))]
abbrev i6r17 : List IOper := [
 oo 72 (.fa 3 (.t 11)),
 oo 73 (.ld false 1 (.t 72)),
 oo 74 (.mkf 29 [.t 9]),
 oo 75 (.call (.c (.fn 28 [])) [.t 73, .t 74]),
 ot 76 (.mv (.t 75)),
 og 77 (.ld true 4 (.t 11)) 76 false false,
 og 78 (.call (.c (.fn 11 [])) [.t 77]) 76 false false,
 og 79 (.bin .neq (.t 78) (.c (.i .i64 0))) 76 false false,
 ot 80 (.pick (.t 76) (.c (.b true)) (.t 79))]
abbrev i6r18 : List IOper := [
 oo 2 (.mv (.c (.b false)))]
abbrev i6r19 : List IOper := [
 oo 81 (.ld false 1 (.t 9)),
 oo 82 (.fa 2 (.t 3)),
 oo 83 (.ld false 1 (.t 82)),
 oo 84 (.bin .sub (.t 81) (.t 83)),
 oo 85 (.bin .and (.t 84) (.c (.i .i64 65535))),
 oo 13 (.mv (.t 85))]
abbrev i6r20 : List IOper := [
 oo 86 (.fa 1 (.t 3)),
 oo 87 (.ld false 1 (.t 86)),
 ot 88 (.mv (.t 87)),
 og 89 (.mv (.t 13)) 88 true false,
 og 90 (.bin .lss (.t 89) (.c (.i .i64 32768))) 88 true false,
 ot 91 (.pick (.t 88) (.t 90) (.c (.b false)))]
abbrev i6r21 : List IOper := [
 oo 14 (.mv (.c (.i .i64 1)))]
abbrev i6r22 : List IOper := [
 oo 92 (.mv (.t 14)),
 oo 93 (.mv (.t 13)),
 ot 94 (.bin .lss (.t 92) (.t 93))]
abbrev i6r23 : List IOper := [
 oo 97 (.fa 2 (.t 3)),
 oo 98 (.ld false 1 (.t 97)),
 oo 99 (.mv (.t 14)),
 oo 100 (.bin .add (.t 98) (.t 99)),
 oo 101 (.bin .and (.t 100) (.c (.i .i64 65535))),
 oo 15 (.mv (.t 101))]
abbrev i6r24 : List IOper := [
 oo 102 (.mv (.t 15)),
 oo 103 (.mv (.t 15)),
 oo 104 (.ixaA 65536 1 (.t 6) (.t 102)),
 on_ (.st 1 (.t 104) (.c (.b false))),
 oo 105 (.ixaA 65536 1 (.t 4) (.t 103)),
 on_ (.st 1 (.t 105) (.c (.i .i64 0)))]
abbrev i6r25 : List IOper := [
 oo 106 (.fa 3 (.t 11)),
 oo 107 (.ld false 1 (.t 106)),
 oo 108 (.mv (.t 15)),
 oo 109 (.ld false 1 (.t 10)),
 oo 110 (.build [.i .i64 0, .i .i64 0, .i .i64 0, .i .i64 0] [(0, 1, .t 108), (1, 1, .t 109)]),
 oo 111 (.call (.c (.fn 30 [])) [.t 107, .t 110]),
 ot 112 (.not (.t 111))]
abbrev i6r26 : List IOper := [
 oo 2 (.mv (.c (.b false)))]
abbrev i6r27 : List IOper := [
 oo 95 (.mv (.t 14)),
 oo 96 (.bin .add (.t 95) (.c (.i .i64 1))),
 oo 14 (.mv (.t 96))]
abbrev i6l28 : ICode := (.seq (.seq (.reg i6r22) (.cond (.t 94) .skip (.exit 2))) (.seq (.block 3 (.seq (.reg i6r23) (.seq (.reg i6r24) (.seq (.reg i6r25) (.cond (.t 112) (.seq (.reg i6r26) .ret) .skip))))) (.reg i6r27)))
abbrev i6r29 : List IOper := [
 oo 113 (.ld true 4 (.t 11)),
 on_ (.st 4 (.t 3) (.t 113))]
abbrev i6r30 : List IOper := [
 oo 115 (.ld true 4 (.t 3)),
 oo 116 (.mv (.t 7)),
 oo 117 (.call (.c (.fn 18 [])) [.t 115, .t 116]),
 oo 114 (.mv (.t 117)),
 oo 118 (.ext (.t 114) 0),
 oo 119 (.ext (.t 114) 1),
 oo 16 (.mv (.t 118)),
 oo 17 (.mv (.t 119))]
abbrev i6r31 : List IOper := [
 oo 121 (.ld true 4 (.t 3)),
 oo 122 (.ld false 1 (.t 10)),
 oo 123 (.mv (.t 7)),
 oo 124 (.call (.c (.fn 20 [])) [.t 121, .t 122, .t 123]),
 oo 120 (.mv (.t 124)),
 oo 125 (.ext (.t 120) 0),
 oo 126 (.ext (.t 120) 1),
 oo 127 (.ext (.t 120) 2),
 oo 128 (.ext (.t 120) 3),
 oo 18 (.new [.i .i64 0, .b false, .i .i64 0, .ns]),
 on_ (.st 4 (.t 18) (.t 125)),
 oo 19 (.mv (.t 126)),
 oo 20 (.mv (.t 127)),
 oo 21 (.mv (.t 128))]
abbrev i6r32 : List IOper := [
 oo 129 (.mv (.t 21)),
 oo 130 (.bin .neq (.t 129) (.c (.i .i64 0))),
 ot 131 (.mv (.t 130)),
 og 132 (.ld true 4 (.t 18)) 131 false false,
 og 133 (.call (.c (.fn 11 [])) [.t 132]) 131 false false,
 og 134 (.bin .neq (.t 133) (.c (.i .i64 0))) 131 false false,
 oo 135 (.pick (.t 131) (.c (.b true)) (.t 134)),
 ot 136 (.mv (.t 135)),
 og 137 (.mv (.t 19)) 136 false false,
 og 138 (.lenV (.t 137)) 136 false false,
 og 139 (.bin .gtr (.t 138) (.c (.i .i64 0))) 136 false false,
 og 140 (.mv (.t 139)) 136 false true,
 og 141 (.mv (.t 20)) 140 false false,
 og 142 (.pick (.t 140) (.c (.b true)) (.t 141)) 136 false false,
 og 143 (.mv (.t 17)) 136 false false,
 og 144 (.bin .eql (.t 143) (.c (.i .i64 0))) 136 false false,
 og 145 (.mv (.t 144)) 136 false true,
 og 146 (.mv (.t 16)) 145 true false,
 og 147 (.ld false 1 (.t 10)) 145 true false,
 og 148 (.bin .leq (.t 146) (.t 147)) 145 true false,
 og 149 (.pick (.t 145) (.t 148) (.c (.b false))) 136 false false,
 og 150 (.eqk true false [.b] (.t 142) (.t 149)) 136 false false,
 ot 151 (.pick (.t 136) (.c (.b true)) (.t 150))]
abbrev i6r33 : List IOper := [
 oo 2 (.mv (.c (.b false)))]
abbrev i6r34 : List IOper := [
 oo 152 (.mv (.t 19)),
 oo 153 (.lenV (.t 152)),
 oo 154 (.mv (.c (.i .i64 0)))]
abbrev i6r35 : List IOper := [
 ot 155 (.bin .lss (.t 154) (.t 153))]
abbrev i6r36 : List IOper := [
 oo 156 (.ixaV 1 (.t 152) (.t 154)),
 oo 157 (.ld false 1 (.t 156)),
 oo 23 (.mv (.t 157))]
abbrev i6r37 : List (IOper × List Nat) := [
 (oo 158 (.mv (.t 23)), []),
 (oo 159 (.bin .lss (.t 158) (.c (.i .i64 0))), []),
 (ot 160 (.mv (.t 159)), []),
 (og 161 (.mv (.t 23)) 160 false false, []),
 (og 162 (.bin .gtr (.t 161) (.c (.i .i64 65535))) 160 false false, []),
 (oo 163 (.pick (.t 160) (.c (.b true)) (.t 162)), []),
 (ot 164 (.mv (.t 163)), []),
 (og 165 (.mv (.t 23)) 164 false false, []),
 (og 166 (.ixaA 65536 1 (.t 6) (.t 165)) 164 false false, []),
 (og 167 (.ld false 1 (.t 166)) 164 false false, []),
 (oo 168 (.pick (.t 164) (.c (.b true)) (.t 167)), []),
 (ot 169 (.mv (.t 168)), []),
 (og 170 (.mv (.t 23)) 169 false false, []),
 (og 171 (.ixaA 65536 1 (.t 4) (.t 170)) 169 false false, []),
 (og 172 (.ld false 1 (.t 171)) 169 false false, []),
 (og 173 (.bin .gtr (.t 172) (.c (.i .i64 0))) 169 false false, []),
 (og 174 (.mv (.t 173)) 169 false true, []),
 (og 175 (.ld false 1 (.t 10)) 174 true false, []),
 (og 176 (.mv (.t 23)) 174 true false, [17]),
 (og 177 (.ixaA 65536 1 (.t 5) (.t 176)) 174 true false, [17]),
 (og 178 (.ld false 1 (.t 177)) 174 true false, [17]),
 (og 179 (.bin .sub (.t 175) (.t 178)) 174 true false, []),
 (og 180 (.mv (.t 7)) 174 true false, [17, 18, 19, 20, 21]),
 (og 181 (.mn (.t 180) [.c (.i .i64 1000)]) 174 true false, [17, 18, 19, 20, 21]),
 (og 182 (.bin .lss (.t 179) (.t 181)) 174 true false, []),
 (og 183 (.pick (.t 174) (.t 182) (.c (.b false))) 169 false false, []),
 (ot 184 (.pick (.t 169) (.c (.b true)) (.t 183)), [])]
abbrev i6r38 : List IOper := [
 oo 2 (.mv (.c (.b false)))]
abbrev i6r39 : List IOper := [
 oo 185 (.mv (.t 23)),
 oo 186 (.ixaA 65536 1 (.t 4) (.t 185)),
 oo 187 (.ld false 1 (.t 186)),
 oo 188 (.bin .add (.t 187) (.c (.i .i64 1))),
 oo 189 (.ixaA 65536 1 (.t 4) (.t 185)),
 on_ (.st 1 (.t 189) (.t 188))]
abbrev i6r40 : List IOper := [
 oo 190 (.mv (.t 23)),
 oo 191 (.ld false 1 (.t 10)),
 oo 192 (.ixaA 65536 1 (.t 5) (.t 190)),
 on_ (.st 1 (.t 192) (.t 191))]
abbrev i6r41 : List IOper := [
 oo 193 (.mv (.t 23)),
 oo 194 (.ixaA 65536 1 (.t 4) (.t 193)),
 oo 195 (.ld false 1 (.t 194)),
 ot 196 (.bin .gtr (.t 195) (.c (.i .i64 6)))]
abbrev i6r42 : List IOper := [
 oo 2 (.mv (.c (.b false)))]
abbrev i6r43 : List IOper := [
 oo 197 (.bin .add (.t 154) (.c (.i .i64 1))),
 oo 154 (.mv (.t 197))]
abbrev i6l44 : ICode := (.seq (.reg i6r35) (.seq (.cond (.t 155) .skip (.exit 4)) (.seq (.block 5 (.seq (.reg i6r36) (.seq (.seq (.dreg i6r37) (.cond (.t 184) (.seq (.reg i6r38) .ret) .skip)) (.seq (.reg i6r39) (.seq (.reg i6r40) (.seq (.reg i6r41) (.cond (.t 196) (.seq (.reg i6r42) .ret) .skip))))))) (.reg i6r43))))
abbrev i6r45 : List IOper := [
 oo 198 (.mv (.t 20)),
 oo 199 (.fa 3 (.t 18)),
 oo 200 (.ld false 1 (.t 199)),
 oo 201 (.lenV (.t 200)),
 oo 202 (.fa 3 (.t 3)),
 oo 203 (.ld false 1 (.t 202)),
 oo 204 (.lenV (.t 203)),
 oo 205 (.bin .lss (.t 201) (.t 204)),
 oo 206 (.eqk true false [.b] (.t 198) (.t 205)),
 ot 207 (.mv (.t 206)),
 og 208 (.fa 3 (.t 18)) 207 false false,
 og 209 (.ld false 1 (.t 208)) 207 false false,
 og 210 (.mkf 31 [.t 10]) 207 false false,
 og 211 (.call (.c (.fn 28 [])) [.t 209, .t 210]) 207 false false,
 ot 212 (.pick (.t 207) (.c (.b true)) (.t 211))]
abbrev i6r46 : List IOper := [
 oo 2 (.mv (.c (.b false)))]
abbrev i6r47 : List IOper := [
 oo 213 (.ld true 4 (.t 18)),
 on_ (.st 4 (.t 3) (.t 213))]
abbrev i6r48 : List IOper := [
 oo 214 (.bin .add (.t 31) (.c (.i .i64 1))),
 oo 31 (.mv (.t 214))]
abbrev i6l49 : ICode := (.seq (.reg i6r8) (.seq (.cond (.t 32) .skip (.exit 0)) (.seq (.block 1 (.seq (.reg i6r9) (.seq (.dreg i6r10) (.seq (.seq (.reg i6r11) (.cond (.t 54) (.seq (.reg i6r12) (.seq (.seq (.reg i6r13) (.cond (.t 63) (.seq (.seq (.reg i6r14) (.cond (.t 69) (.seq (.reg i6r15) .ret) .skip)) (.exit 1)) .skip)) (.seq (.reg i6r16) (.seq (.seq (.reg i6r17) (.cond (.t 80) (.seq (.reg i6r18) .ret) .skip)) (.seq (.seq (.reg i6r19) (.seq (.reg i6r20) (.cond (.t 91) (.seq (.reg i6r21) (.block 2 (.loop i6l28))) .skip))) (.seq (.reg i6r29) (.exit 1))))))) .skip)) (.seq (.reg i6r30) (.seq (.reg i6r31) (.seq (.seq (.reg i6r32) (.cond (.t 151) (.seq (.reg i6r33) .ret) .skip)) (.seq (.seq (.reg i6r34) (.block 4 (.loop i6l44))) (.seq (.seq (.reg i6r45) (.cond (.t 212) (.seq (.reg i6r46) .ret) .skip)) (.reg i6r47)))))))))) (.reg i6r48))))
abbrev i6r50 : List IOper := [
 oo 2 (.mv (.c (.b true)))]
abbrev i6c : ICode := (.seq (.reg i6r0) (.seq (.seq (.reg i6r1) (.cond (.t 25) (.seq (.reg i6r2) .ret) .skip)) (.seq (.reg i6r3) (.seq (.reg i6r4) (.seq (.reg i6r5) (.seq (.reg i6r6) (.seq (.seq (.reg i6r7) (.block 0 (.loop i6l49))) (.seq (.reg i6r50) .ret))))))))
def i6 : IFn := { np := 1, N := 215, ct := [25, 32, 54, 63, 69, 80, 91, 94, 112, 151, 155, 184, 196, 212], code := i6c, res := [.t 2] }
theorem i6_eq : compF Try.prog Try.f6 = some i6 := by kernel_rfl
abbrev i28r0 : List IOper := [
 oo 4 (.mv (.c (.b false)))]
abbrev i28r1 : List IOper := [
 oo 5 (.mv (.t 0)),
 oo 6 (.mv (.t 1)),
 oo 7 (.call (.c (.fn 64 [])) [.t 5, .t 6]),
 oo 8 (.bin .geq (.t 7) (.c (.i .i64 0))),
 oo 4 (.mv (.t 8))]
abbrev i28c : ICode := (.seq (.reg i28r0) (.seq (.reg i28r1) .ret))
def i28 : IFn := { np := 2, N := 9, ct := [], code := i28c, res := [.t 4] }
theorem i28_eq : compF Try.prog Try.f28 = some i28 := by kernel_rfl
abbrev i29r0 : List IOper := [
 oo 2 (.box (.t 0)),
 oo 3 (.mv (.c (.b false)))]
abbrev i29r1 : List IOper := [
 oo 4 (.fa 0 (.t 2)),
 oo 5 (.ld false 1 (.t 4)),
 oo 6 (.ld false 1 (.t 1)),
 oo 7 (.bin .eql (.t 5) (.t 6)),
 oo 3 (.mv (.t 7))]
abbrev i29c : ICode := (.seq (.reg i29r0) (.seq (.reg i29r1) .ret))
def i29 : IFn := { np := 2, N := 8, ct := [], code := i29c, res := [.t 3] }
theorem i29_eq : compF Try.prog Try.f29 = some i29 := by kernel_rfl
abbrev i30r0 : List IOper := [
 oo 3 (.box (.t 1)),
 oo 4 (.mv (.c (.b false)))]
abbrev i30r1 : List IOper := [
 oo 5 (.mv (.t 0)),
 oo 6 (.ld true 4 (.t 3)),
 oo 7 (.call (.c (.fn 65 [])) [.t 5, .t 6]),
 oo 8 (.bin .geq (.t 7) (.c (.i .i64 0))),
 oo 4 (.mv (.t 8))]
abbrev i30c : ICode := (.seq (.reg i30r0) (.seq (.reg i30r1) .ret))
def i30 : IFn := { np := 2, N := 9, ct := [], code := i30c, res := [.t 4] }
theorem i30_eq : compF Try.prog Try.f30 = some i30 := by kernel_rfl
abbrev i31r0 : List IOper := [
 oo 2 (.box (.t 0)),
 oo 3 (.mv (.c (.b false)))]
abbrev i31r1 : List IOper := [
 oo 4 (.ld false 1 (.t 1)),
 oo 5 (.fa 1 (.t 2)),
 oo 6 (.ld false 1 (.t 5)),
 oo 7 (.bin .sub (.t 4) (.t 6)),
 oo 8 (.bin .geq (.t 7) (.c (.i .i64 2000))),
 oo 3 (.mv (.t 8))]
abbrev i31c : ICode := (.seq (.reg i31r0) (.seq (.reg i31r1) .ret))
def i31 : IFn := { np := 2, N := 9, ct := [], code := i31c, res := [.t 3] }
theorem i31_eq : compF Try.prog Try.f31 = some i31 := by kernel_rfl
abbrev i65r0 : List IOper := [
 oo 3 (.box (.t 1)),
 oo 4 (.mv (.c (.i .i64 0)))]
abbrev i65r1 : List IOper := [
 oo 6 (.mv (.t 0)),
 oo 7 (.lenV (.t 6)),
 oo 8 (.mv (.c (.i .i64 0)))]
abbrev i65r2 : List IOper := [
 ot 9 (.bin .lss (.t 8) (.t 7))]
abbrev i65r3 : List IOper := [
 oo 10 (.mv (.t 8)),
 oo 5 (.mv (.t 10))]
abbrev i65r4 : List (IOper × List Nat) := [
 (oo 11 (.ld true 4 (.t 3)), []),
 (oo 12 (.mv (.t 0)), [0]),
 (oo 13 (.mv (.t 5)), [0, 1]),
 (oo 14 (.ixaV 4 (.t 12) (.t 13)), [0]),
 (oo 15 (.ld true 4 (.t 14)), [0]),
 (ot 16 (.eqk false true [.i, .i, .i, .i] (.t 11) (.t 15)), [])]
abbrev i65r5 : List IOper := [
 oo 17 (.mv (.t 5)),
 oo 4 (.mv (.t 17))]
abbrev i65r6 : List IOper := [
 oo 18 (.bin .add (.t 8) (.c (.i .i64 1))),
 oo 8 (.mv (.t 18))]
abbrev i65l7 : ICode := (.seq (.reg i65r2) (.seq (.cond (.t 9) .skip (.exit 0)) (.seq (.block 1 (.seq (.reg i65r3) (.seq (.dreg i65r4) (.cond (.t 16) (.seq (.reg i65r5) .ret) .skip)))) (.reg i65r6))))
abbrev i65r8 : List IOper := [
 oo 4 (.mv (.c (.i .i64 (-1))))]
abbrev i65c : ICode := (.seq (.reg i65r0) (.seq (.seq (.reg i65r1) (.block 0 (.loop i65l7))) (.seq (.reg i65r8) .ret)))
def i65 : IFn := { np := 2, N := 19, ct := [9, 16], code := i65c, res := [.t 4] }
theorem i65_eq : compF Try.prog Try.f65 = some i65 := by kernel_rfl
end Go.Proofs.Res
