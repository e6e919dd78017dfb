/- The small language's text of the functions; printed by ShowI.lean. -/
import Derived.Test.YtkpiibllomjeaaaProg
import Derived.Test.YtkpiibllomjeaaaAbRuns
namespace Go.Proofs.Lys
open Go.Ab
abbrev i7r0 : List IOper := [
 oo 2 (.box (.t 0)),
 oo 4 (.mv (.c (.b false)))]
abbrev i7r1 : List IOper := [
 oo 30 (.call (.c (.fn 19 [])) []),
 ot 31 (.not (.t 30))]
abbrev i7r2 : List IOper := [
 oo 4 (.mv (.c (.b false)))]
abbrev i7r3 : List IOper := [
 oo 32 (.ld true 21 (.t 2)),
 oo 33 (.call (.c (.fn 45 [])) [.t 32]),
 oo 5 (.new [.ns, .i .i64 0, .i .i64 0, .i .i64 0, .i .i64 0, .i .i64 0, .i .i64 0, .i .i64 0, .i .i64 0, .b false, .i .i64 0, .i .i64 0, .i .i64 0, .i .i64 0, .i .i64 0, .i .i64 0, .i .i64 0, .i .i64 0, .ns, .ns, .ns, .i .i64 0, .i .i64 0, .i .i64 0]),
 on_ (.st 24 (.t 5) (.t 33))]
abbrev i7r4 : List IOper := [
 oo 34 (.fa 0 (.t 5)),
 oo 35 (.fa 14 (.t 34)),
 oo 36 (.ld true 4 (.t 35)),
 oo 6 (.new [.i .i64 0, .i .i64 0, .i .i64 0, .i .i64 0]),
 on_ (.st 4 (.t 6) (.t 36))]
abbrev i7r5 : List IOper := [
 oo 7 (.new [.b false, .i .i64 0, .i .i64 0, .i .i64 0, .b false, .i .i64 0, .i .i64 0, .i .i64 0, .b false, .i .i64 0, .i .i64 0, .i .i64 0])]
abbrev i7r6 : List IOper := [
 oo 37 (.mv (.t 1)),
 oo 38 (.mv (.t 1)),
 oo 39 (.lenV (.t 38)),
 oo 40 (.mn (.t 39) [.c (.i .i64 60)]),
 oo 41 (.slV 4 (.t 37) none (some (.t 40)) none),
 oo 42 (.lenV (.t 41)),
 oo 43 (.mv (.c (.i .i64 0)))]
abbrev i7r7 : List IOper := [
 ot 44 (.bin .lss (.t 43) (.t 42))]
abbrev i7r8 : List IOper := [
 oo 45 (.ixaV 4 (.t 41) (.t 43)),
 oo 46 (.ld true 4 (.t 45)),
 oo 9 (.new [.i .u8 0, .i .u8 0, .i .u8 0, .i .u8 0]),
 on_ (.st 4 (.t 9) (.t 46))]
abbrev i7r9 : List IOper := [
 oo 47 (.fa 0 (.t 9)),
 oo 48 (.ld false 1 (.t 47)),
 oo 49 (.bin .rem (.t 48) (.c (.i .u8 8))),
 ot 50 (.bin .eql (.t 49) (.c (.i .u8 7)))]
abbrev i7r10 : List IOper := [
 oo 52 (.ld true 4 (.t 9)),
 oo 53 (.call (.c (.fn 25 [])) [.t 52]),
 oo 51 (.mv (.t 53)),
 oo 54 (.ext (.t 51) 0),
 oo 55 (.ext (.t 51) 1),
 oo 10 (.mv (.t 54)),
 oo 11 (.mv (.t 55))]
abbrev i7r11 : List IOper := [
 oo 57 (.fa 0 (.t 5)),
 oo 58 (.ld true 18 (.t 57)),
 oo 59 (.mv (.t 10)),
 oo 60 (.mv (.t 11)),
 oo 61 (.call (.c (.fn 14 [])) [.t 58, .t 59, .t 60]),
 oo 56 (.mv (.t 61)),
 oo 62 (.ext (.t 56) 0),
 oo 63 (.ext (.t 56) 1),
 oo 12 (.new [.ns, .i .i64 0, .i .i64 0, .i .i64 0, .i .i64 0, .i .i64 0, .i .i64 0, .i .i64 0, .i .i64 0, .b false, .i .i64 0, .i .i64 0, .i .i64 0, .i .i64 0, .i .i64 0, .i .i64 0, .i .i64 0, .i .i64 0]),
 on_ (.st 18 (.t 12) (.t 62)),
 oo 13 (.mv (.t 63))]
abbrev i7r12 : List IOper := [
 oo 64 (.mv (.t 13)),
 oo 65 (.bin .neq (.t 64) (.c (.i .i64 0))),
 ot 66 (.mv (.t 65)),
 og 67 (.ld true 18 (.t 12)) 66 false false,
 og 68 (.call (.c (.fn 12 [])) [.t 67]) 66 false false,
 og 69 (.bin .neq (.t 68) (.c (.i .i64 0))) 66 false false,
 ot 70 (.pick (.t 66) (.c (.b true)) (.t 69))]
abbrev i7r13 : List IOper := [
 oo 4 (.mv (.c (.b false)))]
abbrev i7r14 : List IOper := [
 oo 71 (.ld true 18 (.t 12)),
 oo 72 (.fa 0 (.t 5)),
 on_ (.st 18 (.t 72) (.t 71))]
abbrev i7r15 : List IOper := [
 oo 73 (.fa 0 (.t 9)),
 oo 74 (.ld false 1 (.t 73)),
 oo 75 (.bin .rem (.t 74) (.c (.i .u8 6))),
 oo 76 (.fa 0 (.t 9)),
 on_ (.st 1 (.t 76) (.t 75))]
abbrev i7r16 : List IOper := [
 oo 78 (.ld true 24 (.t 5)),
 oo 79 (.ld true 4 (.t 9)),
 oo 80 (.call (.c (.fn 20 [])) [.t 78, .t 79]),
 oo 77 (.mv (.t 80)),
 oo 81 (.ext (.t 77) 0),
 oo 82 (.ext (.t 77) 1),
 oo 83 (.ext (.t 77) 2),
 oo 14 (.new [.ns, .i .i64 0, .i .i64 0, .i .i64 0, .i .i64 0, .i .i64 0, .i .i64 0, .i .i64 0, .i .i64 0, .b false, .i .i64 0, .i .i64 0, .i .i64 0, .i .i64 0, .i .i64 0, .i .i64 0, .i .i64 0, .i .i64 0, .ns, .ns, .ns, .i .i64 0, .i .i64 0, .i .i64 0]),
 oo 15 (.new [.b false, .i .i64 0, .i .i64 0, .i .i64 0, .i .i64 0, .ns, .ns, .i .i64 0, .s []]),
 on_ (.st 24 (.t 14) (.t 81)),
 on_ (.st 9 (.t 15) (.t 82)),
 oo 16 (.mv (.t 83))]
abbrev i7r17 : List IOper := [
 oo 84 (.ld true 24 (.t 14)),
 on_ (.st 24 (.t 5) (.t 84))]
abbrev i7r18 : List IOper := [
 oo 85 (.mv (.t 16)),
 ot 86 (.not (.t 85))]
abbrev i7r19 : List IOper := [
 oo 88 (.fa 0 (.t 5)),
 oo 89 (.ld true 18 (.t 88)),
 oo 90 (.ld true 9 (.t 15)),
 oo 91 (.call (.c (.fn 28 [])) [.t 89, .t 90]),
 oo 87 (.mv (.t 91)),
 oo 92 (.ext (.t 87) 0),
 oo 93 (.ext (.t 87) 1),
 oo 94 (.ext (.t 87) 2),
 oo 17 (.new [.ns, .i .i64 0, .i .i64 0, .i .i64 0, .i .i64 0, .i .i64 0, .i .i64 0, .i .i64 0, .i .i64 0, .b false, .i .i64 0, .i .i64 0, .i .i64 0, .i .i64 0, .i .i64 0, .i .i64 0, .i .i64 0, .i .i64 0]),
 oo 18 (.new [.b false, .i .i64 0, .i .i64 0, .i .i64 0, .i .i64 0, .ns, .ns, .i .i64 0, .s []]),
 on_ (.st 18 (.t 17) (.t 92)),
 on_ (.st 9 (.t 18) (.t 93)),
 oo 19 (.mv (.t 94))]
abbrev i7r20 : List IOper := [
 oo 95 (.mv (.t 19)),
 oo 96 (.not (.t 95)),
 ot 97 (.mv (.t 96)),
 og 98 (.ld true 18 (.t 17)) 97 false false,
 og 99 (.call (.c (.fn 12 [])) [.t 98]) 97 false false,
 og 100 (.bin .neq (.t 99) (.c (.i .i64 0))) 97 false false,
 ot 101 (.pick (.t 97) (.c (.b true)) (.t 100))]
abbrev i7r21 : List IOper := [
 oo 4 (.mv (.c (.b false)))]
abbrev i7r22 : List IOper := [
 oo 102 (.ld true 18 (.t 17)),
 oo 103 (.fa 0 (.t 5)),
 on_ (.st 18 (.t 103) (.t 102))]
abbrev i7r23 : List IOper := [
 oo 104 (.fa 8 (.t 18)),
 oo 105 (.ld false 1 (.t 104)),
 ot 106 (.bin .eql (.t 105) (.c (.s [])))]
abbrev i7r24 : List IOper := [
 oo 108 (.fa 8 (.t 18)),
 oo 109 (.ld false 1 (.t 108)),
 oo 110 (.call (.c (.fn 46 [])) [.t 109]),
 oo 107 (.mv (.t 110)),
 oo 111 (.ext (.t 107) 0),
 oo 112 (.ext (.t 107) 1),
 oo 113 (.ext (.t 107) 2),
 oo 20 (.new [.b false, .b false, .b false, .b false, .i .i64 0, .i .i64 0, .i .i64 0, .i .i64 0]),
 on_ (.st 8 (.t 20) (.t 111)),
 oo 21 (.mv (.t 112)),
 oo 22 (.mv (.t 113))]
abbrev i7r25 : List IOper := [
 oo 115 (.fa 8 (.t 15)),
 oo 116 (.ld false 1 (.t 115)),
 oo 117 (.call (.c (.fn 46 [])) [.t 116]),
 oo 114 (.mv (.t 117)),
 oo 118 (.ext (.t 114) 0),
 oo 119 (.ext (.t 114) 1),
 oo 120 (.ext (.t 114) 2),
 oo 23 (.new [.b false, .b false, .b false, .b false, .i .i64 0, .i .i64 0, .i .i64 0, .i .i64 0]),
 on_ (.st 8 (.t 23) (.t 118)),
 oo 24 (.mv (.t 119)),
 oo 25 (.mv (.t 120))]
abbrev i7r26 : List IOper := [
 oo 121 (.mv (.t 22)),
 oo 122 (.bin .neq (.t 121) (.c (.i .i64 0))),
 ot 123 (.mv (.t 122)),
 og 124 (.mv (.t 25)) 123 false false,
 og 125 (.bin .neq (.t 124) (.c (.i .i64 0))) 123 false false,
 oo 126 (.pick (.t 123) (.c (.b true)) (.t 125)),
 ot 127 (.mv (.t 126)),
 og 128 (.mv (.t 21)) 127 false false,
 og 129 (.mv (.t 24)) 127 false false,
 og 130 (.bin .neq (.t 128) (.t 129)) 127 false false,
 oo 131 (.pick (.t 127) (.c (.b true)) (.t 130)),
 ot 132 (.mv (.t 131)),
 og 133 (.fa 4 (.t 18)) 132 false false,
 og 134 (.ld false 1 (.t 133)) 132 false false,
 og 135 (.bin .neq (.t 134) (.c (.i .i64 5))) 132 false false,
 oo 136 (.pick (.t 132) (.c (.b true)) (.t 135)),
 ot 137 (.mv (.t 136)),
 og 138 (.fa 1 (.t 18)) 137 false false,
 og 139 (.ld false 1 (.t 138)) 137 false false,
 og 140 (.fa 1 (.t 15)) 137 false false,
 og 141 (.ld false 1 (.t 140)) 137 false false,
 og 142 (.bin .neq (.t 139) (.t 141)) 137 false false,
 oo 143 (.pick (.t 137) (.c (.b true)) (.t 142)),
 ot 144 (.mv (.t 143)),
 og 145 (.fa 0 (.t 18)) 144 false false,
 og 146 (.ld false 1 (.t 145)) 144 false false,
 og 147 (.fa 0 (.t 15)) 144 false false,
 og 148 (.ld false 1 (.t 147)) 144 false false,
 og 149 (.eqk true false [.b] (.t 146) (.t 148)) 144 false false,
 oo 150 (.pick (.t 144) (.c (.b true)) (.t 149)),
 ot 151 (.mv (.t 150)),
 og 152 (.fa 2 (.t 18)) 151 false false,
 og 153 (.ld false 1 (.t 152)) 151 false false,
 og 154 (.fa 0 (.t 6)) 151 false false,
 og 155 (.ld false 1 (.t 154)) 151 false false,
 og 156 (.bin .add (.t 155) (.c (.i .i64 1))) 151 false false,
 og 157 (.bin .rem (.t 156) (.c (.i .i64 65536))) 151 false false,
 og 158 (.bin .neq (.t 153) (.t 157)) 151 false false,
 ot 159 (.pick (.t 151) (.c (.b true)) (.t 158))]
abbrev i7r27 : List IOper := [
 oo 4 (.mv (.c (.b false)))]
abbrev i7r28 : List IOper := [
 oo 160 (.fa 0 (.t 20)),
 ot 161 (.ld false 1 (.t 160))]
abbrev i7r29 : List IOper := [
 oo 162 (.fa 3 (.t 6)),
 oo 163 (.ld false 1 (.t 162)),
 oo 26 (.mv (.t 163))]
abbrev i7r30 : List IOper := [
 oo 164 (.fa 6 (.t 20)),
 oo 165 (.ld false 1 (.t 164)),
 ot 166 (.bin .eql (.t 165) (.c (.i .i64 0)))]
abbrev i7r31 : List IOper := [
 oo 167 (.mv (.t 26)),
 oo 168 (.bin .add (.t 167) (.c (.i .i64 1))),
 oo 169 (.bin .rem (.t 168) (.c (.i .i64 256))),
 oo 26 (.mv (.t 169))]
abbrev i7r32 : List IOper := [
 oo 171 (.ld true 12 (.t 7)),
 oo 172 (.ld true 8 (.t 20)),
 oo 173 (.call (.c (.fn 47 [])) [.t 171, .t 172]),
 oo 170 (.mv (.t 173)),
 oo 174 (.ext (.t 170) 0),
 oo 175 (.ext (.t 170) 1),
 oo 176 (.ext (.t 170) 2),
 oo 27 (.new [.b false, .i .i64 0, .i .i64 0, .i .i64 0, .b false, .i .i64 0, .i .i64 0, .i .i64 0, .b false, .i .i64 0, .i .i64 0, .i .i64 0]),
 on_ (.st 12 (.t 27) (.t 174)),
 oo 28 (.mv (.t 175)),
 oo 29 (.mv (.t 176))]
abbrev i7r33 : List IOper := [
 oo 177 (.fa 4 (.t 20)),
 oo 178 (.ld false 1 (.t 177)),
 oo 179 (.fa 2 (.t 6)),
 oo 180 (.ld false 1 (.t 179)),
 oo 181 (.bin .add (.t 180) (.c (.i .i64 1))),
 oo 182 (.bin .rem (.t 181) (.c (.i .i64 32768))),
 oo 183 (.bin .neq (.t 178) (.t 182)),
 ot 184 (.mv (.t 183)),
 og 185 (.fa 5 (.t 20)) 184 false false,
 og 186 (.ld false 1 (.t 185)) 184 false false,
 og 187 (.mv (.t 26)) 184 false false,
 og 188 (.bin .neq (.t 186) (.t 187)) 184 false false,
 oo 189 (.pick (.t 184) (.c (.b true)) (.t 188)),
 ot 190 (.mv (.t 189)),
 og 191 (.mv (.t 29)) 190 false false,
 og 192 (.bin .neq (.t 191) (.c (.i .i64 0))) 190 false false,
 oo 193 (.pick (.t 190) (.c (.b true)) (.t 192)),
 ot 194 (.mv (.t 193)),
 og 195 (.mv (.t 28)) 194 false false,
 og 196 (.not (.t 195)) 194 false false,
 ot 197 (.pick (.t 194) (.c (.b true)) (.t 196))]
abbrev i7r34 : List IOper := [
 oo 4 (.mv (.c (.b false)))]
abbrev i7r35 : List IOper := [
 oo 198 (.ld true 12 (.t 27)),
 on_ (.st 12 (.t 7) (.t 198))]
abbrev i7r36 : List IOper := [
 oo 199 (.fa 4 (.t 20)),
 oo 200 (.ld false 1 (.t 199)),
 oo 201 (.fa 2 (.t 6)),
 oo 202 (.ld false 1 (.t 201)),
 oo 203 (.bin .neq (.t 200) (.t 202)),
 ot 204 (.mv (.t 203)),
 og 205 (.fa 5 (.t 20)) 204 false false,
 og 206 (.ld false 1 (.t 205)) 204 false false,
 og 207 (.fa 3 (.t 6)) 204 false false,
 og 208 (.ld false 1 (.t 207)) 204 false false,
 og 209 (.bin .neq (.t 206) (.t 208)) 204 false false,
 ot 210 (.pick (.t 204) (.c (.b true)) (.t 209))]
abbrev i7r37 : List IOper := [
 oo 4 (.mv (.c (.b false)))]
abbrev i7r38 : List (IOper × List Nat) := [
 (oo 211 (.fa 4 (.t 20)), []),
 (oo 212 (.ld false 1 (.t 211)), []),
 (oo 213 (.fa 5 (.t 20)), [0, 1]),
 (oo 214 (.ld false 1 (.t 213)), [0, 1]),
 (oo 215 (.fa 4 (.t 23)), [2, 3]),
 (on_ (.st 1 (.t 215) (.t 212)), [2, 3]),
 (oo 216 (.fa 5 (.t 23)), []),
 (on_ (.st 1 (.t 216) (.t 214)), [])]
abbrev i7r39 : List IOper := [
 oo 217 (.ld true 8 (.t 20)),
 oo 218 (.ld true 8 (.t 23)),
 ot 219 (.eqk true true [.b, .b, .b, .b, .i, .i, .i, .i] (.t 217) (.t 218))]
abbrev i7r40 : List IOper := [
 oo 4 (.mv (.c (.b false)))]
abbrev i7r41 : List IOper := [
 oo 220 (.fa 2 (.t 18)),
 oo 221 (.ld false 1 (.t 220)),
 oo 222 (.fa 3 (.t 18)),
 oo 223 (.ld false 1 (.t 222)),
 oo 224 (.fa 4 (.t 20)),
 oo 225 (.ld false 1 (.t 224)),
 oo 226 (.fa 5 (.t 20)),
 oo 227 (.ld false 1 (.t 226)),
 oo 228 (.build [.i .i64 0, .i .i64 0, .i .i64 0, .i .i64 0] [(0, 1, .t 221), (1, 1, .t 223), (2, 1, .t 225), (3, 1, .t 227)]),
 on_ (.st 4 (.t 6) (.t 228))]
abbrev i7r42 : List IOper := [
 oo 229 (.fa 14 (.t 17)),
 oo 230 (.ld true 4 (.t 229)),
 oo 231 (.ld true 4 (.t 6)),
 ot 232 (.eqk true true [.i, .i, .i, .i] (.t 230) (.t 231))]
abbrev i7r43 : List IOper := [
 oo 4 (.mv (.c (.b false)))]
abbrev i7r44 : List IOper := [
 oo 233 (.bin .add (.t 43) (.c (.i .i64 1))),
 oo 43 (.mv (.t 233))]
abbrev i7l45 : ICode := (.seq (.reg i7r7) (.seq (.cond (.t 44) .skip (.exit 0)) (.seq (.block 1 (.seq (.reg i7r8) (.seq (.seq (.reg i7r9) (.cond (.t 50) (.seq (.reg i7r10) (.seq (.reg i7r11) (.seq (.seq (.reg i7r12) (.cond (.t 70) (.seq (.reg i7r13) .ret) .skip)) (.seq (.reg i7r14) (.exit 1))))) .skip)) (.seq (.reg i7r15) (.seq (.reg i7r16) (.seq (.reg i7r17) (.seq (.seq (.reg i7r18) (.cond (.t 86) (.exit 1) .skip)) (.seq (.reg i7r19) (.seq (.seq (.reg i7r20) (.cond (.t 101) (.seq (.reg i7r21) .ret) .skip)) (.seq (.reg i7r22) (.seq (.seq (.reg i7r23) (.cond (.t 106) (.exit 1) .skip)) (.seq (.reg i7r24) (.seq (.reg i7r25) (.seq (.seq (.reg i7r26) (.cond (.t 159) (.seq (.reg i7r27) .ret) .skip)) (.seq (.seq (.reg i7r28) (.cond (.t 161) (.seq (.reg i7r29) (.seq (.seq (.reg i7r30) (.cond (.t 166) (.reg i7r31) .skip)) (.seq (.reg i7r32) (.seq (.seq (.reg i7r33) (.cond (.t 197) (.seq (.reg i7r34) .ret) .skip)) (.reg i7r35))))) (.seq (.reg i7r36) (.cond (.t 210) (.seq (.reg i7r37) .ret) .skip)))) (.seq (.dreg i7r38) (.seq (.seq (.reg i7r39) (.cond (.t 219) (.seq (.reg i7r40) .ret) .skip)) (.seq (.reg i7r41) (.seq (.reg i7r42) (.cond (.t 232) (.seq (.reg i7r43) .ret) .skip)))))))))))))))))))) (.reg i7r44))))
abbrev i7r46 : List IOper := [
 oo 4 (.mv (.c (.b true)))]
abbrev i7c : ICode := (.seq (.reg i7r0) (.seq (.seq (.reg i7r1) (.cond (.t 31) (.seq (.reg i7r2) .ret) .skip)) (.seq (.reg i7r3) (.seq (.reg i7r4) (.seq (.reg i7r5) (.seq (.seq (.reg i7r6) (.block 0 (.loop i7l45))) (.seq (.reg i7r46) .ret)))))))
def i7 : IFn := { np := 2, N := 234, ct := [31, 44, 50, 70, 86, 101, 106, 159, 161, 166, 197, 210, 219, 232], code := i7c, res := [.t 4] }
theorem i7_eq : compF Try.prog Try.f7 = some i7 := by kernel_rfl
end Go.Proofs.Lys
