/- The small language's text of the functions; printed by ShowI.lean. -/
import Derived.Test.YtkpiibllomjeaaaProg
import Derived.Test.YtkpiibllomjeaaaAbRuns
namespace Go.Proofs.Lys
open Go.Ab
abbrev i6r0 : List IOper := [
 oo 0 (.mv (.c (.b false)))]
abbrev i6r1 : List IOper := [
 oo 67 (.call (.c (.fn 19 [])) []),
 ot 68 (.not (.t 67))]
abbrev i6r2 : List IOper := [
 oo 0 (.mv (.c (.b false)))]
abbrev i6r3 : List IOper := [
 oo 69 (.build [.i .i64 0, .i .i64 0, .i .i64 0, .i .i64 0] [(0, 1, .c (.i .i64 65535)), (1, 1, .c (.i .i64 4294967295)), (2, 1, .c (.i .i64 32767)), (3, 1, .c (.i .i64 255))]),
 oo 1 (.new [.i .i64 0, .i .i64 0, .i .i64 0, .i .i64 0]),
 on_ (.st 4 (.t 1) (.t 69))]
abbrev i6r4 : List IOper := [
 oo 71 (.bsl [.i .i64 0, .i .i64 0, .i .i64 0] 3 [(0, 1, .c (.i .i64 0)), (1, 1, .c (.i .i64 4294967295)), (2, 1, .c (.i .i64 7))]),
 oo 72 (.ld true 4 (.t 1)),
 oo 73 (.call (.c (.fn 17 [])) [.t 71, .c (.i .i64 5), .c (.i .i64 90000), .t 72]),
 oo 70 (.mv (.t 73)),
 oo 74 (.ext (.t 70) 0),
 oo 75 (.ext (.t 70) 1),
 oo 2 (.new [.ns, .i .i64 0, .i .i64 0, .i .i64 0, .i .i64 0, .i .i64 0, .i .i64 0, .i .i64 0, .i .i64 0, .b false, .i .i64 0, .i .i64 0, .i .i64 0, .i .i64 0, .i .i64 0, .i .i64 0, .i .i64 0, .i .i64 0]),
 on_ (.st 18 (.t 2) (.t 74)),
 oo 3 (.mv (.t 75))]
abbrev i6r5 : List IOper := [
 oo 77 (.ld true 18 (.t 2)),
 oo 78 (.call (.c (.fn 14 [])) [.t 77, .c (.i .i64 1), .c (.i .i64 2)]),
 oo 76 (.mv (.t 78)),
 oo 79 (.ext (.t 76) 0),
 oo 80 (.ext (.t 76) 1),
 on_ (.st 18 (.t 2) (.t 79)),
 oo 4 (.mv (.t 80))]
abbrev i6r6 : List (IOper × List Nat) := [
 (oo 82 (.ld true 18 (.t 2)), []),
 (oo 83 (.build [.b false, .b false, .b false, .b false, .i .i64 0, .i .i64 0, .i .i64 0, .i .i64 0] [(1, 1, .c (.b true)), (4, 1, .c (.i .i64 32767)), (5, 1, .c (.i .i64 255))]), [0]),
 (oo 84 (.call (.c (.fn 27 [])) [.c (.i .i64 4294967295), .c (.i .i64 0), .c (.i .i64 0), .t 83]), [0]),
 (oo 85 (.call (.c (.fn 28 [])) [.t 82, .t 84]), []),
 (oo 81 (.mv (.t 85)), []),
 (oo 86 (.ext (.t 81) 0), []),
 (oo 87 (.ext (.t 81) 1), [5]),
 (oo 88 (.ext (.t 81) 2), [5, 6]),
 (oo 5 (.new [.b false, .i .i64 0, .i .i64 0, .i .i64 0, .i .i64 0, .ns, .ns, .i .i64 0, .s []]), [0, 1, 2, 3, 4, 5, 6, 7]),
 (on_ (.st 18 (.t 2) (.t 86)), [6, 7]),
 (on_ (.st 9 (.t 5) (.t 87)), [7]),
 (oo 6 (.mv (.t 88)), [])]
abbrev i6r7 : List IOper := [
 oo 89 (.mv (.t 3)),
 oo 90 (.bin .eql (.t 89) (.c (.i .i64 0))),
 ot 91 (.mv (.t 90)),
 og 92 (.mv (.t 4)) 91 true false,
 og 93 (.bin .eql (.t 92) (.c (.i .i64 0))) 91 true false,
 oo 94 (.pick (.t 91) (.t 93) (.c (.b false))),
 ot 95 (.mv (.t 94)),
 og 96 (.mv (.t 6)) 95 true false,
 oo 97 (.pick (.t 95) (.t 96) (.c (.b false))),
 ot 98 (.mv (.t 97)),
 og 99 (.ld true 9 (.t 5)) 98 true false,
 og 100 (.call (.c (.fn 29 [])) [.t 99, .c (.i .i64 0), .c (.i .i64 89999), .c (.i .i64 0), .c (.i .i64 0)]) 98 true false,
 oo 101 (.pick (.t 98) (.t 100) (.c (.b false))),
 ot 102 (.mv (.t 101)),
 og 103 (.fa 14 (.t 2)) 102 true false,
 og 104 (.ld true 4 (.t 103)) 102 true false,
 og 105 (.build [.i .i64 0, .i .i64 0, .i .i64 0, .i .i64 0] [(1, 1, .c (.i .i64 89999))]) 102 true false,
 og 106 (.eqk false true [.i, .i, .i, .i] (.t 104) (.t 105)) 102 true false,
 oo 107 (.pick (.t 102) (.t 106) (.c (.b false))),
 oo 7 (.mv (.t 107))]
abbrev i6r8 : List (IOper × List Nat) := [
 (oo 109 (.ld true 18 (.t 2)), []),
 (oo 110 (.build [.b false, .b false, .b false, .b false, .i .i64 0, .i .i64 0, .i .i64 0, .i .i64 0] [(4, 1, .c (.i .i64 1))]), [0]),
 (oo 111 (.call (.c (.fn 27 [])) [.c (.i .i64 4294967295), .c (.i .i64 65535), .c (.i .i64 0), .t 110]), [0]),
 (oo 112 (.call (.c (.fn 28 [])) [.t 109, .t 111]), []),
 (oo 108 (.mv (.t 112)), []),
 (oo 113 (.ext (.t 108) 0), []),
 (oo 114 (.ext (.t 108) 1), [5]),
 (oo 115 (.ext (.t 108) 2), [5, 6]),
 (oo 8 (.new [.ns, .i .i64 0, .i .i64 0, .i .i64 0, .i .i64 0, .i .i64 0, .i .i64 0, .i .i64 0, .i .i64 0, .b false, .i .i64 0, .i .i64 0, .i .i64 0, .i .i64 0, .i .i64 0, .i .i64 0, .i .i64 0, .i .i64 0]), [0, 1, 2, 3, 4, 5, 6, 7]),
 (oo 9 (.new [.b false, .i .i64 0, .i .i64 0, .i .i64 0, .i .i64 0, .ns, .ns, .i .i64 0, .s []]), [0, 1, 2, 3, 4, 5, 6, 7, 8]),
 (on_ (.st 18 (.t 8) (.t 113)), [6, 7]),
 (on_ (.st 9 (.t 9) (.t 114)), [7]),
 (oo 10 (.mv (.t 115)), [])]
abbrev i6r9 : List (IOper × List Nat) := [
 (oo 117 (.ld true 18 (.t 2)), []),
 (oo 118 (.build [.b false, .b false, .b false, .b false, .i .i64 0, .i .i64 0, .i .i64 0, .i .i64 0] [(4, 1, .c (.i .i64 1))]), [0]),
 (oo 119 (.call (.c (.fn 27 [])) [.c (.i .i64 4294967295), .c (.i .i64 32768), .c (.i .i64 0), .t 118]), [0]),
 (oo 120 (.call (.c (.fn 28 [])) [.t 117, .t 119]), []),
 (oo 116 (.mv (.t 120)), []),
 (oo 121 (.ext (.t 116) 0), []),
 (oo 122 (.ext (.t 116) 1), [5]),
 (oo 123 (.ext (.t 116) 2), [5, 6]),
 (oo 11 (.new [.ns, .i .i64 0, .i .i64 0, .i .i64 0, .i .i64 0, .i .i64 0, .i .i64 0, .i .i64 0, .i .i64 0, .b false, .i .i64 0, .i .i64 0, .i .i64 0, .i .i64 0, .i .i64 0, .i .i64 0, .i .i64 0, .i .i64 0]), [0, 1, 2, 3, 4, 5, 6, 7]),
 (oo 12 (.new [.b false, .i .i64 0, .i .i64 0, .i .i64 0, .i .i64 0, .ns, .ns, .i .i64 0, .s []]), [0, 1, 2, 3, 4, 5, 6, 7, 8]),
 (on_ (.st 18 (.t 11) (.t 121)), [6, 7]),
 (on_ (.st 9 (.t 12) (.t 122)), [7]),
 (oo 13 (.mv (.t 123)), [])]
abbrev i6r10 : List (IOper × List Nat) := [
 (oo 125 (.ld true 18 (.t 2)), []),
 (oo 126 (.build [.b false, .b false, .b false, .b false, .i .i64 0, .i .i64 0, .i .i64 0, .i .i64 0] [(4, 1, .c (.i .i64 0)), (5, 1, .c (.i .i64 0))]), [0]),
 (oo 127 (.call (.c (.fn 27 [])) [.c (.i .i64 4294967295), .c (.i .i64 32767), .c (.i .i64 0), .t 126]), [0]),
 (oo 128 (.call (.c (.fn 28 [])) [.t 125, .t 127]), []),
 (oo 124 (.mv (.t 128)), []),
 (oo 129 (.ext (.t 124) 0), []),
 (oo 130 (.ext (.t 124) 1), [5]),
 (oo 131 (.ext (.t 124) 2), [5, 6]),
 (oo 14 (.new [.ns, .i .i64 0, .i .i64 0, .i .i64 0, .i .i64 0, .i .i64 0, .i .i64 0, .i .i64 0, .i .i64 0, .b false, .i .i64 0, .i .i64 0, .i .i64 0, .i .i64 0, .i .i64 0, .i .i64 0, .i .i64 0, .i .i64 0]), [0, 1, 2, 3, 4, 5, 6, 7]),
 (oo 15 (.new [.b false, .i .i64 0, .i .i64 0, .i .i64 0, .i .i64 0, .ns, .ns, .i .i64 0, .s []]), [0, 1, 2, 3, 4, 5, 6, 7, 8]),
 (on_ (.st 18 (.t 14) (.t 129)), [6, 7]),
 (on_ (.st 9 (.t 15) (.t 130)), [7]),
 (oo 16 (.mv (.t 131)), [])]
abbrev i6r11 : List IOper := [
 oo 132 (.mv (.t 10)),
 ot 133 (.mv (.t 132)),
 og 134 (.mv (.t 13)) 133 true false,
 oo 135 (.pick (.t 133) (.t 134) (.c (.b false))),
 ot 136 (.mv (.t 135)),
 og 137 (.mv (.t 16)) 136 true false,
 oo 138 (.pick (.t 136) (.t 137) (.c (.b false))),
 ot 139 (.mv (.t 138)),
 og 140 (.fa 8 (.t 9)) 139 true false,
 og 141 (.ld false 1 (.t 140)) 139 true false,
 og 142 (.bin .eql (.t 141) (.c (.s []))) 139 true false,
 oo 143 (.pick (.t 139) (.t 142) (.c (.b false))),
 ot 144 (.mv (.t 143)),
 og 145 (.fa 8 (.t 12)) 144 true false,
 og 146 (.ld false 1 (.t 145)) 144 true false,
 og 147 (.bin .eql (.t 146) (.c (.s []))) 144 true false,
 oo 148 (.pick (.t 144) (.t 147) (.c (.b false))),
 ot 149 (.mv (.t 148)),
 og 150 (.ld true 18 (.t 8)) 149 true false,
 og 151 (.ld true 18 (.t 2)) 149 true false,
 og 152 (.call (.c (.fn 16 [])) [.t 150, .t 151]) 149 true false,
 oo 153 (.pick (.t 149) (.t 152) (.c (.b false))),
 ot 154 (.mv (.t 153)),
 og 155 (.ld true 18 (.t 11)) 154 true false,
 og 156 (.ld true 18 (.t 2)) 154 true false,
 og 157 (.call (.c (.fn 16 [])) [.t 155, .t 156]) 154 true false,
 oo 158 (.pick (.t 154) (.t 157) (.c (.b false))),
 ot 159 (.mv (.t 158)),
 og 160 (.fa 2 (.t 15)) 159 true false,
 og 161 (.ld false 1 (.t 160)) 159 true false,
 og 162 (.bin .eql (.t 161) (.c (.i .i64 32767))) 159 true false,
 oo 163 (.pick (.t 159) (.t 162) (.c (.b false))),
 ot 164 (.mv (.t 163)),
 og 165 (.fa 7 (.t 14)) 164 true false,
 og 166 (.ld false 1 (.t 165)) 164 true false,
 og 167 (.bin .eql (.t 166) (.c (.i .i64 32767))) 164 true false,
 oo 168 (.pick (.t 164) (.t 167) (.c (.b false))),
 oo 17 (.mv (.t 168))]
abbrev i6r12 : List IOper := [
 oo 18 (.mv (.c (.fn 30 [])))]
abbrev i6r13 : List IOper := [
 oo 170 (.mv (.t 18)),
 oo 171 (.ld true 18 (.t 2)),
 oo 172 (.call (.t 170) [.t 171, .c (.i .i64 1), .c (.i .i64 0), .c (.i .i64 2), .c (.b true), .c (.b false)]),
 oo 169 (.mv (.t 172)),
 oo 173 (.ext (.t 169) 0),
 oo 174 (.ext (.t 169) 1),
 oo 19 (.new [.ns, .i .i64 0, .i .i64 0, .i .i64 0, .i .i64 0, .i .i64 0, .i .i64 0, .i .i64 0, .i .i64 0, .b false, .i .i64 0, .i .i64 0, .i .i64 0, .i .i64 0, .i .i64 0, .i .i64 0, .i .i64 0, .i .i64 0]),
 on_ (.st 18 (.t 19) (.t 173)),
 oo 20 (.mv (.t 174))]
abbrev i6r14 : List IOper := [
 oo 176 (.mv (.t 18)),
 oo 177 (.ld true 18 (.t 19)),
 oo 178 (.call (.t 176) [.t 177, .c (.i .i64 2), .c (.i .i64 1), .c (.i .i64 1), .c (.b true), .c (.b false)]),
 oo 175 (.mv (.t 178)),
 oo 179 (.ext (.t 175) 0),
 oo 180 (.ext (.t 175) 1),
 on_ (.st 18 (.t 19) (.t 179)),
 oo 21 (.mv (.t 180))]
abbrev i6r15 : List IOper := [
 oo 182 (.mv (.t 18)),
 oo 183 (.ld true 18 (.t 19)),
 oo 184 (.call (.t 182) [.t 183, .c (.i .i64 3), .c (.i .i64 2), .c (.i .i64 2), .c (.b true), .c (.b false)]),
 oo 181 (.mv (.t 184)),
 oo 185 (.ext (.t 181) 0),
 oo 186 (.ext (.t 181) 1),
 on_ (.st 18 (.t 19) (.t 185)),
 oo 22 (.mv (.t 186))]
abbrev i6r16 : List IOper := [
 oo 188 (.mv (.t 18)),
 oo 189 (.ld true 18 (.t 19)),
 oo 190 (.call (.t 188) [.t 189, .c (.i .i64 4), .c (.i .i64 3), .c (.i .i64 3), .c (.b true), .c (.b false)]),
 oo 187 (.mv (.t 190)),
 oo 191 (.ext (.t 187) 0),
 oo 192 (.ext (.t 187) 1),
 on_ (.st 18 (.t 19) (.t 191)),
 oo 23 (.mv (.t 192))]
abbrev i6r17 : List IOper := [
 oo 194 (.mv (.t 18)),
 oo 195 (.ld true 18 (.t 19)),
 oo 196 (.call (.t 194) [.t 195, .c (.i .i64 5), .c (.i .i64 4), .c (.i .i64 2), .c (.b false), .c (.b false)]),
 oo 193 (.mv (.t 196)),
 oo 197 (.ext (.t 193) 0),
 oo 198 (.ext (.t 193) 1),
 on_ (.st 18 (.t 19) (.t 197)),
 oo 24 (.mv (.t 198))]
abbrev i6r18 : List IOper := [
 oo 200 (.ld true 18 (.t 19)),
 oo 201 (.call (.c (.fn 14 [])) [.t 200, .c (.i .i64 1), .c (.i .i64 1)]),
 oo 199 (.mv (.t 201)),
 oo 202 (.ext (.t 199) 0),
 oo 203 (.ext (.t 199) 1),
 on_ (.st 18 (.t 19) (.t 202))]
abbrev i6r19 : List IOper := [
 oo 205 (.mv (.t 18)),
 oo 206 (.ld true 18 (.t 19)),
 oo 207 (.call (.t 205) [.t 206, .c (.i .i64 6), .c (.i .i64 5), .c (.i .i64 2), .c (.b false), .c (.b false)]),
 oo 204 (.mv (.t 207)),
 oo 208 (.ext (.t 204) 0),
 oo 209 (.ext (.t 204) 1),
 on_ (.st 18 (.t 19) (.t 208)),
 oo 25 (.mv (.t 209))]
abbrev i6r20 : List IOper := [
 oo 211 (.mv (.t 18)),
 oo 212 (.ld true 18 (.t 19)),
 oo 213 (.call (.t 211) [.t 212, .c (.i .i64 7), .c (.i .i64 6), .c (.i .i64 1), .c (.b false), .c (.b false)]),
 oo 210 (.mv (.t 213)),
 oo 214 (.ext (.t 210) 0),
 oo 215 (.ext (.t 210) 1),
 on_ (.st 18 (.t 19) (.t 214)),
 oo 26 (.mv (.t 215))]
abbrev i6r21 : List IOper := [
 oo 217 (.mv (.t 18)),
 oo 218 (.ld true 18 (.t 19)),
 oo 219 (.call (.t 217) [.t 218, .c (.i .i64 8), .c (.i .i64 7), .c (.i .i64 0), .c (.b false), .c (.b true)]),
 oo 216 (.mv (.t 219)),
 oo 220 (.ext (.t 216) 0),
 oo 221 (.ext (.t 216) 1),
 on_ (.st 18 (.t 19) (.t 220)),
 oo 27 (.mv (.t 221))]
abbrev i6r22 : List IOper := [
 oo 223 (.mv (.t 18)),
 oo 224 (.ld true 18 (.t 19)),
 oo 225 (.call (.t 223) [.t 224, .c (.i .i64 9), .c (.i .i64 8), .c (.i .i64 1), .c (.b false), .c (.b false)]),
 oo 222 (.mv (.t 225)),
 oo 226 (.ext (.t 222) 0),
 oo 227 (.ext (.t 222) 1),
 oo 28 (.new [.ns, .i .i64 0, .i .i64 0, .i .i64 0, .i .i64 0, .i .i64 0, .i .i64 0, .i .i64 0, .i .i64 0, .b false, .i .i64 0, .i .i64 0, .i .i64 0, .i .i64 0, .i .i64 0, .i .i64 0, .i .i64 0, .i .i64 0]),
 on_ (.st 18 (.t 28) (.t 226)),
 oo 29 (.mv (.t 227))]
abbrev i6r23 : List IOper := [
 oo 228 (.mv (.t 20)),
 oo 229 (.not (.t 228)),
 ot 230 (.mv (.t 229)),
 og 231 (.mv (.t 21)) 230 true false,
 oo 232 (.pick (.t 230) (.t 231) (.c (.b false))),
 ot 233 (.mv (.t 232)),
 og 234 (.mv (.t 22)) 233 true false,
 oo 235 (.pick (.t 233) (.t 234) (.c (.b false))),
 ot 236 (.mv (.t 235)),
 og 237 (.mv (.t 23)) 236 true false,
 og 238 (.not (.t 237)) 236 true false,
 oo 239 (.pick (.t 236) (.t 238) (.c (.b false))),
 ot 240 (.mv (.t 239)),
 og 241 (.mv (.t 24)) 240 true false,
 oo 242 (.pick (.t 240) (.t 241) (.c (.b false))),
 ot 243 (.mv (.t 242)),
 og 244 (.mv (.t 25)) 243 true false,
 og 245 (.not (.t 244)) 243 true false,
 oo 246 (.pick (.t 243) (.t 245) (.c (.b false))),
 ot 247 (.mv (.t 246)),
 og 248 (.mv (.t 26)) 247 true false,
 oo 249 (.pick (.t 247) (.t 248) (.c (.b false))),
 ot 250 (.mv (.t 249)),
 og 251 (.mv (.t 27)) 250 true false,
 oo 252 (.pick (.t 250) (.t 251) (.c (.b false))),
 ot 253 (.mv (.t 252)),
 og 254 (.mv (.t 29)) 253 true false,
 og 255 (.not (.t 254)) 253 true false,
 oo 256 (.pick (.t 253) (.t 255) (.c (.b false))),
 oo 30 (.mv (.t 256))]
abbrev i6r24 : List IOper := [
 oo 257 (.build [.b false, .b false, .b false, .b false, .i .i64 0, .i .i64 0, .i .i64 0, .i .i64 0] [(1, 1, .c (.b true)), (4, 1, .c (.i .i64 32767)), (5, 1, .c (.i .i64 255)), (7, 1, .c (.i .i64 1))]),
 oo 258 (.call (.c (.fn 27 [])) [.c (.i .i64 4294967295), .c (.i .i64 1), .c (.i .i64 0), .t 257]),
 oo 31 (.new [.b false, .i .i64 0, .i .i64 0, .i .i64 0, .i .i64 0, .ns, .ns, .i .i64 0, .s []]),
 on_ (.st 9 (.t 31) (.t 258))]
abbrev i6r25 : List IOper := [
 oo 260 (.ld true 18 (.t 2)),
 oo 261 (.ld true 9 (.t 31)),
 oo 262 (.call (.c (.fn 28 [])) [.t 260, .t 261]),
 oo 259 (.mv (.t 262)),
 oo 263 (.ext (.t 259) 0),
 oo 264 (.ext (.t 259) 1),
 oo 265 (.ext (.t 259) 2),
 oo 32 (.new [.ns, .i .i64 0, .i .i64 0, .i .i64 0, .i .i64 0, .i .i64 0, .i .i64 0, .i .i64 0, .i .i64 0, .b false, .i .i64 0, .i .i64 0, .i .i64 0, .i .i64 0, .i .i64 0, .i .i64 0, .i .i64 0, .i .i64 0]),
 oo 33 (.new [.b false, .i .i64 0, .i .i64 0, .i .i64 0, .i .i64 0, .ns, .ns, .i .i64 0, .s []]),
 on_ (.st 18 (.t 32) (.t 263)),
 on_ (.st 9 (.t 33) (.t 264)),
 oo 34 (.mv (.t 265))]
abbrev i6r26 : List IOper := [
 oo 267 (.bsl [.i .i64 0] 1 [(0, 1, .c (.i .i64 7))]),
 oo 268 (.build [.i .i64 0, .i .i64 0, .i .i64 0, .i .i64 0] []),
 oo 269 (.call (.c (.fn 17 [])) [.t 267, .c (.i .i64 5), .c (.i .i64 1), .t 268]),
 oo 266 (.mv (.t 269)),
 oo 270 (.ext (.t 266) 0),
 oo 271 (.ext (.t 266) 1),
 oo 35 (.new [.ns, .i .i64 0, .i .i64 0, .i .i64 0, .i .i64 0, .i .i64 0, .i .i64 0, .i .i64 0, .i .i64 0, .b false, .i .i64 0, .i .i64 0, .i .i64 0, .i .i64 0, .i .i64 0, .i .i64 0, .i .i64 0, .i .i64 0]),
 on_ (.st 18 (.t 35) (.t 270)),
 oo 36 (.mv (.t 271))]
abbrev i6r27 : List IOper := [
 oo 273 (.ld true 18 (.t 35)),
 oo 274 (.call (.c (.fn 14 [])) [.t 273, .c (.i .i64 0), .c (.i .i64 0)]),
 oo 272 (.mv (.t 274)),
 oo 275 (.ext (.t 272) 0),
 oo 276 (.ext (.t 272) 1),
 on_ (.st 18 (.t 35) (.t 275))]
abbrev i6r28 : List IOper := [
 oo 278 (.ld true 18 (.t 35)),
 oo 279 (.fa 8 (.t 31)),
 oo 280 (.ld false 1 (.t 279)),
 oo 281 (.build [.b false, .i .i64 0, .i .i64 0, .i .i64 0, .i .i64 0, .ns, .ns, .i .i64 0, .s []] [(4, 1, .c (.i .i64 7)), (8, 1, .t 280)]),
 oo 282 (.call (.c (.fn 28 [])) [.t 278, .t 281]),
 oo 277 (.mv (.t 282)),
 oo 283 (.ext (.t 277) 0),
 oo 284 (.ext (.t 277) 1),
 oo 285 (.ext (.t 277) 2),
 oo 37 (.new [.ns, .i .i64 0, .i .i64 0, .i .i64 0, .i .i64 0, .i .i64 0, .i .i64 0, .i .i64 0, .i .i64 0, .b false, .i .i64 0, .i .i64 0, .i .i64 0, .i .i64 0, .i .i64 0, .i .i64 0, .i .i64 0, .i .i64 0]),
 oo 38 (.new [.b false, .i .i64 0, .i .i64 0, .i .i64 0, .i .i64 0, .ns, .ns, .i .i64 0, .s []]),
 on_ (.st 18 (.t 37) (.t 283)),
 on_ (.st 9 (.t 38) (.t 284)),
 oo 39 (.mv (.t 285))]
abbrev i6r29 : List IOper := [
 oo 286 (.build [.b false, .b false, .b false, .b false, .i .i64 0, .i .i64 0, .i .i64 0, .i .i64 0] [(1, 1, .c (.b true))]),
 oo 287 (.call (.c (.fn 27 [])) [.c (.i .i64 7), .c (.i .i64 1), .c (.i .i64 0), .t 286]),
 oo 40 (.new [.b false, .i .i64 0, .i .i64 0, .i .i64 0, .i .i64 0, .ns, .ns, .i .i64 0, .s []]),
 on_ (.st 9 (.t 40) (.t 287))]
abbrev i6r30 : List IOper := [
 oo 288 (.fa 8 (.t 40)),
 oo 289 (.ld false 1 (.t 288)),
 oo 290 (.slS (.t 289) (some (.c (.i .i64 1))) none),
 oo 291 (.bin .add (.c (.s [160])) (.t 290)),
 oo 292 (.fa 8 (.t 40)),
 on_ (.st 1 (.t 292) (.t 291))]
abbrev i6r31 : List IOper := [
 oo 294 (.ld true 18 (.t 35)),
 oo 295 (.ld true 9 (.t 40)),
 oo 296 (.call (.c (.fn 28 [])) [.t 294, .t 295]),
 oo 293 (.mv (.t 296)),
 oo 297 (.ext (.t 293) 0),
 oo 298 (.ext (.t 293) 1),
 oo 299 (.ext (.t 293) 2),
 oo 41 (.new [.ns, .i .i64 0, .i .i64 0, .i .i64 0, .i .i64 0, .i .i64 0, .i .i64 0, .i .i64 0, .i .i64 0, .b false, .i .i64 0, .i .i64 0, .i .i64 0, .i .i64 0, .i .i64 0, .i .i64 0, .i .i64 0, .i .i64 0]),
 oo 42 (.new [.b false, .i .i64 0, .i .i64 0, .i .i64 0, .i .i64 0, .ns, .ns, .i .i64 0, .s []]),
 on_ (.st 18 (.t 41) (.t 297)),
 on_ (.st 9 (.t 42) (.t 298)),
 oo 43 (.mv (.t 299))]
abbrev i6r32 : List IOper := [
 oo 300 (.mv (.t 34)),
 ot 301 (.mv (.t 300)),
 og 302 (.fa 8 (.t 33)) 301 true false,
 og 303 (.ld false 1 (.t 302)) 301 true false,
 og 304 (.bin .eql (.t 303) (.c (.s []))) 301 true false,
 oo 305 (.pick (.t 301) (.t 304) (.c (.b false))),
 ot 306 (.mv (.t 305)),
 og 307 (.fa 10 (.t 32)) 306 true false,
 og 308 (.ld false 1 (.t 307)) 306 true false,
 og 309 (.fa 10 (.t 2)) 306 true false,
 og 310 (.ld false 1 (.t 309)) 306 true false,
 og 311 (.bin .add (.t 310) (.c (.i .i64 65535))) 306 true false,
 og 312 (.bin .rem (.t 311) (.c (.i .i64 65536))) 306 true false,
 og 313 (.bin .eql (.t 308) (.t 312)) 306 true false,
 oo 314 (.pick (.t 306) (.t 313) (.c (.b false))),
 ot 315 (.mv (.t 314)),
 og 316 (.mv (.t 39)) 315 true false,
 oo 317 (.pick (.t 315) (.t 316) (.c (.b false))),
 ot 318 (.mv (.t 317)),
 og 319 (.fa 8 (.t 38)) 318 true false,
 og 320 (.ld false 1 (.t 319)) 318 true false,
 og 321 (.bin .eql (.t 320) (.c (.s []))) 318 true false,
 oo 322 (.pick (.t 318) (.t 321) (.c (.b false))),
 ot 323 (.mv (.t 322)),
 og 324 (.fa 3 (.t 37)) 323 true false,
 og 325 (.ld false 1 (.t 324)) 323 true false,
 og 326 (.bin .eql (.t 325) (.c (.i .i64 (-1)))) 323 true false,
 oo 327 (.pick (.t 323) (.t 326) (.c (.b false))),
 ot 328 (.mv (.t 327)),
 og 329 (.mv (.t 43)) 328 true false,
 oo 330 (.pick (.t 328) (.t 329) (.c (.b false))),
 ot 331 (.mv (.t 330)),
 og 332 (.fa 8 (.t 42)) 331 true false,
 og 333 (.ld false 1 (.t 332)) 331 true false,
 og 334 (.bin .eql (.t 333) (.c (.s []))) 331 true false,
 oo 335 (.pick (.t 331) (.t 334) (.c (.b false))),
 ot 336 (.mv (.t 335)),
 og 337 (.fa 3 (.t 41)) 336 true false,
 og 338 (.ld false 1 (.t 337)) 336 true false,
 og 339 (.bin .eql (.t 338) (.c (.i .i64 (-1)))) 336 true false,
 oo 340 (.pick (.t 336) (.t 339) (.c (.b false))),
 oo 44 (.mv (.t 340))]
abbrev i6r33 : List IOper := [
 oo 341 (.mkf 31 [.t 2]),
 oo 45 (.mv (.t 341))]
abbrev i6r34 : List IOper := [
 oo 342 (.ld true 18 (.t 2)),
 oo 343 (.call (.c (.fn 12 [])) [.t 342]),
 oo 344 (.bin .eql (.t 343) (.c (.i .i64 0))),
 ot 345 (.mv (.t 344)),
 og 346 (.mv (.t 45)) 345 true false,
 og 347 (.call (.t 346) [.c (.fn 32 [])]) 345 true false,
 oo 348 (.pick (.t 345) (.t 347) (.c (.b false))),
 ot 349 (.mv (.t 348)),
 og 350 (.mv (.t 45)) 349 true false,
 og 351 (.call (.t 350) [.c (.fn 33 [])]) 349 true false,
 oo 352 (.pick (.t 349) (.t 351) (.c (.b false))),
 ot 353 (.mv (.t 352)),
 og 354 (.mv (.t 45)) 353 true false,
 og 355 (.call (.t 354) [.c (.fn 34 [])]) 353 true false,
 oo 356 (.pick (.t 353) (.t 355) (.c (.b false))),
 ot 357 (.mv (.t 356)),
 og 358 (.mv (.t 45)) 357 true false,
 og 359 (.call (.t 358) [.c (.fn 35 [])]) 357 true false,
 oo 360 (.pick (.t 357) (.t 359) (.c (.b false))),
 ot 361 (.mv (.t 360)),
 og 362 (.mv (.t 45)) 361 true false,
 og 363 (.call (.t 362) [.c (.fn 36 [])]) 361 true false,
 oo 364 (.pick (.t 361) (.t 363) (.c (.b false))),
 ot 365 (.mv (.t 364)),
 og 366 (.mv (.t 45)) 365 true false,
 og 367 (.call (.t 366) [.c (.fn 37 [])]) 365 true false,
 oo 368 (.pick (.t 365) (.t 367) (.c (.b false))),
 ot 369 (.mv (.t 368)),
 og 370 (.mv (.t 45)) 369 true false,
 og 371 (.call (.t 370) [.c (.fn 38 [])]) 369 true false,
 oo 372 (.pick (.t 369) (.t 371) (.c (.b false))),
 ot 373 (.mv (.t 372)),
 og 374 (.mv (.t 45)) 373 true false,
 og 375 (.call (.t 374) [.c (.fn 39 [])]) 373 true false,
 oo 376 (.pick (.t 373) (.t 375) (.c (.b false))),
 ot 377 (.mv (.t 376)),
 og 378 (.mv (.t 45)) 377 true false,
 og 379 (.call (.t 378) [.c (.fn 40 [])]) 377 true false,
 oo 380 (.pick (.t 377) (.t 379) (.c (.b false))),
 ot 381 (.mv (.t 380)),
 og 382 (.mv (.t 45)) 381 true false,
 og 383 (.call (.t 382) [.c (.fn 41 [])]) 381 true false,
 oo 384 (.pick (.t 381) (.t 383) (.c (.b false))),
 ot 385 (.mv (.t 384)),
 og 386 (.mv (.t 45)) 385 true false,
 og 387 (.call (.t 386) [.c (.fn 42 [])]) 385 true false,
 oo 388 (.pick (.t 385) (.t 387) (.c (.b false))),
 ot 389 (.mv (.t 388)),
 og 390 (.mv (.t 45)) 389 true false,
 og 391 (.call (.t 390) [.c (.fn 43 [])]) 389 true false,
 oo 392 (.pick (.t 389) (.t 391) (.c (.b false))),
 ot 393 (.mv (.t 392)),
 og 394 (.mv (.t 45)) 393 true false,
 og 395 (.call (.t 394) [.c (.fn 44 [])]) 393 true false,
 oo 396 (.pick (.t 393) (.t 395) (.c (.b false))),
 oo 46 (.mv (.t 396))]
abbrev i6r35 : List IOper := [
 oo 398 (.bsl [.i .i64 0] 1 [(0, 1, .c (.i .i64 1))]),
 oo 399 (.build [.i .i64 0, .i .i64 0, .i .i64 0, .i .i64 0] []),
 oo 400 (.call (.c (.fn 17 [])) [.t 398, .c (.i .i64 2), .c (.i .i64 90001), .t 399]),
 oo 397 (.mv (.t 400)),
 oo 401 (.ext (.t 397) 0),
 oo 402 (.ext (.t 397) 1),
 oo 47 (.new [.ns, .i .i64 0, .i .i64 0, .i .i64 0, .i .i64 0, .i .i64 0, .i .i64 0, .i .i64 0, .i .i64 0, .b false, .i .i64 0, .i .i64 0, .i .i64 0, .i .i64 0, .i .i64 0, .i .i64 0, .i .i64 0, .i .i64 0]),
 on_ (.st 18 (.t 47) (.t 401)),
 oo 48 (.mv (.t 402))]
abbrev i6r36 : List IOper := [
 oo 404 (.ld true 18 (.t 2)),
 oo 405 (.call (.c (.fn 14 [])) [.t 404, .c (.i .i64 0), .c (.i .i64 4)]),
 oo 403 (.mv (.t 405)),
 oo 406 (.ext (.t 403) 0),
 oo 407 (.ext (.t 403) 1),
 oo 49 (.new [.ns, .i .i64 0, .i .i64 0, .i .i64 0, .i .i64 0, .i .i64 0, .i .i64 0, .i .i64 0, .i .i64 0, .b false, .i .i64 0, .i .i64 0, .i .i64 0, .i .i64 0, .i .i64 0, .i .i64 0, .i .i64 0, .i .i64 0]),
 on_ (.st 18 (.t 49) (.t 406)),
 oo 50 (.mv (.t 407))]
abbrev i6r37 : List IOper := [
 oo 409 (.ld true 18 (.t 2)),
 oo 410 (.call (.c (.fn 14 [])) [.t 409, .c (.i .i64 (-2)), .c (.i .i64 0)]),
 oo 408 (.mv (.t 410)),
 oo 411 (.ext (.t 408) 0),
 oo 412 (.ext (.t 408) 1),
 oo 51 (.new [.ns, .i .i64 0, .i .i64 0, .i .i64 0, .i .i64 0, .i .i64 0, .i .i64 0, .i .i64 0, .i .i64 0, .b false, .i .i64 0, .i .i64 0, .i .i64 0, .i .i64 0, .i .i64 0, .i .i64 0, .i .i64 0, .i .i64 0]),
 on_ (.st 18 (.t 51) (.t 411)),
 oo 52 (.mv (.t 412))]
abbrev i6r38 : List IOper := [
 oo 414 (.ld true 18 (.t 2)),
 oo 415 (.call (.c (.fn 14 [])) [.t 414, .c (.i .i64 (-1)), .c (.i .i64 3)]),
 oo 413 (.mv (.t 415)),
 oo 416 (.ext (.t 413) 0),
 oo 417 (.ext (.t 413) 1),
 oo 53 (.new [.ns, .i .i64 0, .i .i64 0, .i .i64 0, .i .i64 0, .i .i64 0, .i .i64 0, .i .i64 0, .i .i64 0, .b false, .i .i64 0, .i .i64 0, .i .i64 0, .i .i64 0, .i .i64 0, .i .i64 0, .i .i64 0, .i .i64 0]),
 on_ (.st 18 (.t 53) (.t 416)),
 oo 54 (.mv (.t 417))]
abbrev i6r39 : List IOper := [
 oo 419 (.build [.ns, .i .i64 0, .i .i64 0, .i .i64 0, .i .i64 0, .i .i64 0, .i .i64 0, .i .i64 0, .i .i64 0, .b false, .i .i64 0, .i .i64 0, .i .i64 0, .i .i64 0, .i .i64 0, .i .i64 0, .i .i64 0, .i .i64 0] []),
 oo 420 (.call (.c (.fn 10 [])) [.t 419]),
 oo 418 (.mv (.t 420)),
 oo 421 (.ext (.t 418) 0),
 oo 422 (.ext (.t 418) 1),
 oo 55 (.mv (.t 421)),
 oo 56 (.mv (.t 422))]
abbrev i6r40 : List IOper := [
 oo 424 (.build [.ns, .i .i64 0, .i .i64 0, .i .i64 0, .i .i64 0, .i .i64 0, .i .i64 0, .i .i64 0, .i .i64 0, .b false, .i .i64 0, .i .i64 0, .i .i64 0, .i .i64 0, .i .i64 0, .i .i64 0, .i .i64 0, .i .i64 0] []),
 oo 425 (.build [.b false, .i .i64 0, .i .i64 0, .i .i64 0, .i .i64 0, .ns, .ns, .i .i64 0, .s []] [(1, 1, .c (.i .i64 128))]),
 oo 426 (.call (.c (.fn 22 [])) [.t 424, .t 425]),
 oo 423 (.mv (.t 426)),
 oo 427 (.ext (.t 423) 0),
 oo 428 (.ext (.t 423) 1),
 oo 429 (.ext (.t 423) 2),
 oo 57 (.new [.ns, .i .i64 0, .i .i64 0, .i .i64 0, .i .i64 0, .i .i64 0, .i .i64 0, .i .i64 0, .i .i64 0, .b false, .i .i64 0, .i .i64 0, .i .i64 0, .i .i64 0, .i .i64 0, .i .i64 0, .i .i64 0, .i .i64 0]),
 on_ (.st 18 (.t 57) (.t 427)),
 oo 58 (.mv (.t 428)),
 oo 59 (.mv (.t 429))]
abbrev i6r41 : List IOper := [
 oo 431 (.ld true 18 (.t 2)),
 oo 432 (.build [.b false, .i .i64 0, .i .i64 0, .i .i64 0, .i .i64 0, .ns, .ns, .i .i64 0, .s []] [(1, 1, .c (.i .i64 128)), (4, 1, .c (.i .i64 99))]),
 oo 433 (.call (.c (.fn 22 [])) [.t 431, .t 432]),
 oo 430 (.mv (.t 433)),
 oo 434 (.ext (.t 430) 0),
 oo 435 (.ext (.t 430) 1),
 oo 436 (.ext (.t 430) 2),
 oo 60 (.new [.ns, .i .i64 0, .i .i64 0, .i .i64 0, .i .i64 0, .i .i64 0, .i .i64 0, .i .i64 0, .i .i64 0, .b false, .i .i64 0, .i .i64 0, .i .i64 0, .i .i64 0, .i .i64 0, .i .i64 0, .i .i64 0, .i .i64 0]),
 on_ (.st 18 (.t 60) (.t 434)),
 oo 61 (.mv (.t 435)),
 oo 62 (.mv (.t 436))]
abbrev i6r42 : List IOper := [
 oo 438 (.ld true 18 (.t 2)),
 oo 439 (.build [.b false, .i .i64 0, .i .i64 0, .i .i64 0, .i .i64 0, .ns, .ns, .i .i64 0, .s []] [(4, 1, .c (.i .i64 7)), (8, 1, .c (.s [97, 98, 99, 100, 101]))]),
 oo 440 (.call (.c (.fn 22 [])) [.t 438, .t 439]),
 oo 437 (.mv (.t 440)),
 oo 441 (.ext (.t 437) 0),
 oo 442 (.ext (.t 437) 1),
 oo 443 (.ext (.t 437) 2),
 oo 63 (.new [.ns, .i .i64 0, .i .i64 0, .i .i64 0, .i .i64 0, .i .i64 0, .i .i64 0, .i .i64 0, .i .i64 0, .b false, .i .i64 0, .i .i64 0, .i .i64 0, .i .i64 0, .i .i64 0, .i .i64 0, .i .i64 0, .i .i64 0]),
 on_ (.st 18 (.t 63) (.t 441)),
 oo 64 (.mv (.t 442)),
 oo 65 (.mv (.t 443))]
abbrev i6r43 : List IOper := [
 oo 444 (.mv (.t 48)),
 oo 445 (.bin .eql (.t 444) (.c (.i .i64 2))),
 ot 446 (.mv (.t 445)),
 og 447 (.mv (.t 50)) 446 true false,
 og 448 (.bin .eql (.t 447) (.c (.i .i64 2))) 446 true false,
 oo 449 (.pick (.t 446) (.t 448) (.c (.b false))),
 ot 450 (.mv (.t 449)),
 og 451 (.mv (.t 52)) 450 true false,
 og 452 (.bin .eql (.t 451) (.c (.i .i64 2))) 450 true false,
 oo 453 (.pick (.t 450) (.t 452) (.c (.b false))),
 ot 454 (.mv (.t 453)),
 og 455 (.mv (.t 54)) 454 true false,
 og 456 (.bin .eql (.t 455) (.c (.i .i64 0))) 454 true false,
 oo 457 (.pick (.t 454) (.t 456) (.c (.b false))),
 ot 458 (.mv (.t 457)),
 og 459 (.fa 3 (.t 53)) 458 true false,
 og 460 (.ld false 1 (.t 459)) 458 true false,
 og 461 (.bin .eql (.t 460) (.c (.i .i64 (-1)))) 458 true false,
 oo 462 (.pick (.t 458) (.t 461) (.c (.b false))),
 ot 463 (.mv (.t 462)),
 og 464 (.fa 14 (.t 53)) 463 true false,
 og 465 (.ld true 4 (.t 464)) 463 true false,
 og 466 (.fa 14 (.t 2)) 463 true false,
 og 467 (.ld true 4 (.t 466)) 463 true false,
 og 468 (.eqk false true [.i, .i, .i, .i] (.t 465) (.t 467)) 463 true false,
 oo 469 (.pick (.t 463) (.t 468) (.c (.b false))),
 ot 470 (.mv (.t 469)),
 og 471 (.fa 10 (.t 53)) 470 true false,
 og 472 (.ld false 1 (.t 471)) 470 true false,
 og 473 (.fa 11 (.t 53)) 470 true false,
 og 474 (.ld false 1 (.t 473)) 470 true false,
 og 475 (.bin .add (.t 472) (.t 474)) 470 true false,
 og 476 (.fa 12 (.t 53)) 470 true false,
 og 477 (.ld false 1 (.t 476)) 470 true false,
 og 478 (.bin .add (.t 475) (.t 477)) 470 true false,
 og 479 (.fa 13 (.t 53)) 470 true false,
 og 480 (.ld false 1 (.t 479)) 470 true false,
 og 481 (.bin .add (.t 478) (.t 480)) 470 true false,
 og 482 (.fa 7 (.t 53)) 470 true false,
 og 483 (.ld false 1 (.t 482)) 470 true false,
 og 484 (.bin .add (.t 481) (.t 483)) 470 true false,
 og 485 (.fa 8 (.t 53)) 470 true false,
 og 486 (.ld false 1 (.t 485)) 470 true false,
 og 487 (.bin .add (.t 484) (.t 486)) 470 true false,
 og 488 (.bin .eql (.t 487) (.c (.i .i64 0))) 470 true false,
 oo 489 (.pick (.t 470) (.t 488) (.c (.b false))),
 ot 490 (.mv (.t 489)),
 og 491 (.fa 9 (.t 53)) 490 true false,
 og 492 (.ld false 1 (.t 491)) 490 true false,
 og 493 (.not (.t 492)) 490 true false,
 oo 494 (.pick (.t 490) (.t 493) (.c (.b false))),
 ot 495 (.mv (.t 494)),
 og 496 (.mv (.t 56)) 495 true false,
 og 497 (.bin .eql (.t 496) (.c (.i .i64 410))) 495 true false,
 oo 498 (.pick (.t 495) (.t 497) (.c (.b false))),
 ot 499 (.mv (.t 498)),
 og 500 (.mv (.t 59)) 499 true false,
 og 501 (.bin .eql (.t 500) (.c (.i .i64 410))) 499 true false,
 oo 502 (.pick (.t 499) (.t 501) (.c (.b false))),
 ot 503 (.mv (.t 502)),
 og 504 (.mv (.t 62)) 503 true false,
 og 505 (.bin .eql (.t 504) (.c (.i .i64 230))) 503 true false,
 oo 506 (.pick (.t 503) (.t 505) (.c (.b false))),
 ot 507 (.mv (.t 506)),
 og 508 (.mv (.t 65)) 507 true false,
 og 509 (.bin .eql (.t 508) (.c (.i .i64 5))) 507 true false,
 oo 510 (.pick (.t 507) (.t 509) (.c (.b false))),
 oo 66 (.mv (.t 510))]
abbrev i6r44 : List IOper := [
 ot 511 (.mv (.c (.b true))),
 og 512 (.mv (.t 7)) 511 true false,
 oo 513 (.pick (.t 511) (.t 512) (.c (.b false))),
 ot 514 (.mv (.t 513)),
 og 515 (.mv (.t 17)) 514 true false,
 oo 516 (.pick (.t 514) (.t 515) (.c (.b false))),
 ot 517 (.mv (.t 516)),
 og 518 (.mv (.t 30)) 517 true false,
 oo 519 (.pick (.t 517) (.t 518) (.c (.b false))),
 ot 520 (.mv (.t 519)),
 og 521 (.mv (.t 44)) 520 true false,
 oo 522 (.pick (.t 520) (.t 521) (.c (.b false))),
 ot 523 (.mv (.t 522)),
 og 524 (.mv (.t 46)) 523 true false,
 oo 525 (.pick (.t 523) (.t 524) (.c (.b false))),
 ot 526 (.mv (.t 525)),
 og 527 (.mv (.t 66)) 526 true false,
 oo 528 (.pick (.t 526) (.t 527) (.c (.b false))),
 oo 0 (.mv (.t 528))]
abbrev i6c : ICode := (.seq (.reg i6r0) (.seq (.seq (.reg i6r1) (.cond (.t 68) (.seq (.reg i6r2) .ret) .skip)) (.seq (.reg i6r3) (.seq (.reg i6r4) (.seq (.reg i6r5) (.seq (.dreg i6r6) (.seq (.reg i6r7) (.seq (.dreg i6r8) (.seq (.dreg i6r9) (.seq (.dreg i6r10) (.seq (.reg i6r11) (.seq (.reg i6r12) (.seq (.reg i6r13) (.seq (.reg i6r14) (.seq (.reg i6r15) (.seq (.reg i6r16) (.seq (.reg i6r17) (.seq (.reg i6r18) (.seq (.reg i6r19) (.seq (.reg i6r20) (.seq (.reg i6r21) (.seq (.reg i6r22) (.seq (.reg i6r23) (.seq (.reg i6r24) (.seq (.reg i6r25) (.seq (.reg i6r26) (.seq (.reg i6r27) (.seq (.reg i6r28) (.seq (.reg i6r29) (.seq (.reg i6r30) (.seq (.reg i6r31) (.seq (.reg i6r32) (.seq (.reg i6r33) (.seq (.reg i6r34) (.seq (.reg i6r35) (.seq (.reg i6r36) (.seq (.reg i6r37) (.seq (.reg i6r38) (.seq (.reg i6r39) (.seq (.reg i6r40) (.seq (.reg i6r41) (.seq (.reg i6r42) (.seq (.reg i6r43) (.seq (.reg i6r44) .ret))))))))))))))))))))))))))))))))))))))))))))
def i6 : IFn := { np := 0, N := 529, ct := [68], code := i6c, res := [.t 0] }
theorem i6_eq : compF Try.prog Try.f6 = some i6 := by kernel_rfl
abbrev i30r0 : List IOper := [
 oo 6 (.box (.t 0)),
 oo 12 (.new [.ns, .i .i64 0, .i .i64 0, .i .i64 0, .i .i64 0, .i .i64 0, .i .i64 0, .i .i64 0, .i .i64 0, .b false, .i .i64 0, .i .i64 0, .i .i64 0, .i .i64 0, .i .i64 0, .i .i64 0, .i .i64 0, .i .i64 0]),
 oo 13 (.mv (.c (.b false)))]
abbrev i30r1 : List (IOper × List Nat) := [
 (oo 18 (.ld true 18 (.t 6)), []),
 (oo 19 (.mv (.t 1)), [0]),
 (oo 20 (.mv (.t 5)), [0, 1]),
 (oo 21 (.mv (.t 2)), [0, 1, 2]),
 (oo 22 (.mv (.t 3)), [0, 1, 2, 3]),
 (oo 23 (.mv (.t 4)), [0, 1, 2, 3, 4]),
 (oo 24 (.build [.b false, .b false, .b false, .b false, .i .i64 0, .i .i64 0, .i .i64 0, .i .i64 0] [(1, 1, .t 20), (4, 1, .t 21), (5, 1, .c (.i .i64 255)), (6, 1, .t 22), (2, 1, .t 23)]), [0, 1]),
 (oo 25 (.call (.c (.fn 27 [])) [.c (.i .i64 4294967295), .t 19, .c (.i .i64 0), .t 24]), [0]),
 (oo 26 (.call (.c (.fn 28 [])) [.t 18, .t 25]), []),
 (oo 17 (.mv (.t 26)), []),
 (oo 27 (.ext (.t 17) 0), []),
 (oo 28 (.ext (.t 17) 1), [10]),
 (oo 29 (.ext (.t 17) 2), [10, 11]),
 (oo 14 (.new [.ns, .i .i64 0, .i .i64 0, .i .i64 0, .i .i64 0, .i .i64 0, .i .i64 0, .i .i64 0, .i .i64 0, .b false, .i .i64 0, .i .i64 0, .i .i64 0, .i .i64 0, .i .i64 0, .i .i64 0, .i .i64 0, .i .i64 0]), [0, 1, 2, 3, 4, 5, 6, 7, 8, 9, 10, 11, 12]),
 (oo 15 (.new [.b false, .i .i64 0, .i .i64 0, .i .i64 0, .i .i64 0, .ns, .ns, .i .i64 0, .s []]), [0, 1, 2, 3, 4, 5, 6, 7, 8, 9, 10, 11, 12, 13]),
 (on_ (.st 18 (.t 14) (.t 27)), [11, 12]),
 (on_ (.st 9 (.t 15) (.t 28)), [12]),
 (oo 16 (.mv (.t 29)), [])]
abbrev i30r2 : List (IOper × List Nat) := [
 (oo 30 (.ld true 18 (.t 14)), []),
 (oo 31 (.mv (.t 16)), [0]),
 (ot 32 (.mv (.t 31)), [0]),
 (og 33 (.fa 8 (.t 15)) 32 true false, [0]),
 (og 34 (.ld false 1 (.t 33)) 32 true false, [0]),
 (og 35 (.bin .neq (.t 34) (.c (.s []))) 32 true false, [0]),
 (oo 36 (.pick (.t 32) (.t 35) (.c (.b false))), [0]),
 (on_ (.st 18 (.t 12) (.t 30)), [3, 4, 5, 6]),
 (oo 13 (.mv (.t 36)), [])]
abbrev i30c : ICode := (.seq (.reg i30r0) (.seq (.dreg i30r1) (.seq (.dreg i30r2) .ret)))
def i30 : IFn := { np := 6, N := 37, ct := [], code := i30c, res := [.c 12 true 18, .t 13] }
theorem i30_eq : compF Try.prog Try.f30 = some i30 := by kernel_rfl
abbrev i31r0 : List IOper := [
 oo 3 (.mv (.c (.b false)))]
abbrev i31r1 : List IOper := [
 oo 5 (.ld true 18 (.t 1)),
 oo 4 (.new [.ns, .i .i64 0, .i .i64 0, .i .i64 0, .i .i64 0, .i .i64 0, .i .i64 0, .i .i64 0, .i .i64 0, .b false, .i .i64 0, .i .i64 0, .i .i64 0, .i .i64 0, .i .i64 0, .i .i64 0, .i .i64 0, .i .i64 0]),
 on_ (.st 18 (.t 4) (.t 5))]
abbrev i31r2 : List IOper := [
 oo 6 (.mv (.t 0)),
 oo 7 (.call (.t 6) [.t 4])]
abbrev i31r3 : List IOper := [
 oo 8 (.ld true 18 (.t 4)),
 oo 9 (.call (.c (.fn 12 [])) [.t 8]),
 oo 10 (.bin .eql (.t 9) (.c (.i .i64 410))),
 oo 3 (.mv (.t 10))]
abbrev i31c : ICode := (.seq (.reg i31r0) (.seq (.reg i31r1) (.seq (.reg i31r2) (.seq (.reg i31r3) .ret))))
def i31 : IFn := { np := 2, N := 11, ct := [], code := i31c, res := [.t 3] }
theorem i31_eq : compF Try.prog Try.f31 = some i31 := by kernel_rfl
abbrev i32r0 : List IOper := [
 oo 2 (.mv (.t 0)),
 oo 3 (.nck (.t 2)),
 oo 4 (.fa 0 (.t 3)),
 on_ (.st 1 (.t 4) (.c (.ns)))]
abbrev i32c : ICode := (.reg i32r0)
def i32 : IFn := { np := 1, N := 5, ct := [], code := i32c, res := [] }
theorem i32_eq : compF Try.prog Try.f32 = some i32 := by kernel_rfl
abbrev i33r0 : List IOper := [
 oo 2 (.mv (.t 0)),
 oo 3 (.bsl [.i .i64 0, .i .i64 0] 2 [(0, 1, .c (.i .i64 1)), (1, 1, .c (.i .i64 1))]),
 oo 4 (.nck (.t 2)),
 oo 5 (.fa 0 (.t 4)),
 on_ (.st 1 (.t 5) (.t 3))]
abbrev i33c : ICode := (.reg i33r0)
def i33 : IFn := { np := 1, N := 6, ct := [], code := i33c, res := [] }
theorem i33_eq : compF Try.prog Try.f33 = some i33 := by kernel_rfl
abbrev i34r0 : List IOper := [
 oo 2 (.mv (.t 0)),
 oo 3 (.bsl [.i .i64 0, .i .i64 0, .i .i64 0, .i .i64 0] 4 [(0, 1, .c (.i .i64 1)), (1, 1, .c (.i .i64 2)), (2, 1, .c (.i .i64 3)), (3, 1, .c (.i .i64 4))]),
 oo 4 (.nck (.t 2)),
 oo 5 (.fa 0 (.t 4)),
 on_ (.st 1 (.t 5) (.t 3))]
abbrev i34c : ICode := (.reg i34r0)
def i34 : IFn := { np := 1, N := 6, ct := [], code := i34c, res := [] }
theorem i34_eq : compF Try.prog Try.f34 = some i34 := by kernel_rfl
abbrev i35r0 : List IOper := [
 oo 2 (.mv (.t 0)),
 oo 3 (.bsl [.i .i64 0, .i .i64 0] 2 [(0, 1, .c (.i .i64 0)), (1, 1, .c (.i .i64 (-1)))]),
 oo 4 (.nck (.t 2)),
 oo 5 (.fa 0 (.t 4)),
 on_ (.st 1 (.t 5) (.t 3))]
abbrev i35c : ICode := (.reg i35r0)
def i35 : IFn := { np := 1, N := 6, ct := [], code := i35c, res := [] }
theorem i35_eq : compF Try.prog Try.f35 = some i35 := by kernel_rfl
abbrev i36r0 : List IOper := [
 oo 2 (.mv (.t 0)),
 oo 3 (.nck (.t 2)),
 oo 4 (.fa 1 (.t 3)),
 on_ (.st 1 (.t 4) (.c (.i .i64 4294967296)))]
abbrev i36c : ICode := (.reg i36r0)
def i36 : IFn := { np := 1, N := 5, ct := [], code := i36c, res := [] }
theorem i36_eq : compF Try.prog Try.f36 = some i36 := by kernel_rfl
abbrev i37r0 : List IOper := [
 oo 2 (.mv (.t 0)),
 oo 3 (.nck (.t 2)),
 oo 4 (.fa 2 (.t 3)),
 on_ (.st 1 (.t 4) (.c (.i .i64 0)))]
abbrev i37c : ICode := (.reg i37r0)
def i37 : IFn := { np := 1, N := 5, ct := [], code := i37c, res := [] }
theorem i37_eq : compF Try.prog Try.f37 = some i37 := by kernel_rfl
abbrev i38r0 : List IOper := [
 oo 2 (.mv (.t 0)),
 oo 3 (.nck (.t 2)),
 oo 4 (.fa 3 (.t 3)),
 on_ (.st 1 (.t 4) (.c (.i .i64 3)))]
abbrev i38c : ICode := (.reg i38r0)
def i38 : IFn := { np := 1, N := 5, ct := [], code := i38c, res := [] }
theorem i38_eq : compF Try.prog Try.f38 = some i38 := by kernel_rfl
abbrev i39r0 : List IOper := [
 oo 2 (.mv (.t 0)),
 oo 3 (.nck (.t 2)),
 oo 4 (.fa 3 (.t 3)),
 on_ (.st 1 (.t 4) (.c (.i .i64 (-1))))]
abbrev i39c : ICode := (.reg i39r0)
def i39 : IFn := { np := 1, N := 5, ct := [], code := i39c, res := [] }
theorem i39_eq : compF Try.prog Try.f39 = some i39 := by kernel_rfl
abbrev i40r0 : List IOper := [
 oo 2 (.mv (.t 0)),
 oo 3 (.nck (.t 2)),
 oo 4 (.fa 4 (.t 3)),
 on_ (.st 1 (.t 4) (.c (.i .i64 (-2))))]
abbrev i40c : ICode := (.reg i40r0)
def i40 : IFn := { np := 1, N := 5, ct := [], code := i40c, res := [] }
theorem i40_eq : compF Try.prog Try.f40 = some i40 := by kernel_rfl
abbrev i41r0 : List IOper := [
 oo 2 (.mv (.t 0)),
 oo 3 (.nck (.t 2)),
 oo 4 (.fa 5 (.t 3)),
 on_ (.st 1 (.t 4) (.c (.i .i64 4)))]
abbrev i41c : ICode := (.reg i41r0)
def i41 : IFn := { np := 1, N := 5, ct := [], code := i41c, res := [] }
theorem i41_eq : compF Try.prog Try.f41 = some i41 := by kernel_rfl
abbrev i42r0 : List IOper := [
 oo 2 (.mv (.t 0)),
 oo 3 (.nck (.t 2)),
 oo 4 (.fa 7 (.t 3)),
 on_ (.st 1 (.t 4) (.c (.i .i64 65536)))]
abbrev i42c : ICode := (.reg i42r0)
def i42 : IFn := { np := 1, N := 5, ct := [], code := i42c, res := [] }
theorem i42_eq : compF Try.prog Try.f42 = some i42 := by kernel_rfl
abbrev i43r0 : List IOper := [
 oo 2 (.mv (.t 0)),
 oo 3 (.nck (.t 2)),
 oo 4 (.fa 13 (.t 3)),
 on_ (.st 1 (.t 4) (.c (.i .i64 256)))]
abbrev i43c : ICode := (.reg i43r0)
def i43 : IFn := { np := 1, N := 5, ct := [], code := i43c, res := [] }
theorem i43_eq : compF Try.prog Try.f43 = some i43 := by kernel_rfl
abbrev i44r0 : List IOper := [
 oo 2 (.mv (.t 0)),
 oo 3 (.nck (.t 2)),
 oo 4 (.fa 14 (.t 3)),
 oo 5 (.fa 2 (.t 4)),
 on_ (.st 1 (.t 5) (.c (.i .i64 32768)))]
abbrev i44c : ICode := (.reg i44r0)
def i44 : IFn := { np := 1, N := 6, ct := [], code := i44c, res := [] }
theorem i44_eq : compF Try.prog Try.f44 = some i44 := by kernel_rfl
end Go.Proofs.Lys
