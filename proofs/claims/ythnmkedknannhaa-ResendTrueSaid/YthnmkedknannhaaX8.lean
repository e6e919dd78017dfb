/- Texts laid as one: ResKIR ResKT ResM1 ResM2 ResM3 ResM6 ResM7 ResM8 ResI6 ResM4 ResM5. -/
import Derived.Test.YthnmkedknannhaaX7
import Derived.Test.YthnmkedknannhaaProg
set_option maxRecDepth 100000
set_option maxHeartbeats 4000000
set_option linter.unusedSimpArgs false
set_option linter.unusedVariables false
namespace Go.Proofs.Res
open Go.Ab
abbrev i16r0:List IOper:=[⟨some 0,.mv (.c (.b false)),none,false⟩]
abbrev i16r1:List IOper:=[⟨some 41,.build [.i .i64 0,.b false,.i .i64 0,.ns] [],none,false⟩,⟨some 42,.call (.c (.fn 23 [])) [.t 41,.c (.i .i64 0),.c (.i .i64 10)],none,false⟩,⟨some 43,.call (.c (.fn 23 [])) [.t 42,.c (.i .i64 5),.c (.i .i64 13)],none,false⟩,⟨some 1,.new [.i .i64 0,.b false,.i .i64 0,.ns],none,false⟩,⟨none,.st 4 (.t 1) (.t 43),none,false⟩]
abbrev i16r2:List IOper:=[⟨some 45,.ld true 4 (.t 1),none,false⟩,⟨some 46,.bsl [.i .i64 0,.i .i64 0] 2 [(0,1,.c (.i .i64 11)),(1,1,.c (.i .i64 12))],none,false⟩,⟨some 47,.call (.c (.fn 24 [])) [.t 45,.c (.i .i64 5),.c (.i .i64 100),.c (.b false),.t 46],none,false⟩,⟨some 44,.mv (.t 47),none,false⟩,⟨some 48,.ext (.t 44) 0,none,false⟩,⟨some 49,.ext (.t 44) 1,none,false⟩,⟨some 2,.new [.i .i64 0,.b false,.i .i64 0,.ns],none,false⟩,⟨none,.st 4 (.t 2) (.t 48),none,false⟩,⟨some 3,.mv (.t 49),none,false⟩]
abbrev i16r3:List IOper:=[⟨some 51,.ld true 4 (.t 2),none,false⟩,⟨some 52,.call (.c (.fn 24 [])) [.t 51,.c (.i .i64 104),.c (.i .i64 100),.c (.b false),.c (.ns)],none,false⟩,⟨some 50,.mv (.t 52),none,false⟩,⟨some 53,.ext (.t 50) 0,none,false⟩,⟨some 54,.ext (.t 50) 1,none,false⟩,⟨some 4,.new [.i .i64 0,.b false,.i .i64 0,.ns],none,false⟩,⟨none,.st 4 (.t 4) (.t 53),none,false⟩,⟨some 5,.mv (.t 54),none,false⟩]
abbrev i16r4:List IOper:=[⟨some 56,.ld true 4 (.t 2),none,false⟩,⟨some 57,.bsl [.i .i64 0,.i .i64 0] 2 [(0,1,.c (.i .i64 11)),(1,1,.c (.i .i64 12))],none,false⟩,⟨some 58,.call (.c (.fn 24 [])) [.t 56,.c (.i .i64 105),.c (.i .i64 100),.c (.b false),.t 57],none,false⟩,⟨some 55,.mv (.t 58),none,false⟩,⟨some 59,.ext (.t 55) 0,none,false⟩,⟨some 60,.ext (.t 55) 1,none,false⟩,⟨some 6,.new [.i .i64 0,.b false,.i .i64 0,.ns],none,false⟩,⟨none,.st 4 (.t 6) (.t 59),none,false⟩,⟨some 7,.mv (.t 60),none,false⟩]
abbrev i16r5:List IOper:=[⟨some 62,.ld true 4 (.t 6),none,false⟩,⟨some 63,.call (.c (.fn 24 [])) [.t 62,.c (.i .i64 304),.c (.i .i64 100),.c (.b false),.c (.ns)],none,false⟩,⟨some 61,.mv (.t 63),none,false⟩,⟨some 64,.ext (.t 61) 0,none,false⟩,⟨some 65,.ext (.t 61) 1,none,false⟩,⟨some 8,.new [.i .i64 0,.b false,.i .i64 0,.ns],none,false⟩,⟨none,.st 4 (.t 8) (.t 64),none,false⟩,⟨some 9,.mv (.t 65),none,false⟩]
abbrev i16r6:List IOper:=[⟨some 67,.ld true 4 (.t 6),none,false⟩,⟨some 68,.bsl [.i .i64 0,.i .i64 0] 2 [(0,1,.c (.i .i64 11)),(1,1,.c (.i .i64 12))],none,false⟩,⟨some 69,.call (.c (.fn 24 [])) [.t 67,.c (.i .i64 305),.c (.i .i64 100),.c (.b false),.t 68],none,false⟩,⟨some 66,.mv (.t 69),none,false⟩,⟨some 70,.ext (.t 66) 0,none,false⟩,⟨some 71,.ext (.t 66) 1,none,false⟩,⟨some 10,.new [.i .i64 0,.b false,.i .i64 0,.ns],none,false⟩,⟨none,.st 4 (.t 10) (.t 70),none,false⟩,⟨some 11,.mv (.t 71),none,false⟩]
abbrev i16r7:List IOper:=[⟨some 73,.ld true 4 (.t 2),none,false⟩,⟨some 74,.call (.c (.fn 23 [])) [.t 73,.c (.i .i64 50),.c (.i .i64 11)],none,false⟩,⟨some 75,.bsl [.i .i64 0] 1 [(0,1,.c (.i .i64 12))],none,false⟩,⟨some 76,.call (.c (.fn 24 [])) [.t 74,.c (.i .i64 105),.c (.i .i64 100),.c (.b false),.t 75],none,false⟩,⟨some 72,.mv (.t 76),none,false⟩,⟨some 77,.ext (.t 72) 0,none,false⟩,⟨some 78,.ext (.t 72) 1,none,false⟩,⟨some 12,.new [.i .i64 0,.b false,.i .i64 0,.ns],none,false⟩,⟨none,.st 4 (.t 12) (.t 77),none,false⟩,⟨some 13,.mv (.t 78),none,false⟩]
abbrev i16r8:List IOper:=[⟨some 80,.ld true 4 (.t 1),none,false⟩,⟨some 81,.bsl [.i .i64 0,.i .i64 0] 2 [(0,1,.c (.i .i64 11)),(1,1,.c (.i .i64 12))],none,false⟩,⟨some 82,.call (.c (.fn 24 [])) [.t 80,.c (.i .i64 2004),.c (.i .i64 100),.c (.b false),.t 81],none,false⟩,⟨some 79,.mv (.t 82),none,false⟩,⟨some 83,.ext (.t 79) 0,none,false⟩,⟨some 84,.ext (.t 79) 1,none,false⟩,⟨some 14,.new [.i .i64 0,.b false,.i .i64 0,.ns],none,false⟩,⟨none,.st 4 (.t 14) (.t 83),none,false⟩,⟨some 15,.mv (.t 84),none,false⟩]
abbrev i16r9:List IOper:=[⟨some 86,.ld true 4 (.t 1),none,false⟩,⟨some 87,.call (.c (.fn 24 [])) [.t 86,.c (.i .i64 2005),.c (.i .i64 100),.c (.b true),.c (.ns)],none,false⟩,⟨some 85,.mv (.t 87),none,false⟩,⟨some 88,.ext (.t 85) 0,none,false⟩,⟨some 89,.ext (.t 85) 1,none,false⟩,⟨some 16,.new [.i .i64 0,.b false,.i .i64 0,.ns],none,false⟩,⟨none,.st 4 (.t 16) (.t 88),none,false⟩,⟨some 17,.mv (.t 89),none,false⟩]
abbrev i16r10:List IOper:=[⟨some 91,.build [.i .i64 0,.b false,.i .i64 0,.ns] [],none,false⟩,⟨some 92,.call (.c (.fn 23 [])) [.t 91,.c (.i .i64 0),.c (.i .i64 10)],none,false⟩,⟨some 93,.call (.c (.fn 13 [])) [.t 92,.c (.i .i64 0),.c (.i .i64 75)],none,false⟩,⟨some 90,.mv (.t 93),none,false⟩,⟨some 94,.ext (.t 90) 0,none,false⟩,⟨some 95,.ext (.t 90) 1,none,false⟩,⟨some 18,.new [.i .i64 0,.b false,.i .i64 0,.ns],none,false⟩,⟨none,.st 4 (.t 18) (.t 94),none,false⟩,⟨some 19,.mv (.t 95),none,false⟩]
abbrev i16r11:List IOper:=[⟨some 96,.build [.i .i64 0,.b false,.i .i64 0,.ns] [],none,false⟩,⟨some 97,.call (.c (.fn 23 [])) [.t 96,.c (.i .i64 0),.c (.i .i64 10)],none,false⟩,⟨some 98,.call (.c (.fn 23 [])) [.t 97,.c (.i .i64 0),.c (.i .i64 74)],none,false⟩,⟨some 20,.new [.i .i64 0,.b false,.i .i64 0,.ns],none,false⟩,⟨none,.st 4 (.t 20) (.t 98),none,false⟩]
abbrev i16r12:List IOper:=[⟨some 99,.mv (.t 3),none,false⟩,⟨some 100,.not (.t 99),none,false⟩,⟨some 101,.mv (.t 100),none,true⟩,⟨some 102,.mv (.t 5),(some (101,false)),false⟩,⟨some 103,.not (.t 102),(some (101,false)),false⟩,⟨some 104,.pick (.t 101) (.c (.b true)) (.t 103),none,false⟩,⟨some 105,.mv (.t 104),none,true⟩,⟨some 106,.mv (.t 7),(some (105,false)),false⟩,⟨some 107,.not (.t 106),(some (105,false)),false⟩,⟨some 108,.pick (.t 105) (.c (.b true)) (.t 107),none,false⟩,⟨some 109,.mv (.t 108),none,true⟩,⟨some 110,.mv (.t 9),(some (109,false)),false⟩,⟨some 111,.not (.t 110),(some (109,false)),false⟩,⟨some 112,.pick (.t 109) (.c (.b true)) (.t 111),none,false⟩,⟨some 113,.mv (.t 112),none,true⟩,⟨some 114,.mv (.t 11),(some (113,false)),false⟩,⟨some 115,.not (.t 114),(some (113,false)),false⟩,⟨some 116,.pick (.t 113) (.c (.b true)) (.t 115),none,false⟩,⟨some 117,.mv (.t 116),none,true⟩,⟨some 118,.mv (.t 13),(some (117,false)),false⟩,⟨some 119,.not (.t 118),(some (117,false)),false⟩,⟨some 120,.pick (.t 117) (.c (.b true)) (.t 119),none,false⟩,⟨some 121,.mv (.t 120),none,true⟩,⟨some 122,.mv (.t 15),(some (121,false)),false⟩,⟨some 123,.not (.t 122),(some (121,false)),false⟩,⟨some 124,.pick (.t 121) (.c (.b true)) (.t 123),none,false⟩,⟨some 125,.mv (.t 124),none,true⟩,⟨some 126,.mv (.t 17),(some (125,false)),false⟩,⟨some 127,.not (.t 126),(some (125,false)),false⟩,⟨some 128,.pick (.t 125) (.c (.b true)) (.t 127),none,false⟩,⟨some 129,.mv (.t 128),none,true⟩,⟨some 130,.fa 3 (.t 16),(some (129,false)),false⟩,⟨some 131,.ld false 1 (.t 130),(some (129,false)),false⟩,⟨some 132,.lenV (.t 131),(some (129,false)),false⟩,⟨some 133,.bin .neq (.t 132) (.c (.i .i64 0)),(some (129,false)),false⟩,⟨some 134,.pick (.t 129) (.c (.b true)) (.t 133),none,false⟩,⟨some 135,.mv (.t 134),none,true⟩,⟨some 136,.mv (.t 19),(some (135,false)),false⟩,⟨some 137,.bin .neq (.t 136) (.c (.i .i64 6)),(some (135,false)),false⟩,⟨some 138,.pick (.t 135) (.c (.b true)) (.t 137),none,false⟩,⟨some 139,.mv (.t 138),none,true⟩,⟨some 140,.fa 3 (.t 20),(some (139,false)),false⟩,⟨some 141,.ld false 1 (.t 140),(some (139,false)),false⟩,⟨some 142,.lenV (.t 141),(some (139,false)),false⟩,⟨some 143,.bin .neq (.t 142) (.c (.i .i64 63)),(some (139,false)),false⟩,⟨some 144,.pick (.t 139) (.c (.b true)) (.t 143),none,false⟩,⟨some 145,.mv (.t 144),none,true⟩,⟨some 146,.ld true 4 (.t 1),(some (145,false)),false⟩,⟨some 147,.call (.c (.fn 25 [])) [.t 146,.c (.i .i64 100),.c (.i .i64 5)],(some (145,false)),false⟩,⟨some 148,.not (.t 147),(some (145,false)),false⟩,⟨some 149,.pick (.t 145) (.c (.b true)) (.t 148),none,false⟩,⟨some 150,.mv (.t 149),none,true⟩,⟨some 151,.ld true 4 (.t 2),(some (150,false)),false⟩,⟨some 152,.call (.c (.fn 25 [])) [.t 151,.c (.i .i64 100),.c (.i .i64 105)],(some (150,false)),false⟩,⟨some 153,.not (.t 152),(some (150,false)),false⟩,⟨some 154,.pick (.t 150) (.c (.b true)) (.t 153),none,true⟩]
abbrev i16r13:List IOper:=[⟨some 0,.mv (.c (.b false)),none,false⟩]
abbrev i16r14:List IOper:=[⟨some 155,.build [.b false,.i .i64 0,.i .i64 0,.i .i64 0,.i .i64 0,.ns,.ns,.i .i64 0,.s []] [(1,1,.c (.i .i64 96)),(2,1,.c (.i .i64 5)),(3,1,.c (.i .i64 9)),(4,1,.c (.i .i64 1)),(8,1,.c (.s [120]))],none,false⟩,⟨some 21,.new [.b false,.i .i64 0,.i .i64 0,.i .i64 0,.i .i64 0,.ns,.ns,.i .i64 0,.s []],none,false⟩,⟨none,.st 9 (.t 21) (.t 155),none,false⟩]
abbrev i16r15:List IOper:=[⟨some 157,.call (.c (.fn 32 [])) [.c (.i .i64 7),.c (.i .i64 97),.c (.i .i64 100)],none,false⟩,⟨some 156,.mv (.t 157),none,false⟩,⟨some 158,.ext (.t 156) 0,none,false⟩,⟨some 159,.ext (.t 156) 1,none,false⟩,⟨some 22,.new [.i .i64 0,.i .i64 0,.i .i64 0,.i .i64 0,.ns],none,false⟩,⟨none,.st 5 (.t 22) (.t 158),none,false⟩,⟨some 23,.mv (.t 159),none,false⟩]
abbrev i16r16:List IOper:=[⟨some 161,.ld true 5 (.t 22),none,false⟩,⟨some 162,.ld true 9 (.t 21),none,false⟩,⟨some 163,.call (.c (.fn 33 [])) [.t 161,.c (.i .i64 0),.t 162],none,false⟩,⟨some 160,.mv (.t 163),none,false⟩,⟨some 164,.ext (.t 160) 0,none,false⟩,⟨some 165,.ext (.t 160) 1,none,false⟩,⟨some 24,.new [.i .i64 0,.i .i64 0,.i .i64 0,.i .i64 0,.ns],none,false⟩,⟨none,.st 5 (.t 24) (.t 164),none,false⟩,⟨some 25,.mv (.t 165),none,false⟩]
abbrev i16r17:List IOper:=[⟨some 167,.ld true 5 (.t 24),none,false⟩,⟨some 168,.bsl [.i .i64 0,.i .i64 0] 2 [(0,1,.c (.i .i64 5)),(1,1,.c (.i .i64 6))],none,false⟩,⟨some 169,.call (.c (.fn 37 [])) [.t 167,.c (.i .i64 10),.c (.i .i64 100),.t 168],none,false⟩,⟨some 166,.mv (.t 169),none,false⟩,⟨some 170,.ext (.t 166) 0,none,false⟩,⟨some 171,.ext (.t 166) 1,none,false⟩,⟨some 172,.ext (.t 166) 2,none,false⟩,⟨some 26,.new [.i .i64 0,.i .i64 0,.i .i64 0,.i .i64 0,.ns],none,false⟩,⟨none,.st 5 (.t 26) (.t 170),none,false⟩,⟨some 27,.mv (.t 171),none,false⟩,⟨some 28,.mv (.t 172),none,false⟩]
abbrev i16r18:List IOper:=[⟨some 174,.ld true 5 (.t 26),none,false⟩,⟨some 175,.bsl [.i .i64 0] 1 [(0,1,.c (.i .i64 5))],none,false⟩,⟨some 176,.call (.c (.fn 37 [])) [.t 174,.c (.i .i64 109),.c (.i .i64 100),.t 175],none,false⟩,⟨some 173,.mv (.t 176),none,false⟩,⟨some 177,.ext (.t 173) 0,none,false⟩,⟨some 178,.ext (.t 173) 1,none,false⟩,⟨some 179,.ext (.t 173) 2,none,false⟩,⟨some 29,.new [.i .i64 0,.i .i64 0,.i .i64 0,.i .i64 0,.ns],none,false⟩,⟨none,.st 5 (.t 29) (.t 177),none,false⟩,⟨some 30,.mv (.t 178),none,false⟩,⟨some 31,.mv (.t 179),none,false⟩]
abbrev i16r19:List IOper:=[⟨some 181,.ld true 5 (.t 26),none,false⟩,⟨some 182,.bsl [.i .i64 0] 1 [(0,1,.c (.i .i64 5))],none,false⟩,⟨some 183,.call (.c (.fn 37 [])) [.t 181,.c (.i .i64 110),.c (.i .i64 100),.t 182],none,false⟩,⟨some 180,.mv (.t 183),none,false⟩,⟨some 184,.ext (.t 180) 0,none,false⟩,⟨some 185,.ext (.t 180) 1,none,false⟩,⟨some 186,.ext (.t 180) 2,none,false⟩,⟨some 32,.new [.i .i64 0,.i .i64 0,.i .i64 0,.i .i64 0,.ns],none,false⟩,⟨none,.st 5 (.t 32) (.t 184),none,false⟩,⟨some 33,.mv (.t 185),none,false⟩,⟨some 34,.mv (.t 186),none,false⟩]
abbrev i16r20:List IOper:=[⟨some 187,.mv (.t 23),none,false⟩,⟨some 188,.bin .neq (.t 187) (.c (.i .i64 0)),none,false⟩,⟨some 189,.mv (.t 188),none,true⟩,⟨some 190,.mv (.t 25),(some (189,false)),false⟩,⟨some 191,.bin .neq (.t 190) (.c (.i .i64 0)),(some (189,false)),false⟩,⟨some 192,.pick (.t 189) (.c (.b true)) (.t 191),none,false⟩,⟨some 193,.mv (.t 192),none,true⟩,⟨some 194,.mv (.t 28),(some (193,false)),false⟩,⟨some 195,.bin .neq (.t 194) (.c (.i .i64 0)),(some (193,false)),false⟩,⟨some 196,.pick (.t 193) (.c (.b true)) (.t 195),none,false⟩,⟨some 197,.mv (.t 196),none,true⟩,⟨some 198,.mv (.t 31),(some (197,false)),false⟩,⟨some 199,.bin .neq (.t 198) (.c (.i .i64 0)),(some (197,false)),false⟩,⟨some 200,.pick (.t 197) (.c (.b true)) (.t 199),none,false⟩,⟨some 201,.mv (.t 200),none,true⟩,⟨some 202,.mv (.t 34),(some (201,false)),false⟩,⟨some 203,.bin .neq (.t 202) (.c (.i .i64 0)),(some (201,false)),false⟩,⟨some 204,.pick (.t 201) (.c (.b true)) (.t 203),none,false⟩,⟨some 205,.mv (.t 204),none,true⟩,⟨some 206,.mv (.t 27),(some (205,false)),false⟩,⟨some 207,.lenV (.t 206),(some (205,false)),false⟩,⟨some 208,.bin .neq (.t 207) (.c (.i .i64 1)),(some (205,false)),false⟩,⟨some 209,.pick (.t 205) (.c (.b true)) (.t 208),none,false⟩,⟨some 210,.mv (.t 209),none,true⟩,⟨some 211,.mv (.t 30),(some (210,false)),false⟩,⟨some 212,.lenV (.t 211),(some (210,false)),false⟩,⟨some 213,.bin .neq (.t 212) (.c (.i .i64 0)),(some (210,false)),false⟩,⟨some 214,.pick (.t 210) (.c (.b true)) (.t 213),none,false⟩,⟨some 215,.mv (.t 214),none,true⟩,⟨some 216,.mv (.t 33),(some (215,false)),false⟩,⟨some 217,.lenV (.t 216),(some (215,false)),false⟩,⟨some 218,.bin .neq (.t 217) (.c (.i .i64 1)),(some (215,false)),false⟩,⟨some 219,.pick (.t 215) (.c (.b true)) (.t 218),none,false⟩,⟨some 220,.mv (.t 219),none,true⟩,⟨some 221,.mv (.t 33),(some (220,false)),false⟩,⟨some 222,.ixaV 9 (.t 221) (.c (.i .i64 0)),(some (220,false)),false⟩,⟨some 223,.fa 2 (.t 222),(some (220,false)),false⟩,⟨some 224,.ld false 1 (.t 223),(some (220,false)),false⟩,⟨some 225,.bin .neq (.t 224) (.c (.i .i64 101)),(some (220,false)),false⟩,⟨some 226,.pick (.t 220) (.c (.b true)) (.t 225),none,true⟩]
abbrev i16r21:List IOper:=[⟨some 0,.mv (.c (.b false)),none,false⟩]
abbrev i16r22:List IOper:=[⟨some 228,.mv (.t 27),none,false⟩,⟨some 229,.ixaV 9 (.t 228) (.c (.i .i64 0)),none,false⟩,⟨some 230,.ld true 9 (.t 229),none,false⟩,⟨some 231,.call (.c (.fn 38 [])) [.t 230,.c (.i .i64 1),.c (.i .i64 96)],none,false⟩,⟨some 227,.mv (.t 231),none,false⟩,⟨some 232,.ext (.t 227) 0,none,false⟩,⟨some 233,.ext (.t 227) 1,none,false⟩,⟨some 35,.new [.b false,.i .i64 0,.i .i64 0,.i .i64 0,.i .i64 0,.ns,.ns,.i .i64 0,.s []],none,false⟩,⟨none,.st 9 (.t 35) (.t 232),none,false⟩,⟨some 36,.mv (.t 233),none,false⟩]
abbrev i16r23:List IOper:=[⟨some 235,.ld true 5 (.t 24),none,false⟩,⟨some 236,.ld true 9 (.t 21),none,false⟩,⟨some 237,.call (.c (.fn 33 [])) [.t 235,.c (.i .i64 1),.t 236],none,false⟩,⟨some 234,.mv (.t 237),none,false⟩,⟨some 238,.ext (.t 234) 0,none,false⟩,⟨some 239,.ext (.t 234) 1,none,false⟩,⟨some 37,.new [.i .i64 0,.i .i64 0,.i .i64 0,.i .i64 0,.ns],none,false⟩,⟨none,.st 5 (.t 37) (.t 238),none,false⟩,⟨some 38,.mv (.t 239),none,false⟩]
abbrev i16r24:List IOper:=[⟨some 241,.ld true 9 (.t 21),none,false⟩,⟨some 242,.call (.c (.fn 38 [])) [.t 241,.c (.i .i64 1),.c (.i .i64 96)],none,false⟩,⟨some 240,.mv (.t 242),none,false⟩,⟨some 243,.ext (.t 240) 0,none,false⟩,⟨some 244,.ext (.t 240) 1,none,false⟩,⟨some 39,.new [.b false,.i .i64 0,.i .i64 0,.i .i64 0,.i .i64 0,.ns,.ns,.i .i64 0,.s []],none,false⟩,⟨none,.st 9 (.t 39) (.t 243),none,false⟩,⟨some 40,.mv (.t 244),none,false⟩]
abbrev i16r25:List IOper:=[⟨some 245,.mv (.t 27),none,false⟩,⟨some 246,.ixaV 9 (.t 245) (.c (.i .i64 0)),none,false⟩,⟨some 247,.ld true 9 (.t 246),none,false⟩,⟨some 248,.build [.b false,.i .i64 0,.i .i64 0,.i .i64 0,.i .i64 0,.ns,.ns,.i .i64 0,.s []] [(1,1,.c (.i .i64 97)),(2,1,.c (.i .i64 100)),(3,1,.c (.i .i64 9)),(4,1,.c (.i .i64 7)),(8,1,.c (.s [0,5,120]))],none,false⟩,⟨some 249,.call (.c (.fn 36 [])) [.t 247,.t 248],none,false⟩,⟨some 250,.mv (.t 249),none,true⟩,⟨some 251,.mv (.t 36),(some (250,true)),false⟩,⟨some 252,.bin .eql (.t 251) (.c (.i .i64 0)),(some (250,true)),false⟩,⟨some 253,.pick (.t 250) (.t 252) (.c (.b false)),none,false⟩,⟨some 254,.mv (.t 253),none,true⟩,⟨some 255,.ld true 9 (.t 35),(some (254,true)),false⟩,⟨some 256,.ld true 9 (.t 21),(some (254,true)),false⟩,⟨some 257,.call (.c (.fn 36 [])) [.t 255,.t 256],(some (254,true)),false⟩,⟨some 258,.pick (.t 254) (.t 257) (.c (.b false)),none,false⟩,⟨some 259,.mv (.t 258),none,true⟩,⟨some 260,.mv (.t 38),(some (259,true)),false⟩,⟨some 261,.bin .eql (.t 260) (.c (.i .i64 10)),(some (259,true)),false⟩,⟨some 262,.pick (.t 259) (.t 261) (.c (.b false)),none,false⟩,⟨some 263,.mv (.t 262),none,true⟩,⟨some 264,.mv (.t 40),(some (263,true)),false⟩,⟨some 265,.bin .eql (.t 264) (.c (.i .i64 7)),(some (263,true)),false⟩,⟨some 266,.pick (.t 263) (.t 265) (.c (.b false)),none,false⟩,⟨some 0,.mv (.t 266),none,false⟩]
abbrev i16c:ICode:=(.seq (.reg i16r0) (.seq (.reg i16r1) (.seq (.reg i16r2) (.seq (.reg i16r3) (.seq (.reg i16r4) (.seq (.reg i16r5) (.seq (.reg i16r6) (.seq (.reg i16r7) (.seq (.reg i16r8) (.seq (.reg i16r9) (.seq (.reg i16r10) (.seq (.reg i16r11) (.seq (.seq (.reg i16r12) (.cond (.t 154) (.seq (.reg i16r13) .ret) .skip)) (.seq (.reg i16r14) (.seq (.reg i16r15) (.seq (.reg i16r16) (.seq (.reg i16r17) (.seq (.reg i16r18) (.seq (.reg i16r19) (.seq (.seq (.reg i16r20) (.cond (.t 226) (.seq (.reg i16r21) .ret) .skip)) (.seq (.reg i16r22) (.seq (.reg i16r23) (.seq (.reg i16r24) (.seq (.reg i16r25) .ret))))))))))))))))))))))))
def i16:IFn:={np:=0,N:=267,ct:=[154,226],code:=i16c,res:=[.t 0]}
theorem i16_eq:compF Try.prog Try.f16=some i16:=by kernel_rfl
abbrev i32r0:List IOper:=[⟨some 6,.new [.i .i64 0,.i .i64 0,.i .i64 0,.i .i64 0,.ns],none,false⟩,⟨some 7,.mv (.c (.i .i64 0)),none,false⟩]
abbrev i32r1:List IOper:=[⟨some 8,.mv (.t 0),none,false⟩,⟨some 9,.mv (.t 1),none,false⟩,⟨some 10,.mv (.t 2),none,false⟩,⟨some 11,.call (.c (.fn 66 [])) [.t 8,.t 9,.t 10],none,false⟩,⟨some 12,.not (.t 11),none,true⟩]
abbrev i32r2:List IOper:=[⟨some 13,.build [.i .i64 0,.i .i64 0,.i .i64 0,.i .i64 0,.ns] [],none,false⟩,⟨none,.st 5 (.t 6) (.t 13),none,false⟩,⟨some 7,.mv (.c (.i .i64 2)),none,false⟩]
abbrev i32r3:List IOper:=[⟨some 14,.mv (.t 0),none,false⟩,⟨some 15,.mv (.t 1),none,false⟩,⟨some 16,.mv (.t 2),none,false⟩,⟨some 17,.build [.i .i64 0,.i .i64 0,.i .i64 0,.i .i64 0,.ns] [(1,1,.t 14),(2,1,.t 15),(3,1,.t 16)],none,false⟩,⟨none,.st 5 (.t 6) (.t 17),none,false⟩,⟨some 7,.mv (.c (.i .i64 0)),none,false⟩]
abbrev i32c:ICode:=(.seq (.reg i32r0) (.seq (.seq (.reg i32r1) (.cond (.t 12) (.seq (.reg i32r2) .ret) .skip)) (.seq (.reg i32r3) .ret)))
def i32:IFn:={np:=3,N:=18,ct:=[12],code:=i32c,res:=[.c 6 true 5,.t 7]}
theorem i32_eq:compF Try.prog Try.f32=some i32:=by kernel_rfl
abbrev i33r0:List IOper:=[⟨some 3,.box (.t 0),none,false⟩,⟨some 4,.box (.t 1),none,false⟩,⟨some 5,.box (.t 2),none,false⟩,⟨some 6,.new [.i .i64 0,.i .i64 0,.i .i64 0,.i .i64 0,.ns],none,false⟩,⟨some 7,.mv (.c (.i .i64 0)),none,false⟩]
abbrev i33r1:List IOper:=[⟨some 14,.ld true 5 (.t 3),none,false⟩,⟨some 15,.ld false 1 (.t 4),none,false⟩,⟨some 16,.call (.c (.fn 67 [])) [.t 14,.t 15],none,false⟩,⟨some 13,.mv (.t 16),none,false⟩,⟨some 17,.ext (.t 13) 0,none,false⟩,⟨some 18,.ext (.t 13) 1,none,false⟩,⟨some 8,.mv (.t 17),none,false⟩,⟨some 9,.mv (.t 18),none,false⟩]
abbrev i33r2:List IOper:=[⟨some 19,.mv (.t 9),none,false⟩,⟨some 20,.bin .neq (.t 19) (.c (.i .i64 0)),none,true⟩]
abbrev i33r3:List IOper:=[⟨some 21,.build [.i .i64 0,.i .i64 0,.i .i64 0,.i .i64 0,.ns] [],none,false⟩,⟨some 22,.mv (.t 9),none,false⟩,⟨none,.st 5 (.t 6) (.t 21),none,false⟩,⟨some 7,.mv (.t 22),none,false⟩]
abbrev i33r4:List IOper:=[⟨some 23,.ld true 9 (.t 5),none,false⟩,⟨some 24,.call (.c (.fn 68 [])) [.t 23],none,false⟩,⟨some 25,.bin .neq (.t 24) (.c (.i .i64 0)),none,true⟩]
abbrev i33r5:List IOper:=[⟨some 26,.build [.i .i64 0,.i .i64 0,.i .i64 0,.i .i64 0,.ns] [],none,false⟩,⟨none,.st 5 (.t 6) (.t 26),none,false⟩,⟨some 7,.mv (.c (.i .i64 230)),none,false⟩]
abbrev i33r6:List IOper:=[⟨some 10,.new [.i .i64 0],none,false⟩,⟨some 11,.new [.i .i64 0],none,false⟩,⟨none,.st 1 (.t 10) (.c (.i .i64 0)),none,false⟩,⟨none,.st 1 (.t 11) (.c (.i .i64 0)),none,false⟩]
abbrev i33r7:List IOper:=[⟨some 27,.mv (.t 8),none,false⟩,⟨some 28,.nck (.t 27),none,false⟩,⟨some 29,.fa 0 (.t 28),none,false⟩,⟨some 30,.fa 4 (.t 29),none,false⟩,⟨some 31,.ld false 1 (.t 30),none,false⟩,⟨some 32,.lenV (.t 31),none,false⟩,⟨some 12,.mv (.t 32),none,false⟩]
abbrev i33r8:List IOper:=[⟨some 33,.mv (.t 12),none,false⟩,⟨some 34,.bin .gtr (.t 33) (.c (.i .i64 0)),none,true⟩]
abbrev i33r9:List IOper:=[⟨some 35,.mv (.t 8),none,false⟩,⟨some 36,.nck (.t 35),none,false⟩,⟨some 37,.fa 0 (.t 36),none,false⟩,⟨some 38,.fa 4 (.t 37),none,false⟩,⟨some 39,.ld false 1 (.t 38),none,false⟩,⟨some 40,.mv (.t 12),none,false⟩,⟨some 41,.bin .sub (.t 40) (.c (.i .i64 1)),none,false⟩,⟨some 42,.ixaV 11 (.t 39) (.t 41),none,false⟩,⟨some 43,.fa 0 (.t 42),none,false⟩,⟨some 44,.fa 2 (.t 43),none,false⟩,⟨some 45,.ld false 1 (.t 44),none,false⟩,⟨none,.st 1 (.t 10) (.t 45),none,false⟩]
abbrev i33r10:List IOper:=[⟨some 46,.fa 2 (.t 5),none,false⟩,⟨some 47,.ld false 1 (.t 46),none,false⟩,⟨some 48,.ld false 1 (.t 10),none,false⟩,⟨some 49,.call (.c (.fn 51 [])) [.t 47,.t 48],none,false⟩,⟨none,.st 1 (.t 11) (.t 49),none,false⟩]
abbrev i33r11:List IOper:=[⟨some 50,.ld false 1 (.t 11),none,false⟩,⟨some 51,.bin .leq (.t 50) (.c (.i .i64 0)),none,true⟩]
abbrev i33r12:List IOper:=[⟨some 52,.build [.i .i64 0,.i .i64 0,.i .i64 0,.i .i64 0,.ns] [],none,false⟩,⟨none,.st 5 (.t 6) (.t 52),none,false⟩,⟨some 7,.mv (.c (.i .i64 10)),none,false⟩]
abbrev i33r13:List IOper:=[⟨some 53,.mv (.t 8),none,false⟩,⟨some 54,.mv (.t 8),none,false⟩,⟨some 55,.nck (.t 54),none,false⟩,⟨some 56,.fa 0 (.t 55),none,false⟩,⟨some 57,.fa 4 (.t 56),none,false⟩,⟨some 58,.ld false 1 (.t 57),none,false⟩,⟨some 59,.mkf 70 [.t 4,.t 10,.t 11],none,false⟩,⟨some 60,.call (.c (.fn 69 [])) [.t 58,.t 59],none,false⟩,⟨some 61,.nck (.t 53),none,false⟩,⟨some 62,.fa 0 (.t 61),none,false⟩,⟨some 63,.fa 4 (.t 62),none,false⟩,⟨none,.st 1 (.t 63) (.t 60),none,false⟩]
abbrev i33r14:List IOper:=[⟨some 64,.mv (.t 8),none,false⟩,⟨some 65,.nck (.t 64),none,false⟩,⟨some 66,.fa 0 (.t 65),none,false⟩,⟨some 67,.fa 4 (.t 66),none,false⟩,⟨some 68,.ld false 1 (.t 67),none,false⟩,⟨some 69,.lenV (.t 68),none,false⟩,⟨some 70,.bin .eql (.t 69) (.c (.i .i64 64)),none,true⟩]
abbrev i33r15:List IOper:=[⟨some 71,.mv (.t 8),none,false⟩,⟨some 72,.mv (.t 8),none,false⟩,⟨some 73,.nck (.t 72),none,false⟩,⟨some 74,.fa 0 (.t 73),none,false⟩,⟨some 75,.fa 4 (.t 74),none,false⟩,⟨some 76,.ld false 1 (.t 75),none,false⟩,⟨some 77,.slV 11 (.t 76) (some (.c (.i .i64 1))) none none,none,false⟩,⟨some 78,.nck (.t 71),none,false⟩,⟨some 79,.fa 0 (.t 78),none,false⟩,⟨some 80,.fa 4 (.t 79),none,false⟩,⟨none,.st 1 (.t 80) (.t 77),none,false⟩]
abbrev i33r16:List (IOper×List Nat):=[(⟨some 81,.mv (.t 8),none,false⟩,[]),(⟨some 82,.mv (.t 8),none,false⟩,[0]),(⟨some 83,.nck (.t 82),none,false⟩,[0]),(⟨some 84,.fa 0 (.t 83),none,false⟩,[0]),(⟨some 85,.fa 4 (.t 84),none,false⟩,[0]),(⟨some 86,.ld false 1 (.t 85),none,false⟩,[0]),(⟨some 87,.ld true 9 (.t 5),none,false⟩,[0,1,2,3,4,5]),(⟨some 88,.ld false 1 (.t 4),none,false⟩,[0,1,2,3,4,5,6]),(⟨some 89,.build [.b false,.i .i64 0,.i .i64 0,.i .i64 0,.i .i64 0,.ns,.ns,.i .i64 0,.s [],.i .i64 0,.i .i64 0] [(0,9,.t 87),(9,1,.t 88),(10,1,.c (.i .i64 (-1)))],none,false⟩,[0,1,2,3,4,5]),(⟨some 90,.bsl [.b false,.i .i64 0,.i .i64 0,.i .i64 0,.i .i64 0,.ns,.ns,.i .i64 0,.s [],.i .i64 0,.i .i64 0] 1 [(0,11,.t 89)],none,false⟩,[0,1,2,3,4,5]),(⟨some 91,.app 11 128 [.b false,.i .i64 0,.i .i64 0,.i .i64 0,.i .i64 0,.ns,.ns,.i .i64 0,.s [],.i .i64 0,.i .i64 0] (.t 86) (.t 90),none,false⟩,[0]),(⟨some 92,.nck (.t 81),none,false⟩,[]),(⟨some 93,.fa 0 (.t 92),none,false⟩,[]),(⟨some 94,.fa 4 (.t 93),none,false⟩,[]),(⟨none,.st 1 (.t 94) (.t 91),none,false⟩,[])]
abbrev i33r17:List IOper:=[⟨some 95,.mv (.t 8),none,false⟩,⟨some 96,.nck (.t 95),none,false⟩,⟨some 97,.fa 0 (.t 96),none,false⟩,⟨some 98,.ld true 5 (.t 97),none,false⟩,⟨none,.st 5 (.t 6) (.t 98),none,false⟩,⟨some 7,.mv (.c (.i .i64 0)),none,false⟩]
abbrev i33c:ICode:=(.seq (.reg i33r0) (.seq (.reg i33r1) (.seq (.seq (.reg i33r2) (.cond (.t 20) (.seq (.reg i33r3) .ret) .skip)) (.seq (.seq (.reg i33r4) (.cond (.t 25) (.seq (.reg i33r5) .ret) .skip)) (.seq (.reg i33r6) (.seq (.seq (.reg i33r7) (.seq (.reg i33r8) (.cond (.t 34) (.seq (.reg i33r9) (.seq (.reg i33r10) (.seq (.reg i33r11) (.cond (.t 51) (.seq (.reg i33r12) .ret) .skip)))) .skip))) (.seq (.reg i33r13) (.seq (.seq (.reg i33r14) (.cond (.t 70) (.reg i33r15) .skip)) (.seq (.dreg i33r16) (.seq (.reg i33r17) .ret))))))))))
def i33:IFn:={np:=3,N:=99,ct:=[20,25,34,51,70],code:=i33c,res:=[.c 6 true 5,.t 7]}
theorem i33_eq:compF Try.prog Try.f33=some i33:=by kernel_rfl
abbrev i35r0:List IOper:=[⟨some 1,.box (.t 0),none,false⟩,⟨some 2,.mv (.c (.i .i64 0)),none,false⟩]
abbrev i35r1:List IOper:=[⟨some 8,.fa 0 (.t 1),none,false⟩,⟨some 9,.ld false 1 (.t 8),none,false⟩,⟨some 10,.call (.c (.fn 49 [])) [.c (.i .i64 0),.c (.i .i64 1099511627776),.t 9],none,false⟩,⟨some 11,.not (.t 10),none,false⟩,⟨some 12,.mv (.t 11),none,true⟩,⟨some 13,.fa 1 (.t 1),(some (12,false)),false⟩,⟨some 14,.ld false 1 (.t 13),(some (12,false)),false⟩,⟨some 15,.fa 2 (.t 1),(some (12,false)),false⟩,⟨some 16,.ld false 1 (.t 15),(some (12,false)),false⟩,⟨some 17,.fa 3 (.t 1),(some (12,false)),false⟩,⟨some 18,.ld false 1 (.t 17),(some (12,false)),false⟩,⟨some 19,.call (.c (.fn 66 [])) [.t 14,.t 16,.t 18],(some (12,false)),false⟩,⟨some 20,.not (.t 19),(some (12,false)),false⟩,⟨some 21,.pick (.t 12) (.c (.b true)) (.t 20),none,false⟩,⟨some 22,.mv (.t 21),none,true⟩,⟨some 23,.fa 4 (.t 1),(some (22,false)),false⟩,⟨some 24,.ld false 1 (.t 23),(some (22,false)),false⟩,⟨some 25,.lenV (.t 24),(some (22,false)),false⟩,⟨some 26,.bin .gtr (.t 25) (.c (.i .i64 64)),(some (22,false)),false⟩,⟨some 27,.pick (.t 22) (.c (.b true)) (.t 26),none,true⟩]
abbrev i35r2:List IOper:=[⟨some 2,.mv (.c (.i .i64 281)),none,false⟩]
abbrev i35r3:List IOper:=[⟨some 28,.fa 4 (.t 1),none,false⟩,⟨some 29,.ld false 1 (.t 28),none,false⟩,⟨some 30,.call (.c (.fn 40 [])) [.t 29,.c (.fn 71 [])],none,true⟩]
abbrev i35r4:List IOper:=[⟨some 2,.mv (.c (.i .i64 281)),none,false⟩]
abbrev i35r5:List IOper:=[⟨some 3,.mv (.c (.i .i64 0)),none,false⟩,⟨some 4,.mv (.c (.i .i64 (-16385))),none,false⟩]
abbrev i35r6:List IOper:=[⟨some 31,.fa 4 (.t 1),none,false⟩,⟨some 32,.ld false 1 (.t 31),none,false⟩,⟨some 33,.lenV (.t 32),none,false⟩,⟨some 34,.mv (.c (.i .i64 0)),none,false⟩]
abbrev i35r7:List IOper:=[⟨some 35,.bin .lss (.t 34) (.t 33),none,true⟩]
abbrev i35r8:List IOper:=[⟨some 36,.ixaV 11 (.t 32) (.t 34),none,false⟩,⟨some 37,.ld true 11 (.t 36),none,false⟩,⟨some 6,.new [.b false,.i .i64 0,.i .i64 0,.i .i64 0,.i .i64 0,.ns,.ns,.i .i64 0,.s [],.i .i64 0,.i .i64 0],none,false⟩,⟨none,.st 11 (.t 6) (.t 37),none,false⟩]
abbrev i35r9:List (IOper×List Nat):=[(⟨some 38,.fa 0 (.t 6),none,false⟩,[]),(⟨some 39,.fa 2 (.t 38),none,false⟩,[]),(⟨some 40,.ld false 1 (.t 39),none,false⟩,[]),(⟨some 41,.fa 4 (.t 1),none,false⟩,[0,1,2]),(⟨some 42,.ld false 1 (.t 41),none,false⟩,[0,1,2]),(⟨some 43,.fa 4 (.t 1),none,false⟩,[0,1,2,3,4]),(⟨some 44,.ld false 1 (.t 43),none,false⟩,[0,1,2,3,4]),(⟨some 45,.lenV (.t 44),none,false⟩,[0,1,2,3,4]),(⟨some 46,.bin .sub (.t 45) (.c (.i .i64 1)),none,false⟩,[0,1,2,3,4]),(⟨some 47,.ixaV 11 (.t 42) (.t 46),none,false⟩,[0,1,2]),(⟨some 48,.fa 0 (.t 47),none,false⟩,[0,1,2]),(⟨some 49,.fa 2 (.t 48),none,false⟩,[0,1,2]),(⟨some 50,.ld false 1 (.t 49),none,false⟩,[0,1,2]),(⟨some 51,.call (.c (.fn 51 [])) [.t 40,.t 50],none,false⟩,[]),(⟨some 7,.mv (.t 51),none,false⟩,[])]
abbrev i35r10:List IOper:=[⟨some 52,.mv (.t 3),none,false⟩,⟨some 53,.fa 0 (.t 1),none,false⟩,⟨some 54,.ld false 1 (.t 53),none,false⟩,⟨some 55,.fa 9 (.t 6),none,false⟩,⟨some 56,.ld false 1 (.t 55),none,false⟩,⟨some 57,.call (.c (.fn 49 [])) [.t 52,.t 54,.t 56],none,false⟩,⟨some 58,.not (.t 57),none,false⟩,⟨some 59,.mv (.t 58),none,true⟩,⟨some 60,.fa 10 (.t 6),(some (59,false)),false⟩,⟨some 61,.ld false 1 (.t 60),(some (59,false)),false⟩,⟨some 62,.bin .neq (.t 61) (.c (.i .i64 (-1))),(some (59,false)),false⟩,⟨some 63,.mv (.t 62),(some (59,false)),true⟩,⟨some 64,.fa 9 (.t 6),(some (63,true)),false⟩,⟨some 65,.ld false 1 (.t 64),(some (63,true)),false⟩,⟨some 66,.fa 0 (.t 1),(some (63,true)),false⟩,⟨some 67,.ld false 1 (.t 66),(some (63,true)),false⟩,⟨some 68,.fa 10 (.t 6),(some (63,true)),false⟩,⟨some 69,.ld false 1 (.t 68),(some (63,true)),false⟩,⟨some 70,.call (.c (.fn 49 [])) [.t 65,.t 67,.t 69],(some (63,true)),false⟩,⟨some 71,.not (.t 70),(some (63,true)),false⟩,⟨some 72,.pick (.t 63) (.t 71) (.c (.b false)),(some (59,false)),false⟩,⟨some 73,.pick (.t 59) (.c (.b true)) (.t 72),none,false⟩,⟨some 74,.mv (.t 73),none,true⟩,⟨some 75,.mv (.t 4),(some (74,false)),false⟩,⟨some 76,.bin .add (.t 75) (.c (.i .i64 1)),(some (74,false)),false⟩,⟨some 77,.mv (.t 7),(some (74,false)),false⟩,⟨some 78,.call (.c (.fn 49 [])) [.t 76,.c (.i .i64 0),.t 77],(some (74,false)),false⟩,⟨some 79,.not (.t 78),(some (74,false)),false⟩,⟨some 80,.pick (.t 74) (.c (.b true)) (.t 79),none,true⟩]
abbrev i35r11:List IOper:=[⟨some 2,.mv (.c (.i .i64 281)),none,false⟩]
abbrev i35r12:List IOper:=[⟨some 81,.fa 9 (.t 6),none,false⟩,⟨some 82,.ld false 1 (.t 81),none,false⟩,⟨some 83,.mv (.t 7),none,false⟩,⟨some 3,.mv (.t 82),none,false⟩,⟨some 4,.mv (.t 83),none,false⟩]
abbrev i35r13:List IOper:=[⟨some 84,.bin .add (.t 34) (.c (.i .i64 1)),none,false⟩,⟨some 34,.mv (.t 84),none,false⟩]
abbrev i35l14:ICode:=(.seq (.reg i35r7) (.seq (.cond (.t 35) .skip (.exit 0)) (.seq (.block 1 (.seq (.reg i35r8) (.seq (.dreg i35r9) (.seq (.seq (.reg i35r10) (.cond (.t 80) (.seq (.reg i35r11) .ret) .skip)) (.reg i35r12))))) (.reg i35r13))))
abbrev i35r15:List IOper:=[⟨some 2,.mv (.c (.i .i64 0)),none,false⟩]
abbrev i35c:ICode:=(.seq (.reg i35r0) (.seq (.seq (.reg i35r1) (.cond (.t 27) (.seq (.reg i35r2) .ret) .skip)) (.seq (.seq (.reg i35r3) (.cond (.t 30) (.seq (.reg i35r4) .ret) .skip)) (.seq (.reg i35r5) (.seq (.seq (.reg i35r6) (.block 0 (.loop i35l14))) (.seq (.reg i35r15) .ret))))))
def i35:IFn:={np:=1,N:=85,ct:=[27,30,35,80],code:=i35c,res:=[.t 2]}
theorem i35_eq:compF Try.prog Try.f35=some i35:=by kernel_rfl
abbrev i36r0:List IOper:=[⟨some 2,.box (.t 0),none,false⟩,⟨some 3,.box (.t 1),none,false⟩,⟨some 4,.mv (.c (.b false)),none,false⟩]
abbrev i36r1:List IOper:=[⟨some 7,.fa 0 (.t 2),none,false⟩,⟨some 8,.ld false 1 (.t 7),none,false⟩,⟨some 9,.fa 0 (.t 3),none,false⟩,⟨some 10,.ld false 1 (.t 9),none,false⟩,⟨some 11,.eqk true false [.b] (.t 8) (.t 10),none,false⟩,⟨some 12,.mv (.t 11),none,true⟩,⟨some 13,.fa 1 (.t 2),(some (12,false)),false⟩,⟨some 14,.ld false 1 (.t 13),(some (12,false)),false⟩,⟨some 15,.fa 1 (.t 3),(some (12,false)),false⟩,⟨some 16,.ld false 1 (.t 15),(some (12,false)),false⟩,⟨some 17,.bin .neq (.t 14) (.t 16),(some (12,false)),false⟩,⟨some 18,.pick (.t 12) (.c (.b true)) (.t 17),none,false⟩,⟨some 19,.mv (.t 18),none,true⟩,⟨some 20,.fa 2 (.t 2),(some (19,false)),false⟩,⟨some 21,.ld false 1 (.t 20),(some (19,false)),false⟩,⟨some 22,.fa 2 (.t 3),(some (19,false)),false⟩,⟨some 23,.ld false 1 (.t 22),(some (19,false)),false⟩,⟨some 24,.bin .neq (.t 21) (.t 23),(some (19,false)),false⟩,⟨some 25,.pick (.t 19) (.c (.b true)) (.t 24),none,false⟩,⟨some 26,.mv (.t 25),none,true⟩,⟨some 27,.fa 3 (.t 2),(some (26,false)),false⟩,⟨some 28,.ld false 1 (.t 27),(some (26,false)),false⟩,⟨some 29,.fa 3 (.t 3),(some (26,false)),false⟩,⟨some 30,.ld false 1 (.t 29),(some (26,false)),false⟩,⟨some 31,.bin .neq (.t 28) (.t 30),(some (26,false)),false⟩,⟨some 32,.pick (.t 26) (.c (.b true)) (.t 31),none,false⟩,⟨some 33,.mv (.t 32),none,true⟩,⟨some 34,.fa 4 (.t 2),(some (33,false)),false⟩,⟨some 35,.ld false 1 (.t 34),(some (33,false)),false⟩,⟨some 36,.fa 4 (.t 3),(some (33,false)),false⟩,⟨some 37,.ld false 1 (.t 36),(some (33,false)),false⟩,⟨some 38,.bin .neq (.t 35) (.t 37),(some (33,false)),false⟩,⟨some 39,.pick (.t 33) (.c (.b true)) (.t 38),none,false⟩,⟨some 40,.mv (.t 39),none,true⟩,⟨some 41,.fa 7 (.t 2),(some (40,false)),false⟩,⟨some 42,.ld false 1 (.t 41),(some (40,false)),false⟩,⟨some 43,.fa 7 (.t 3),(some (40,false)),false⟩,⟨some 44,.ld false 1 (.t 43),(some (40,false)),false⟩,⟨some 45,.bin .neq (.t 42) (.t 44),(some (40,false)),false⟩,⟨some 46,.pick (.t 40) (.c (.b true)) (.t 45),none,false⟩,⟨some 47,.mv (.t 46),none,true⟩,⟨some 48,.fa 8 (.t 2),(some (47,false)),false⟩,⟨some 49,.ld false 1 (.t 48),(some (47,false)),false⟩,⟨some 50,.fa 8 (.t 3),(some (47,false)),false⟩,⟨some 51,.ld false 1 (.t 50),(some (47,false)),false⟩,⟨some 52,.bin .neq (.t 49) (.t 51),(some (47,false)),false⟩,⟨some 53,.pick (.t 47) (.c (.b true)) (.t 52),none,false⟩,⟨some 54,.mv (.t 53),none,true⟩,⟨some 55,.fa 5 (.t 2),(some (54,false)),false⟩,⟨some 56,.ld false 1 (.t 55),(some (54,false)),false⟩,⟨some 57,.lenV (.t 56),(some (54,false)),false⟩,⟨some 58,.fa 5 (.t 3),(some (54,false)),false⟩,⟨some 59,.ld false 1 (.t 58),(some (54,false)),false⟩,⟨some 60,.lenV (.t 59),(some (54,false)),false⟩,⟨some 61,.bin .neq (.t 57) (.t 60),(some (54,false)),false⟩,⟨some 62,.pick (.t 54) (.c (.b true)) (.t 61),none,false⟩,⟨some 63,.mv (.t 62),none,true⟩,⟨some 64,.fa 6 (.t 2),(some (63,false)),false⟩,⟨some 65,.ld false 1 (.t 64),(some (63,false)),false⟩,⟨some 66,.lenV (.t 65),(some (63,false)),false⟩,⟨some 67,.fa 6 (.t 3),(some (63,false)),false⟩,⟨some 68,.ld false 1 (.t 67),(some (63,false)),false⟩,⟨some 69,.lenV (.t 68),(some (63,false)),false⟩,⟨some 70,.bin .neq (.t 66) (.t 69),(some (63,false)),false⟩,⟨some 71,.pick (.t 63) (.c (.b true)) (.t 70),none,true⟩]
abbrev i36r2:List IOper:=[⟨some 4,.mv (.c (.b false)),none,false⟩]
abbrev i36r3:List IOper:=[⟨some 5,.mv (.c (.i .i64 0)),none,false⟩]
abbrev i36r4:List IOper:=[⟨some 72,.mv (.t 5),none,false⟩,⟨some 73,.fa 5 (.t 2),none,false⟩,⟨some 74,.ld false 1 (.t 73),none,false⟩,⟨some 75,.lenV (.t 74),none,false⟩,⟨some 76,.bin .lss (.t 72) (.t 75),none,true⟩]
abbrev i36r5:List (IOper×List Nat):=[(⟨some 79,.fa 5 (.t 2),none,false⟩,[]),(⟨some 80,.ld false 1 (.t 79),none,false⟩,[]),(⟨some 81,.mv (.t 5),none,false⟩,[0,1]),(⟨some 82,.ixaV 1 (.t 80) (.t 81),none,false⟩,[]),(⟨some 83,.ld false 1 (.t 82),none,false⟩,[]),(⟨some 84,.fa 5 (.t 3),none,false⟩,[0,1,2,3,4]),(⟨some 85,.ld false 1 (.t 84),none,false⟩,[0,1,2,3,4]),(⟨some 86,.mv (.t 5),none,false⟩,[0,1,2,3,4,5,6]),(⟨some 87,.ixaV 1 (.t 85) (.t 86),none,false⟩,[0,1,2,3,4]),(⟨some 88,.ld false 1 (.t 87),none,false⟩,[0,1,2,3,4]),(⟨some 89,.bin .neq (.t 83) (.t 88),none,true⟩,[])]
abbrev i36r6:List IOper:=[⟨some 4,.mv (.c (.b false)),none,false⟩]
abbrev i36r7:List IOper:=[⟨some 77,.mv (.t 5),none,false⟩,⟨some 78,.bin .add (.t 77) (.c (.i .i64 1)),none,false⟩,⟨some 5,.mv (.t 78),none,false⟩]
abbrev i36l8:ICode:=(.seq (.seq (.reg i36r4) (.cond (.t 76) .skip (.exit 0))) (.seq (.block 1 (.seq (.dreg i36r5) (.cond (.t 89) (.seq (.reg i36r6) .ret) .skip))) (.reg i36r7)))
abbrev i36r9:List IOper:=[⟨some 6,.mv (.c (.i .i64 0)),none,false⟩]
abbrev i36r10:List IOper:=[⟨some 90,.mv (.t 6),none,false⟩,⟨some 91,.fa 6 (.t 2),none,false⟩,⟨some 92,.ld false 1 (.t 91),none,false⟩,⟨some 93,.lenV (.t 92),none,false⟩,⟨some 94,.bin .lss (.t 90) (.t 93),none,true⟩]
abbrev i36r11:List (IOper×List Nat):=[(⟨some 97,.fa 6 (.t 2),none,false⟩,[]),(⟨some 98,.ld false 1 (.t 97),none,false⟩,[]),(⟨some 99,.mv (.t 6),none,false⟩,[0,1]),(⟨some 100,.ixaV 2 (.t 98) (.t 99),none,false⟩,[]),(⟨some 101,.ld true 2 (.t 100),none,false⟩,[]),(⟨some 102,.fa 6 (.t 3),none,false⟩,[0,1,2,3,4]),(⟨some 103,.ld false 1 (.t 102),none,false⟩,[0,1,2,3,4]),(⟨some 104,.mv (.t 6),none,false⟩,[0,1,2,3,4,5,6]),(⟨some 105,.ixaV 2 (.t 103) (.t 104),none,false⟩,[0,1,2,3,4]),(⟨some 106,.ld true 2 (.t 105),none,false⟩,[0,1,2,3,4]),(⟨some 107,.eqk true true [.i,.s] (.t 101) (.t 106),none,true⟩,[])]
abbrev i36r12:List IOper:=[⟨some 4,.mv (.c (.b false)),none,false⟩]
abbrev i36r13:List IOper:=[⟨some 95,.mv (.t 6),none,false⟩,⟨some 96,.bin .add (.t 95) (.c (.i .i64 1)),none,false⟩,⟨some 6,.mv (.t 96),none,false⟩]
abbrev i36l14:ICode:=(.seq (.seq (.reg i36r10) (.cond (.t 94) .skip (.exit 2))) (.seq (.block 3 (.seq (.dreg i36r11) (.cond (.t 107) (.seq (.reg i36r12) .ret) .skip))) (.reg i36r13)))
abbrev i36r15:List IOper:=[⟨some 4,.mv (.c (.b true)),none,false⟩]
abbrev i36c:ICode:=(.seq (.reg i36r0) (.seq (.seq (.reg i36r1) (.cond (.t 71) (.seq (.reg i36r2) .ret) .skip)) (.seq (.seq (.reg i36r3) (.block 0 (.loop i36l8))) (.seq (.seq (.reg i36r9) (.block 2 (.loop i36l14))) (.seq (.reg i36r15) .ret)))))
def i36:IFn:={np:=2,N:=108,ct:=[71,76,89,94,107],code:=i36c,res:=[.t 4]}
theorem i36_eq:compF Try.prog Try.f36=some i36:=by kernel_rfl
abbrev i37r0:List IOper:=[⟨some 4,.box (.t 0),none,false⟩,⟨some 8,.new [.i .i64 0,.i .i64 0,.i .i64 0,.i .i64 0,.ns],none,false⟩,⟨some 9,.mv (.c (.ns)),none,false⟩,⟨some 10,.mv (.c (.i .i64 0)),none,false⟩]
abbrev i37r1:List IOper:=[⟨some 17,.ld true 5 (.t 4),none,false⟩,⟨some 18,.mv (.t 1),none,false⟩,⟨some 19,.call (.c (.fn 67 [])) [.t 17,.t 18],none,false⟩,⟨some 16,.mv (.t 19),none,false⟩,⟨some 20,.ext (.t 16) 0,none,false⟩,⟨some 21,.ext (.t 16) 1,none,false⟩,⟨some 11,.mv (.t 20),none,false⟩,⟨some 10,.mv (.t 21),none,false⟩]
abbrev i37r2:List IOper:=[⟨some 22,.mv (.t 10),none,false⟩,⟨some 23,.bin .neq (.t 22) (.c (.i .i64 0)),none,true⟩]
abbrev i37r3:List IOper:=[⟨some 24,.build [.i .i64 0,.i .i64 0,.i .i64 0,.i .i64 0,.ns] [],none,false⟩,⟨some 25,.mv (.t 10),none,false⟩,⟨none,.st 5 (.t 8) (.t 24),none,false⟩,⟨some 9,.mv (.c (.ns)),none,false⟩,⟨some 10,.mv (.t 25),none,false⟩]
abbrev i37r4:List IOper:=[⟨some 26,.mv (.t 2),none,false⟩,⟨some 27,.call (.c (.fn 49 [])) [.c (.i .i64 1),.c (.i .i64 2000),.t 26],none,false⟩,⟨some 28,.not (.t 27),none,true⟩]
abbrev i37r5:List IOper:=[⟨some 29,.build [.i .i64 0,.i .i64 0,.i .i64 0,.i .i64 0,.ns] [],none,false⟩,⟨none,.st 5 (.t 8) (.t 29),none,false⟩,⟨some 9,.mv (.c (.ns)),none,false⟩,⟨some 10,.mv (.c (.i .i64 2)),none,false⟩]
abbrev i37r6:List IOper:=[⟨some 30,.mv (.t 3),none,false⟩,⟨some 31,.lenV (.t 30),none,false⟩,⟨some 32,.bin .gtr (.t 31) (.c (.i .i64 64)),none,true⟩]
abbrev i37r7:List IOper:=[⟨some 33,.build [.i .i64 0,.i .i64 0,.i .i64 0,.i .i64 0,.ns] [],none,false⟩,⟨none,.st 5 (.t 8) (.t 33),none,false⟩,⟨some 9,.mv (.c (.ns)),none,false⟩,⟨some 10,.mv (.c (.i .i64 3)),none,false⟩]
abbrev i37r8:List IOper:=[⟨some 34,.mv (.t 3),none,false⟩,⟨some 35,.call (.c (.fn 72 [])) [.t 34,.c (.fn 73 [])],none,true⟩]
abbrev i37r9:List IOper:=[⟨some 36,.build [.i .i64 0,.i .i64 0,.i .i64 0,.i .i64 0,.ns] [],none,false⟩,⟨none,.st 5 (.t 8) (.t 36),none,false⟩,⟨some 9,.mv (.c (.ns)),none,false⟩,⟨some 10,.mv (.c (.i .i64 2)),none,false⟩]
abbrev i37r10:List IOper:=[⟨some 37,.mv (.t 3),none,false⟩,⟨some 38,.lenV (.t 37),none,false⟩,⟨some 39,.mv (.c (.i .i64 0)),none,false⟩]
abbrev i37r11:List IOper:=[⟨some 40,.bin .lss (.t 39) (.t 38),none,true⟩]
abbrev i37r12:List IOper:=[⟨some 41,.ixaV 1 (.t 37) (.t 39),none,false⟩,⟨some 42,.ld false 1 (.t 41),none,false⟩,⟨some 13,.new [.i .i64 0],none,false⟩,⟨none,.st 1 (.t 13) (.t 42),none,false⟩]
abbrev i37r13:List IOper:=[⟨some 43,.mv (.t 11),none,false⟩,⟨some 44,.nck (.t 43),none,false⟩,⟨some 45,.fa 0 (.t 44),none,false⟩,⟨some 46,.fa 4 (.t 45),none,false⟩,⟨some 47,.ld false 1 (.t 46),none,false⟩,⟨some 48,.mkf 75 [.t 13],none,false⟩,⟨some 49,.call (.c (.fn 74 [])) [.t 47,.t 48],none,false⟩,⟨some 14,.mv (.t 49),none,false⟩]
abbrev i37r14:List IOper:=[⟨some 50,.mv (.t 14),none,false⟩,⟨some 51,.bin .lss (.t 50) (.c (.i .i64 0)),none,true⟩]
abbrev i37r15:List IOper:=[⟨some 52,.mv (.t 11),none,false⟩,⟨some 53,.nck (.t 52),none,false⟩,⟨some 54,.fa 0 (.t 53),none,false⟩,⟨some 55,.fa 4 (.t 54),none,false⟩,⟨some 56,.ld false 1 (.t 55),none,false⟩,⟨some 57,.mv (.t 14),none,false⟩,⟨some 58,.ixaV 11 (.t 56) (.t 57),none,false⟩,⟨some 15,.mv (.t 58),none,false⟩]
abbrev i37r16:List IOper:=[⟨some 59,.mv (.t 1),none,false⟩,⟨some 60,.mv (.t 15),none,false⟩,⟨some 61,.nck (.t 60),none,false⟩,⟨some 62,.fa 9 (.t 61),none,false⟩,⟨some 63,.ld false 1 (.t 62),none,false⟩,⟨some 64,.bin .sub (.t 59) (.t 63),none,false⟩,⟨some 65,.bin .leq (.t 64) (.c (.i .i64 2000)),none,false⟩,⟨some 66,.mv (.t 65),none,true⟩,⟨some 67,.mv (.t 15),(some (66,true)),false⟩,⟨some 68,.nck (.t 67),(some (66,true)),false⟩,⟨some 69,.fa 10 (.t 68),(some (66,true)),false⟩,⟨some 70,.ld false 1 (.t 69),(some (66,true)),false⟩,⟨some 71,.bin .lss (.t 70) (.c (.i .i64 0)),(some (66,true)),false⟩,⟨some 72,.mv (.t 71),(some (66,true)),true⟩,⟨some 73,.mv (.t 1),(some (72,false)),false⟩,⟨some 74,.mv (.t 15),(some (72,false)),false⟩,⟨some 75,.nck (.t 74),(some (72,false)),false⟩,⟨some 76,.fa 10 (.t 75),(some (72,false)),false⟩,⟨some 77,.ld false 1 (.t 76),(some (72,false)),false⟩,⟨some 78,.bin .sub (.t 73) (.t 77),(some (72,false)),false⟩,⟨some 79,.mv (.t 2),(some (72,false)),false⟩,⟨some 80,.bin .geq (.t 78) (.t 79),(some (72,false)),false⟩,⟨some 81,.pick (.t 72) (.c (.b true)) (.t 80),(some (66,true)),false⟩,⟨some 82,.pick (.t 66) (.t 81) (.c (.b false)),none,true⟩]
abbrev i37r17:List IOper:=[⟨some 83,.mv (.t 15),none,false⟩,⟨some 84,.mv (.t 1),none,false⟩,⟨some 85,.nck (.t 83),none,false⟩,⟨some 86,.fa 10 (.t 85),none,false⟩,⟨none,.st 1 (.t 86) (.t 84),none,false⟩]
abbrev i37r18:List IOper:=[⟨some 87,.mv (.t 9),none,false⟩,⟨some 88,.mv (.t 11),none,false⟩,⟨some 89,.mv (.t 15),none,false⟩,⟨some 90,.nck (.t 89),none,false⟩,⟨some 91,.fa 0 (.t 90),none,false⟩,⟨some 92,.ld true 9 (.t 91),none,false⟩,⟨some 93,.call (.c (.fn 76 [])) [.t 88,.t 92],none,false⟩,⟨some 94,.bsl [.b false,.i .i64 0,.i .i64 0,.i .i64 0,.i .i64 0,.ns,.ns,.i .i64 0,.s []] 1 [(0,9,.t 93)],none,false⟩,⟨some 95,.app 9 112 [.b false,.i .i64 0,.i .i64 0,.i .i64 0,.i .i64 0,.ns,.ns,.i .i64 0,.s []] (.t 87) (.t 94),none,false⟩,⟨some 9,.mv (.t 95),none,false⟩]
abbrev i37r19:List IOper:=[⟨some 96,.bin .add (.t 39) (.c (.i .i64 1)),none,false⟩,⟨some 39,.mv (.t 96),none,false⟩]
abbrev i37l20:ICode:=(.seq (.reg i37r11) (.seq (.cond (.t 40) .skip (.exit 0)) (.seq (.block 1 (.seq (.reg i37r12) (.seq (.reg i37r13) (.seq (.seq (.reg i37r14) (.cond (.t 51) (.exit 1) .skip)) (.seq (.reg i37r15) (.seq (.reg i37r16) (.cond (.t 82) (.seq (.reg i37r17) (.reg i37r18)) .skip))))))) (.reg i37r19))))
abbrev i37r21:List IOper:=[⟨some 97,.mv (.t 11),none,false⟩,⟨some 98,.nck (.t 97),none,false⟩,⟨some 99,.fa 0 (.t 98),none,false⟩,⟨some 100,.ld true 5 (.t 99),none,false⟩,⟨some 101,.mv (.t 9),none,false⟩,⟨none,.st 5 (.t 8) (.t 100),none,false⟩,⟨some 9,.mv (.t 101),none,false⟩,⟨some 10,.mv (.c (.i .i64 0)),none,false⟩]
abbrev i37c:ICode:=(.seq (.reg i37r0) (.seq (.reg i37r1) (.seq (.seq (.reg i37r2) (.cond (.t 23) (.seq (.reg i37r3) .ret) .skip)) (.seq (.seq (.reg i37r4) (.cond (.t 28) (.seq (.reg i37r5) .ret) .skip)) (.seq (.seq (.reg i37r6) (.cond (.t 32) (.seq (.reg i37r7) .ret) .skip)) (.seq (.seq (.reg i37r8) (.cond (.t 35) (.seq (.reg i37r9) .ret) .skip)) (.seq (.seq (.reg i37r10) (.block 0 (.loop i37l20))) (.seq (.reg i37r21) .ret))))))))
def i37:IFn:={np:=4,N:=102,ct:=[23,28,32,35,40,51,82],code:=i37c,res:=[.c 8 true 5,.t 9,.t 10]}
theorem i37_eq:compF Try.prog Try.f37=some i37:=by kernel_rfl
abbrev i38r0:List IOper:=[⟨some 3,.box (.t 0),none,false⟩,⟨some 6,.new [.b false,.i .i64 0,.i .i64 0,.i .i64 0,.i .i64 0,.ns,.ns,.i .i64 0,.s []],none,false⟩,⟨some 7,.mv (.c (.i .i64 0)),none,false⟩]
abbrev i38r1:List IOper:=[⟨some 8,.ld true 9 (.t 3),none,false⟩,⟨some 9,.call (.c (.fn 68 [])) [.t 8],none,false⟩,⟨some 10,.bin .neq (.t 9) (.c (.i .i64 0)),none,true⟩]
abbrev i38r2:List IOper:=[⟨some 11,.build [.b false,.i .i64 0,.i .i64 0,.i .i64 0,.i .i64 0,.ns,.ns,.i .i64 0,.s []] [],none,false⟩,⟨none,.st 9 (.t 6) (.t 11),none,false⟩,⟨some 7,.mv (.c (.i .i64 230)),none,false⟩]
abbrev i38r3:List IOper:=[⟨some 12,.mv (.t 1),none,false⟩,⟨some 13,.mv (.t 2),none,false⟩,⟨some 14,.call (.c (.fn 66 [])) [.t 12,.t 13,.c (.i .i64 0)],none,false⟩,⟨some 15,.not (.t 14),none,true⟩]
abbrev i38r4:List IOper:=[⟨some 16,.build [.b false,.i .i64 0,.i .i64 0,.i .i64 0,.i .i64 0,.ns,.ns,.i .i64 0,.s []] [],none,false⟩,⟨none,.st 9 (.t 6) (.t 16),none,false⟩,⟨some 7,.mv (.c (.i .i64 2)),none,false⟩]
abbrev i38r5:List IOper:=[⟨some 17,.fa 8 (.t 3),none,false⟩,⟨some 18,.ld false 1 (.t 17),none,false⟩,⟨some 19,.lenS (.t 18),none,false⟩,⟨some 20,.bin .lss (.t 19) (.c (.i .i64 2)),none,true⟩]
abbrev i38r6:List IOper:=[⟨some 21,.build [.b false,.i .i64 0,.i .i64 0,.i .i64 0,.i .i64 0,.ns,.ns,.i .i64 0,.s []] [],none,false⟩,⟨none,.st 9 (.t 6) (.t 21),none,false⟩,⟨some 7,.mv (.c (.i .i64 7)),none,false⟩]
abbrev i38r7:List (IOper×List Nat):=[(⟨some 22,.fa 8 (.t 3),none,false⟩,[]),(⟨some 23,.ld false 1 (.t 22),none,false⟩,[]),(⟨some 24,.ixS (.t 23) (.c (.i .i64 0)),none,false⟩,[]),(⟨some 25,.i2i .i64 (.t 24),none,false⟩,[]),(⟨some 26,.bin .shl (.t 25) (.c (.i .u64 8)),none,false⟩,[]),(⟨some 27,.fa 8 (.t 3),none,false⟩,[0,1,2,3,4]),(⟨some 28,.ld false 1 (.t 27),none,false⟩,[0,1,2,3,4]),(⟨some 29,.ixS (.t 28) (.c (.i .i64 1)),none,false⟩,[0,1,2,3,4]),(⟨some 30,.i2i .i64 (.t 29),none,false⟩,[0,1,2,3,4]),(⟨some 31,.bin .or (.t 26) (.t 30),none,false⟩,[]),(⟨some 32,.fa 8 (.t 3),none,false⟩,[0,1,2,3,4,5,6,7,8,9]),(⟨some 33,.ld false 1 (.t 32),none,false⟩,[0,1,2,3,4,5,6,7,8,9]),(⟨some 34,.slS (.t 33) (some (.c (.i .i64 2))) none,none,false⟩,[0,1,2,3,4,5,6,7,8,9]),(⟨some 35,.fa 2 (.t 3),none,false⟩,[12]),(⟨none,.st 1 (.t 35) (.t 31),none,false⟩,[12]),(⟨some 36,.fa 8 (.t 3),none,false⟩,[]),(⟨none,.st 1 (.t 36) (.t 34),none,false⟩,[])]
abbrev i38r8:List IOper:=[⟨some 37,.mv (.t 1),none,false⟩,⟨some 38,.mv (.t 2),none,false⟩,⟨some 39,.fa 4 (.t 3),none,false⟩,⟨none,.st 1 (.t 39) (.t 37),none,false⟩,⟨some 40,.fa 1 (.t 3),none,false⟩,⟨none,.st 1 (.t 40) (.t 38),none,false⟩]
abbrev i38r9:List (IOper×List Nat):=[(⟨some 41,.fa 5 (.t 3),none,false⟩,[]),(⟨some 42,.ld false 1 (.t 41),none,false⟩,[]),(⟨some 43,.call (.c (.fn 77 [])) [.t 42],none,false⟩,[]),(⟨some 44,.fa 6 (.t 3),none,false⟩,[0,1,2]),(⟨some 45,.ld false 1 (.t 44),none,false⟩,[0,1,2]),(⟨some 46,.call (.c (.fn 78 [])) [.t 45],none,false⟩,[]),(⟨some 47,.fa 5 (.t 3),none,false⟩,[5]),(⟨none,.st 1 (.t 47) (.t 43),none,false⟩,[]),(⟨some 48,.fa 6 (.t 3),none,false⟩,[]),(⟨none,.st 1 (.t 48) (.t 46),none,false⟩,[])]
abbrev i38r10:List IOper:=[⟨some 49,.ld true 9 (.t 3),none,false⟩,⟨none,.st 9 (.t 6) (.t 49),none,false⟩,⟨some 7,.mv (.c (.i .i64 0)),none,false⟩]
abbrev i38c:ICode:=(.seq (.reg i38r0) (.seq (.seq (.reg i38r1) (.cond (.t 10) (.seq (.reg i38r2) .ret) .skip)) (.seq (.seq (.reg i38r3) (.cond (.t 15) (.seq (.reg i38r4) .ret) .skip)) (.seq (.seq (.reg i38r5) (.cond (.t 20) (.seq (.reg i38r6) .ret) .skip)) (.seq (.dreg i38r7) (.seq (.reg i38r8) (.seq (.dreg i38r9) (.seq (.reg i38r10) .ret))))))))
def i38:IFn:={np:=3,N:=50,ct:=[10,15,20],code:=i38c,res:=[.c 6 true 9,.t 7]}
theorem i38_eq:compF Try.prog Try.f38=some i38:=by kernel_rfl
abbrev i40r0:List IOper:=[⟨some 4,.mv (.c (.b false)),none,false⟩]
abbrev i40r1:List IOper:=[⟨some 5,.mv (.t 0),none,false⟩,⟨some 6,.mv (.t 1),none,false⟩,⟨some 7,.call (.c (.fn 74 [])) [.t 5,.t 6],none,false⟩,⟨some 8,.bin .geq (.t 7) (.c (.i .i64 0)),none,false⟩,⟨some 4,.mv (.t 8),none,false⟩]
abbrev i40c:ICode:=(.seq (.reg i40r0) (.seq (.reg i40r1) .ret))
def i40:IFn:={np:=2,N:=9,ct:=[],code:=i40c,res:=[.t 4]}
theorem i40_eq:compF Try.prog Try.f40=some i40:=by kernel_rfl
abbrev i66r0:List IOper:=[⟨some 6,.mv (.c (.b false)),none,false⟩]
abbrev i66r1:List IOper:=[⟨some 7,.mv (.t 0),none,false⟩,⟨some 8,.call (.c (.fn 49 [])) [.c (.i .i64 0),.c (.i .i64 4294967295),.t 7],none,false⟩,⟨some 9,.mv (.t 8),none,true⟩,⟨some 10,.mv (.t 1),(some (9,true)),false⟩,⟨some 11,.call (.c (.fn 49 [])) [.c (.i .i64 0),.c (.i .i64 127),.t 10],(some (9,true)),false⟩,⟨some 12,.pick (.t 9) (.t 11) (.c (.b false)),none,false⟩,⟨some 13,.mv (.t 12),none,true⟩,⟨some 14,.mv (.t 2),(some (13,true)),false⟩,⟨some 15,.call (.c (.fn 49 [])) [.c (.i .i64 0),.c (.i .i64 65535),.t 14],(some (13,true)),false⟩,⟨some 16,.pick (.t 13) (.t 15) (.c (.b false)),none,false⟩,⟨some 6,.mv (.t 16),none,false⟩]
abbrev i66c:ICode:=(.seq (.reg i66r0) (.seq (.reg i66r1) .ret))
def i66:IFn:={np:=3,N:=17,ct:=[],code:=i66c,res:=[.t 6]}
theorem i66_eq:compF Try.prog Try.f66=some i66:=by kernel_rfl
abbrev i67r0:List IOper:=[⟨some 2,.box (.t 0),none,false⟩,⟨some 4,.mv (.c (.np)),none,false⟩,⟨some 5,.mv (.c (.i .i64 0)),none,false⟩]
abbrev i67r1:List IOper:=[⟨some 8,.ld true 5 (.t 2),none,false⟩,⟨some 9,.call (.c (.fn 35 [])) [.t 8],none,false⟩,⟨some 6,.mv (.t 9),none,false⟩]
abbrev i67r2:List IOper:=[⟨some 10,.mv (.t 6),none,false⟩,⟨some 11,.bin .neq (.t 10) (.c (.i .i64 0)),none,true⟩]
abbrev i67r3:List IOper:=[⟨some 12,.mv (.t 6),none,false⟩,⟨some 4,.mv (.c (.np)),none,false⟩,⟨some 5,.mv (.t 12),none,false⟩]
abbrev i67r4:List IOper:=[⟨some 13,.fa 0 (.t 2),none,false⟩,⟨some 14,.ld false 1 (.t 13),none,false⟩,⟨some 15,.mv (.t 1),none,false⟩,⟨some 16,.call (.c (.fn 49 [])) [.t 14,.c (.i .i64 1099511627776),.t 15],none,false⟩,⟨some 17,.not (.t 16),none,true⟩]
abbrev i67r5:List IOper:=[⟨some 4,.mv (.c (.np)),none,false⟩,⟨some 5,.mv (.c (.i .i64 2)),none,false⟩]
abbrev i67r6:List IOper:=[⟨some 18,.ld true 5 (.t 2),none,false⟩,⟨some 19,.build [.i .i64 0,.i .i64 0,.i .i64 0,.i .i64 0,.ns] [(0,5,.t 18)],none,false⟩,⟨some 20,.box (.t 19),none,false⟩,⟨some 7,.mv (.t 20),none,false⟩]
abbrev i67r7:List IOper:=[⟨some 21,.mv (.t 7),none,false⟩,⟨some 22,.mv (.t 1),none,false⟩,⟨some 23,.nck (.t 21),none,false⟩,⟨some 24,.fa 0 (.t 23),none,false⟩,⟨some 25,.fa 0 (.t 24),none,false⟩,⟨none,.st 1 (.t 25) (.t 22),none,false⟩]
abbrev i67r8:List IOper:=[⟨some 26,.mv (.t 7),none,false⟩,⟨some 27,.fa 4 (.t 2),none,false⟩,⟨some 28,.ld false 1 (.t 27),none,false⟩,⟨some 29,.call (.c (.fn 92 [])) [.t 28],none,false⟩,⟨some 30,.nck (.t 26),none,false⟩,⟨some 31,.fa 0 (.t 30),none,false⟩,⟨some 32,.fa 4 (.t 31),none,false⟩,⟨none,.st 1 (.t 32) (.t 29),none,false⟩]
abbrev i67r9:List IOper:=[⟨some 33,.mv (.t 7),none,false⟩,⟨some 4,.mv (.t 33),none,false⟩,⟨some 5,.mv (.c (.i .i64 0)),none,false⟩]
abbrev i67c:ICode:=(.seq (.reg i67r0) (.seq (.seq (.reg i67r1) (.seq (.reg i67r2) (.cond (.t 11) (.seq (.reg i67r3) .ret) .skip))) (.seq (.seq (.reg i67r4) (.cond (.t 17) (.seq (.reg i67r5) .ret) .skip)) (.seq (.reg i67r6) (.seq (.reg i67r7) (.seq (.reg i67r8) (.seq (.reg i67r9) .ret)))))))
def i67:IFn:={np:=2,N:=34,ct:=[11,17],code:=i67c,res:=[.t 4,.t 5]}
theorem i67_eq:compF Try.prog Try.f67=some i67:=by kernel_rfl
abbrev i68r0:List IOper:=[⟨some 1,.box (.t 0),none,false⟩,⟨some 2,.mv (.c (.i .i64 0)),none,false⟩]
abbrev i68r1:List IOper:=[⟨some 6,.fa 1 (.t 1),none,false⟩,⟨some 7,.ld false 1 (.t 6),none,false⟩,⟨some 8,.bsl [.i .i64 0] 1 [(0,1,.t 7)],none,false⟩,⟨some 9,.call (.c (.fn 93 [])) [.c (.i .i64 7),.t 8],none,false⟩,⟨some 10,.mv (.t 9),none,true⟩,⟨some 11,.fa 2 (.t 1),(some (10,true)),false⟩,⟨some 12,.ld false 1 (.t 11),(some (10,true)),false⟩,⟨some 13,.bsl [.i .i64 0] 1 [(0,1,.t 12)],(some (10,true)),false⟩,⟨some 14,.call (.c (.fn 93 [])) [.c (.i .i64 16),.t 13],(some (10,true)),false⟩,⟨some 15,.pick (.t 10) (.t 14) (.c (.b false)),none,false⟩,⟨some 16,.mv (.t 15),none,true⟩,⟨some 17,.fa 3 (.t 1),(some (16,true)),false⟩,⟨some 18,.ld false 1 (.t 17),(some (16,true)),false⟩,⟨some 19,.fa 4 (.t 1),(some (16,true)),false⟩,⟨some 20,.ld false 1 (.t 19),(some (16,true)),false⟩,⟨some 21,.bsl [.i .i64 0,.i .i64 0] 2 [(0,1,.t 18),(1,1,.t 20)],(some (16,true)),false⟩,⟨some 22,.call (.c (.fn 93 [])) [.c (.i .i64 32),.t 21],(some (16,true)),false⟩,⟨some 23,.pick (.t 16) (.t 22) (.c (.b false)),none,false⟩,⟨some 24,.mv (.t 23),none,true⟩,⟨some 25,.fa 5 (.t 1),(some (24,true)),false⟩,⟨some 26,.ld false 1 (.t 25),(some (24,true)),false⟩,⟨some 27,.call (.c (.fn 93 [])) [.c (.i .i64 32),.t 26],(some (24,true)),false⟩,⟨some 28,.pick (.t 24) (.t 27) (.c (.b false)),none,false⟩,⟨some 29,.mv (.t 28),none,true⟩,⟨some 30,.fa 7 (.t 1),(some (29,true)),false⟩,⟨some 31,.ld false 1 (.t 30),(some (29,true)),false⟩,⟨some 32,.bsl [.i .i64 0] 1 [(0,1,.t 31)],(some (29,true)),false⟩,⟨some 33,.call (.c (.fn 93 [])) [.c (.i .i64 8),.t 32],(some (29,true)),false⟩,⟨some 34,.pick (.t 29) (.t 33) (.c (.b false)),none,false⟩,⟨some 35,.mv (.t 34),none,true⟩,⟨some 36,.fa 5 (.t 1),(some (35,true)),false⟩,⟨some 37,.ld false 1 (.t 36),(some (35,true)),false⟩,⟨some 38,.lenV (.t 37),(some (35,true)),false⟩,⟨some 39,.bin .leq (.t 38) (.c (.i .i64 15)),(some (35,true)),false⟩,⟨some 40,.pick (.t 35) (.t 39) (.c (.b false)),none,false⟩,⟨some 41,.mv (.t 40),none,true⟩,⟨some 42,.fa 6 (.t 1),(some (41,true)),false⟩,⟨some 43,.ld false 1 (.t 42),(some (41,true)),false⟩,⟨some 44,.lenV (.t 43),(some (41,true)),false⟩,⟨some 45,.bin .leq (.t 44) (.c (.i .i64 16)),(some (41,true)),false⟩,⟨some 46,.pick (.t 41) (.t 45) (.c (.b false)),none,false⟩,⟨some 3,.mv (.t 46),none,false⟩]
abbrev i68r2:List IOper:=[⟨some 47,.fa 6 (.t 1),none,false⟩,⟨some 48,.ld false 1 (.t 47),none,false⟩,⟨some 49,.lenV (.t 48),none,false⟩,⟨some 50,.mv (.c (.i .i64 0)),none,false⟩]
abbrev i68r3:List IOper:=[⟨some 51,.bin .lss (.t 50) (.t 49),none,true⟩]
abbrev i68r4:List IOper:=[⟨some 52,.mv (.t 50),none,false⟩,⟨some 53,.ixaV 2 (.t 48) (.t 50),none,false⟩,⟨some 54,.ld true 2 (.t 53),none,false⟩,⟨some 5,.new [.i .i64 0,.s []],none,false⟩,⟨some 4,.mv (.t 52),none,false⟩,⟨none,.st 2 (.t 5) (.t 54),none,false⟩]
abbrev i68r5:List (IOper×List Nat):=[(⟨some 55,.mv (.t 3),none,false⟩,[]),(⟨some 56,.mv (.t 55),none,true⟩,[]),(⟨some 57,.fa 0 (.t 5),(some (56,true)),false⟩,[]),(⟨some 58,.ld false 1 (.t 57),(some (56,true)),false⟩,[]),(⟨some 59,.fa 1 (.t 5),(some (56,true)),false⟩,[2,3]),(⟨some 60,.ld false 1 (.t 59),(some (56,true)),false⟩,[2,3]),(⟨some 61,.lenS (.t 60),(some (56,true)),false⟩,[2,3]),(⟨some 62,.bsl [.i .i64 0,.i .i64 0] 2 [(0,1,.t 58),(1,1,.t 61)],(some (56,true)),false⟩,[]),(⟨some 63,.call (.c (.fn 93 [])) [.c (.i .i64 8),.t 62],(some (56,true)),false⟩,[]),(⟨some 64,.pick (.t 56) (.t 63) (.c (.b false)),none,false⟩,[]),(⟨some 65,.mv (.t 64),none,true⟩,[]),(⟨some 66,.fa 0 (.t 5),(some (65,true)),false⟩,[]),(⟨some 67,.ld false 1 (.t 66),(some (65,true)),false⟩,[]),(⟨some 68,.bin .gtr (.t 67) (.c (.i .i64 0)),(some (65,true)),false⟩,[]),(⟨some 69,.pick (.t 65) (.t 68) (.c (.b false)),none,false⟩,[]),(⟨some 70,.mv (.t 69),none,true⟩,[]),(⟨some 71,.mv (.t 4),(some (70,true)),false⟩,[]),(⟨some 72,.bin .eql (.t 71) (.c (.i .i64 0)),(some (70,true)),false⟩,[]),(⟨some 73,.mv (.t 72),(some (70,true)),true⟩,[]),(⟨some 74,.fa 0 (.t 5),(some (73,false)),false⟩,[]),(⟨some 75,.ld false 1 (.t 74),(some (73,false)),false⟩,[]),(⟨some 76,.fa 6 (.t 1),(some (73,false)),false⟩,[19,20]),(⟨some 77,.ld false 1 (.t 76),(some (73,false)),false⟩,[19,20]),(⟨some 78,.mv (.t 4),(some (73,false)),false⟩,[19,20,21,22]),(⟨some 79,.bin .sub (.t 78) (.c (.i .i64 1)),(some (73,false)),false⟩,[19,20,21,22]),(⟨some 80,.ixaV 2 (.t 77) (.t 79),(some (73,false)),false⟩,[19,20]),(⟨some 81,.fa 0 (.t 80),(some (73,false)),false⟩,[19,20]),(⟨some 82,.ld false 1 (.t 81),(some (73,false)),false⟩,[19,20]),(⟨some 83,.bin .gtr (.t 75) (.t 82),(some (73,false)),false⟩,[]),(⟨some 84,.pick (.t 73) (.c (.b true)) (.t 83),(some (70,true)),false⟩,[]),(⟨some 85,.pick (.t 70) (.t 84) (.c (.b false)),none,false⟩,[]),(⟨some 3,.mv (.t 85),none,false⟩,[])]
abbrev i68r6:List IOper:=[⟨some 86,.bin .add (.t 50) (.c (.i .i64 1)),none,false⟩,⟨some 50,.mv (.t 86),none,false⟩]
abbrev i68l7:ICode:=(.seq (.reg i68r3) (.seq (.cond (.t 51) .skip (.exit 0)) (.seq (.block 1 (.seq (.reg i68r4) (.dreg i68r5))) (.reg i68r6))))
abbrev i68r8:List IOper:=[⟨some 87,.mv (.t 3),none,false⟩,⟨some 88,.not (.t 87),none,true⟩]
abbrev i68r9:List IOper:=[⟨some 2,.mv (.c (.i .i64 230)),none,false⟩]
abbrev i68r10:List IOper:=[⟨some 2,.mv (.c (.i .i64 0)),none,false⟩]
abbrev i68c:ICode:=(.seq (.reg i68r0) (.seq (.reg i68r1) (.seq (.seq (.reg i68r2) (.block 0 (.loop i68l7))) (.seq (.seq (.reg i68r8) (.cond (.t 88) (.seq (.reg i68r9) .ret) .skip)) (.seq (.reg i68r10) .ret)))))
def i68:IFn:={np:=1,N:=89,ct:=[51,88],code:=i68c,res:=[.t 2]}
theorem i68_eq:compF Try.prog Try.f68=some i68:=by kernel_rfl
abbrev i69r0:List IOper:=[⟨some 4,.mv (.c (.ns)),none,false⟩]
abbrev i69r1:List IOper:=[⟨some 8,.mv (.t 0),none,false⟩,⟨some 9,.mv (.t 1),none,false⟩,⟨some 10,.call (.c (.fn 74 [])) [.t 8,.t 9],none,false⟩,⟨some 5,.mv (.t 10),none,false⟩]
abbrev i69r2:List IOper:=[⟨some 11,.mv (.t 5),none,false⟩,⟨some 12,.bin .eql (.t 11) (.c (.i .i64 (-1))),none,true⟩]
abbrev i69r3:List IOper:=[⟨some 13,.mv (.t 0),none,false⟩,⟨some 4,.mv (.t 13),none,false⟩]
abbrev i69r4:List IOper:=[⟨some 14,.mv (.t 5),none,false⟩,⟨some 15,.bin .add (.t 14) (.c (.i .i64 1)),none,false⟩,⟨some 6,.mv (.t 15),none,false⟩]
abbrev i69r5:List IOper:=[⟨some 16,.mv (.t 6),none,false⟩,⟨some 17,.mv (.t 0),none,false⟩,⟨some 18,.lenV (.t 17),none,false⟩,⟨some 19,.bin .lss (.t 16) (.t 18),none,true⟩]
abbrev i69r6:List IOper:=[⟨some 22,.mv (.t 0),none,false⟩,⟨some 23,.mv (.t 6),none,false⟩,⟨some 24,.ixaV 11 (.t 22) (.t 23),none,false⟩,⟨some 25,.ld true 11 (.t 24),none,false⟩,⟨some 7,.new [.b false,.i .i64 0,.i .i64 0,.i .i64 0,.i .i64 0,.ns,.ns,.i .i64 0,.s [],.i .i64 0,.i .i64 0],none,false⟩,⟨none,.st 11 (.t 7) (.t 25),none,false⟩]
abbrev i69r7:List IOper:=[⟨some 26,.mv (.t 1),none,false⟩,⟨some 27,.ld true 11 (.t 7),none,false⟩,⟨some 28,.call (.t 26) [.t 27],none,false⟩,⟨some 29,.not (.t 28),none,true⟩]
abbrev i69r8:List IOper:=[⟨some 30,.mv (.t 0),none,false⟩,⟨some 31,.mv (.t 5),none,false⟩,⟨some 32,.ld true 11 (.t 7),none,false⟩,⟨some 33,.ixaV 11 (.t 30) (.t 31),none,false⟩,⟨none,.st 11 (.t 33) (.t 32),none,false⟩]
abbrev i69r9:List IOper:=[⟨some 34,.mv (.t 5),none,false⟩,⟨some 35,.bin .add (.t 34) (.c (.i .i64 1)),none,false⟩,⟨some 5,.mv (.t 35),none,false⟩]
abbrev i69r10:List IOper:=[⟨some 20,.mv (.t 6),none,false⟩,⟨some 21,.bin .add (.t 20) (.c (.i .i64 1)),none,false⟩,⟨some 6,.mv (.t 21),none,false⟩]
abbrev i69l11:ICode:=(.seq (.seq (.reg i69r5) (.cond (.t 19) .skip (.exit 0))) (.seq (.block 1 (.seq (.reg i69r6) (.seq (.reg i69r7) (.cond (.t 29) (.seq (.reg i69r8) (.reg i69r9)) .skip)))) (.reg i69r10)))
abbrev i69r12:List IOper:=[⟨some 36,.mv (.t 0),none,false⟩,⟨some 37,.mv (.t 5),none,false⟩,⟨some 38,.slV 11 (.t 36) (some (.t 37)) none none,none,false⟩,⟨none,.clr 11 [.b false,.i .i64 0,.i .i64 0,.i .i64 0,.i .i64 0,.ns,.ns,.i .i64 0,.s [],.i .i64 0,.i .i64 0] (.t 38),none,false⟩]
abbrev i69r13:List IOper:=[⟨some 39,.mv (.t 0),none,false⟩,⟨some 40,.mv (.t 5),none,false⟩,⟨some 41,.slV 11 (.t 39) none (some (.t 40)) none,none,false⟩,⟨some 4,.mv (.t 41),none,false⟩]
abbrev i69c:ICode:=(.seq (.reg i69r0) (.seq (.reg i69r1) (.seq (.seq (.reg i69r2) (.cond (.t 12) (.seq (.reg i69r3) .ret) .skip)) (.seq (.seq (.reg i69r4) (.block 0 (.loop i69l11))) (.seq (.reg i69r12) (.seq (.reg i69r13) .ret))))))
def i69:IFn:={np:=2,N:=42,ct:=[12,19,29],code:=i69c,res:=[.t 4]}
theorem i69_eq:compF Try.prog Try.f69=some i69:=by kernel_rfl
abbrev i70r0:List IOper:=[⟨some 4,.box (.t 0),none,false⟩,⟨some 5,.mv (.c (.b false)),none,false⟩]
abbrev i70r1:List (IOper×List Nat):=[(⟨some 6,.ld false 1 (.t 1),none,false⟩,[]),(⟨some 7,.fa 9 (.t 4),none,false⟩,[0]),(⟨some 8,.ld false 1 (.t 7),none,false⟩,[0]),(⟨some 9,.bin .sub (.t 6) (.t 8),none,false⟩,[]),(⟨some 10,.bin .gtr (.t 9) (.c (.i .i64 2000)),none,false⟩,[]),(⟨some 11,.mv (.t 10),none,true⟩,[]),(⟨some 12,.fa 0 (.t 4),(some (11,false)),false⟩,[]),(⟨some 13,.fa 2 (.t 12),(some (11,false)),false⟩,[]),(⟨some 14,.ld false 1 (.t 13),(some (11,false)),false⟩,[]),(⟨some 15,.ld false 1 (.t 2),(some (11,false)),false⟩,[6,7,8]),(⟨some 16,.call (.c (.fn 51 [])) [.t 14,.t 15],(some (11,false)),false⟩,[]),(⟨some 17,.ld false 1 (.t 3),(some (11,false)),false⟩,[6,7,8,9,10]),(⟨some 18,.bin .sub (.t 16) (.t 17),(some (11,false)),false⟩,[]),(⟨some 19,.bin .lss (.t 18) (.c (.i .i64 (-16384))),(some (11,false)),false⟩,[]),(⟨some 20,.pick (.t 11) (.c (.b true)) (.t 19),none,false⟩,[]),(⟨some 5,.mv (.t 20),none,false⟩,[])]
abbrev i70c:ICode:=(.seq (.reg i70r0) (.seq (.dreg i70r1) .ret))
def i70:IFn:={np:=4,N:=21,ct:=[],code:=i70c,res:=[.t 5]}
theorem i70_eq:compF Try.prog Try.f70=some i70:=by kernel_rfl
abbrev i71r0:List IOper:=[⟨some 1,.box (.t 0),none,false⟩,⟨some 2,.mv (.c (.b false)),none,false⟩]
abbrev i71r1:List IOper:=[⟨some 3,.fa 0 (.t 1),none,false⟩,⟨some 4,.ld true 9 (.t 3),none,false⟩,⟨some 5,.call (.c (.fn 68 [])) [.t 4],none,false⟩,⟨some 6,.bin .neq (.t 5) (.c (.i .i64 0)),none,false⟩,⟨some 2,.mv (.t 6),none,false⟩]
abbrev i71c:ICode:=(.seq (.reg i71r0) (.seq (.reg i71r1) .ret))
def i71:IFn:={np:=1,N:=7,ct:=[],code:=i71c,res:=[.t 2]}
theorem i71_eq:compF Try.prog Try.f71=some i71:=by kernel_rfl
abbrev i72r0:List IOper:=[⟨some 4,.mv (.c (.b false)),none,false⟩]
abbrev i72r1:List IOper:=[⟨some 5,.mv (.t 0),none,false⟩,⟨some 6,.mv (.t 1),none,false⟩,⟨some 7,.call (.c (.fn 94 [])) [.t 5,.t 6],none,false⟩,⟨some 8,.bin .geq (.t 7) (.c (.i .i64 0)),none,false⟩,⟨some 4,.mv (.t 8),none,false⟩]
abbrev i72c:ICode:=(.seq (.reg i72r0) (.seq (.reg i72r1) .ret))
def i72:IFn:={np:=2,N:=9,ct:=[],code:=i72c,res:=[.t 4]}
theorem i72_eq:compF Try.prog Try.f72=some i72:=by kernel_rfl
abbrev i73r0:List IOper:=[⟨some 2,.mv (.c (.b false)),none,false⟩]
abbrev i73r1:List IOper:=[⟨some 3,.mv (.t 0),none,false⟩,⟨some 4,.call (.c (.fn 49 [])) [.c (.i .i64 0),.c (.i .i64 65535),.t 3],none,false⟩,⟨some 5,.not (.t 4),none,false⟩,⟨some 2,.mv (.t 5),none,false⟩]
abbrev i73c:ICode:=(.seq (.reg i73r0) (.seq (.reg i73r1) .ret))
def i73:IFn:={np:=1,N:=6,ct:=[],code:=i73c,res:=[.t 2]}
theorem i73_eq:compF Try.prog Try.f73=some i73:=by kernel_rfl
abbrev i74r0:List IOper:=[⟨some 4,.mv (.c (.i .i64 0)),none,false⟩]
abbrev i74r1:List IOper:=[⟨some 6,.mv (.t 0),none,false⟩,⟨some 7,.lenV (.t 6),none,false⟩,⟨some 8,.mv (.c (.i .i64 0)),none,false⟩]
abbrev i74r2:List IOper:=[⟨some 9,.bin .lss (.t 8) (.t 7),none,true⟩]
abbrev i74r3:List IOper:=[⟨some 10,.mv (.t 8),none,false⟩,⟨some 5,.mv (.t 10),none,false⟩]
abbrev i74r4:List IOper:=[⟨some 11,.mv (.t 1),none,false⟩,⟨some 12,.mv (.t 0),none,false⟩,⟨some 13,.mv (.t 5),none,false⟩,⟨some 14,.ixaV 11 (.t 12) (.t 13),none,false⟩,⟨some 15,.ld true 11 (.t 14),none,false⟩,⟨some 16,.call (.t 11) [.t 15],none,true⟩]
abbrev i74r5:List IOper:=[⟨some 17,.mv (.t 5),none,false⟩,⟨some 4,.mv (.t 17),none,false⟩]
abbrev i74r6:List IOper:=[⟨some 18,.bin .add (.t 8) (.c (.i .i64 1)),none,false⟩,⟨some 8,.mv (.t 18),none,false⟩]
abbrev i74l7:ICode:=(.seq (.reg i74r2) (.seq (.cond (.t 9) .skip (.exit 0)) (.seq (.block 1 (.seq (.reg i74r3) (.seq (.reg i74r4) (.cond (.t 16) (.seq (.reg i74r5) .ret) .skip)))) (.reg i74r6))))
abbrev i74r8:List IOper:=[⟨some 4,.mv (.c (.i .i64 (-1))),none,false⟩]
abbrev i74c:ICode:=(.seq (.reg i74r0) (.seq (.seq (.reg i74r1) (.block 0 (.loop i74l7))) (.seq (.reg i74r8) .ret)))
def i74:IFn:={np:=2,N:=19,ct:=[9,16],code:=i74c,res:=[.t 4]}
theorem i74_eq:compF Try.prog Try.f74=some i74:=by kernel_rfl
abbrev i75r0:List IOper:=[⟨some 2,.box (.t 0),none,false⟩,⟨some 3,.mv (.c (.b false)),none,false⟩]
abbrev i75r1:List IOper:=[⟨some 4,.fa 0 (.t 2),none,false⟩,⟨some 5,.fa 2 (.t 4),none,false⟩,⟨some 6,.ld false 1 (.t 5),none,false⟩,⟨some 7,.ld false 1 (.t 1),none,false⟩,⟨some 8,.bin .eql (.t 6) (.t 7),none,false⟩,⟨some 3,.mv (.t 8),none,false⟩]
abbrev i75c:ICode:=(.seq (.reg i75r0) (.seq (.reg i75r1) .ret))
def i75:IFn:={np:=2,N:=9,ct:=[],code:=i75c,res:=[.t 3]}
theorem i75_eq:compF Try.prog Try.f75=some i75:=by kernel_rfl
abbrev i76r0:List IOper:=[⟨some 3,.box (.t 1),none,false⟩,⟨some 4,.new [.b false,.i .i64 0,.i .i64 0,.i .i64 0,.i .i64 0,.ns,.ns,.i .i64 0,.s []],none,false⟩]
abbrev i76r1:List IOper:=[⟨some 5,.fa 2 (.t 3),none,false⟩,⟨some 6,.ld false 1 (.t 5),none,false⟩,⟨some 7,.bin .shr (.t 6) (.c (.i .u64 8)),none,false⟩,⟨some 8,.i2i .u8 (.t 7),none,false⟩,⟨some 9,.fa 2 (.t 3),none,false⟩,⟨some 10,.ld false 1 (.t 9),none,false⟩,⟨some 11,.i2i .u8 (.t 10),none,false⟩,⟨some 12,.bsl [.i .u8 0,.i .u8 0] 2 [(0,1,.t 8),(1,1,.t 11)],none,false⟩,⟨some 13,.b2s (.t 12),none,false⟩,⟨some 14,.fa 8 (.t 3),none,false⟩,⟨some 15,.ld false 1 (.t 14),none,false⟩,⟨some 16,.bin .add (.t 13) (.t 15),none,false⟩,⟨some 17,.fa 8 (.t 3),none,false⟩,⟨none,.st 1 (.t 17) (.t 16),none,false⟩]
abbrev i76r2:List (IOper×List Nat):=[(⟨some 18,.mv (.t 0),none,false⟩,[]),(⟨some 19,.nck (.t 18),none,false⟩,[]),(⟨some 20,.fa 0 (.t 19),none,false⟩,[]),(⟨some 21,.fa 3 (.t 20),none,false⟩,[]),(⟨some 22,.ld false 1 (.t 21),none,false⟩,[]),(⟨some 23,.mv (.t 0),none,false⟩,[0,1,2,3,4]),(⟨some 24,.nck (.t 23),none,false⟩,[0,1,2,3,4]),(⟨some 25,.fa 0 (.t 24),none,false⟩,[0,1,2,3,4]),(⟨some 26,.fa 2 (.t 25),none,false⟩,[0,1,2,3,4]),(⟨some 27,.ld false 1 (.t 26),none,false⟩,[0,1,2,3,4]),(⟨some 28,.mv (.t 0),none,false⟩,[0,1,2,3,4,5,6,7,8,9]),(⟨some 29,.nck (.t 28),none,false⟩,[0,1,2,3,4,5,6,7,8,9]),(⟨some 30,.fa 0 (.t 29),none,false⟩,[0,1,2,3,4,5,6,7,8,9]),(⟨some 31,.fa 1 (.t 30),none,false⟩,[0,1,2,3,4,5,6,7,8,9]),(⟨some 32,.ld false 1 (.t 31),none,false⟩,[0,1,2,3,4,5,6,7,8,9]),(⟨some 33,.fa 2 (.t 3),none,false⟩,[5,6,7,8,9,10,11,12,13,14]),(⟨none,.st 1 (.t 33) (.t 22),none,false⟩,[5,6,7,8,9,10,11,12,13,14]),(⟨some 34,.fa 1 (.t 3),none,false⟩,[10,11,12,13,14]),(⟨none,.st 1 (.t 34) (.t 27),none,false⟩,[10,11,12,13,14]),(⟨some 35,.fa 4 (.t 3),none,false⟩,[]),(⟨none,.st 1 (.t 35) (.t 32),none,false⟩,[])]
abbrev i76r3:List (IOper×List Nat):=[(⟨some 36,.fa 5 (.t 3),none,false⟩,[]),(⟨some 37,.ld false 1 (.t 36),none,false⟩,[]),(⟨some 38,.call (.c (.fn 77 [])) [.t 37],none,false⟩,[]),(⟨some 39,.fa 6 (.t 3),none,false⟩,[0,1,2]),(⟨some 40,.ld false 1 (.t 39),none,false⟩,[0,1,2]),(⟨some 41,.call (.c (.fn 78 [])) [.t 40],none,false⟩,[]),(⟨some 42,.fa 5 (.t 3),none,false⟩,[5]),(⟨none,.st 1 (.t 42) (.t 38),none,false⟩,[]),(⟨some 43,.fa 6 (.t 3),none,false⟩,[]),(⟨none,.st 1 (.t 43) (.t 41),none,false⟩,[])]
abbrev i76r4:List IOper:=[⟨some 44,.mv (.t 0),none,false⟩,⟨some 45,.mv (.t 0),none,false⟩,⟨some 46,.nck (.t 45),none,false⟩,⟨some 47,.fa 0 (.t 46),none,false⟩,⟨some 48,.fa 3 (.t 47),none,false⟩,⟨some 49,.ld false 1 (.t 48),none,false⟩,⟨some 50,.bin .add (.t 49) (.c (.i .i64 1)),none,false⟩,⟨some 51,.bin .and (.t 50) (.c (.i .i64 65535)),none,false⟩,⟨some 52,.nck (.t 44),none,false⟩,⟨some 53,.fa 0 (.t 52),none,false⟩,⟨some 54,.fa 3 (.t 53),none,false⟩,⟨none,.st 1 (.t 54) (.t 51),none,false⟩]
abbrev i76r5:List IOper:=[⟨some 55,.ld true 9 (.t 3),none,false⟩,⟨none,.st 9 (.t 4) (.t 55),none,false⟩]
abbrev i76c:ICode:=(.seq (.reg i76r0) (.seq (.reg i76r1) (.seq (.dreg i76r2) (.seq (.dreg i76r3) (.seq (.reg i76r4) (.seq (.reg i76r5) .ret))))))
def i76:IFn:={np:=2,N:=56,ct:=[],code:=i76c,res:=[.c 4 true 9]}
theorem i76_eq:compF Try.prog Try.f76=some i76:=by kernel_rfl
abbrev i77r0:List IOper:=[⟨some 2,.mv (.c (.ns)),none,false⟩]
abbrev i77r1:List IOper:=[⟨some 3,.mv (.t 0),none,false⟩,⟨some 4,.eqn false 1 (.t 3) (.c (.ns)),none,true⟩]
abbrev i77r2:List IOper:=[⟨some 2,.mv (.c (.ns)),none,false⟩]
abbrev i77r3:List IOper:=[⟨some 5,.bsl [] 0 [],none,false⟩,⟨some 6,.mv (.t 0),none,false⟩,⟨some 7,.app 1 8 [.i .i64 0] (.t 5) (.t 6),none,false⟩,⟨some 2,.mv (.t 7),none,false⟩]
abbrev i77c:ICode:=(.seq (.reg i77r0) (.seq (.seq (.reg i77r1) (.cond (.t 4) (.seq (.reg i77r2) .ret) .skip)) (.seq (.reg i77r3) .ret)))
def i77:IFn:={np:=1,N:=8,ct:=[4],code:=i77c,res:=[.t 2]}
theorem i77_eq:compF Try.prog Try.f77=some i77:=by kernel_rfl
abbrev i78r0:List IOper:=[⟨some 2,.mv (.c (.ns)),none,false⟩]
abbrev i78r1:List IOper:=[⟨some 3,.mv (.t 0),none,false⟩,⟨some 4,.eqn false 1 (.t 3) (.c (.ns)),none,true⟩]
abbrev i78r2:List IOper:=[⟨some 2,.mv (.c (.ns)),none,false⟩]
abbrev i78r3:List IOper:=[⟨some 5,.bsl [] 0 [],none,false⟩,⟨some 6,.mv (.t 0),none,false⟩,⟨some 7,.app 2 24 [.i .i64 0,.s []] (.t 5) (.t 6),none,false⟩,⟨some 2,.mv (.t 7),none,false⟩]
abbrev i78c:ICode:=(.seq (.reg i78r0) (.seq (.seq (.reg i78r1) (.cond (.t 4) (.seq (.reg i78r2) .ret) .skip)) (.seq (.reg i78r3) .ret)))
def i78:IFn:={np:=1,N:=8,ct:=[4],code:=i78c,res:=[.t 2]}
theorem i78_eq:compF Try.prog Try.f78=some i78:=by kernel_rfl
abbrev i92r0:List IOper:=[⟨some 2,.mv (.c (.ns)),none,false⟩]
abbrev i92r1:List IOper:=[⟨some 3,.mv (.t 0),none,false⟩,⟨some 4,.eqn false 1 (.t 3) (.c (.ns)),none,true⟩]
abbrev i92r2:List IOper:=[⟨some 2,.mv (.c (.ns)),none,false⟩]
abbrev i92r3:List IOper:=[⟨some 5,.bsl [] 0 [],none,false⟩,⟨some 6,.mv (.t 0),none,false⟩,⟨some 7,.app 11 128 [.b false,.i .i64 0,.i .i64 0,.i .i64 0,.i .i64 0,.ns,.ns,.i .i64 0,.s [],.i .i64 0,.i .i64 0] (.t 5) (.t 6),none,false⟩,⟨some 2,.mv (.t 7),none,false⟩]
abbrev i92c:ICode:=(.seq (.reg i92r0) (.seq (.seq (.reg i92r1) (.cond (.t 4) (.seq (.reg i92r2) .ret) .skip)) (.seq (.reg i92r3) .ret)))
def i92:IFn:={np:=1,N:=8,ct:=[4],code:=i92c,res:=[.t 2]}
theorem i92_eq:compF Try.prog Try.f92=some i92:=by kernel_rfl
abbrev i93r0:List IOper:=[⟨some 2,.box (.t 0),none,false⟩,⟨some 4,.mv (.c (.b false)),none,false⟩]
abbrev i93r1:List IOper:=[⟨some 5,.mv (.t 1),none,false⟩,⟨some 6,.mkf 97 [.t 2],none,false⟩,⟨some 7,.call (.c (.fn 72 [])) [.t 5,.t 6],none,false⟩,⟨some 8,.not (.t 7),none,false⟩,⟨some 4,.mv (.t 8),none,false⟩]
abbrev i93c:ICode:=(.seq (.reg i93r0) (.seq (.reg i93r1) .ret))
def i93:IFn:={np:=2,N:=9,ct:=[],code:=i93c,res:=[.t 4]}
theorem i93_eq:compF Try.prog Try.f93=some i93:=by kernel_rfl
abbrev i94r0:List IOper:=[⟨some 4,.mv (.c (.i .i64 0)),none,false⟩]
abbrev i94r1:List IOper:=[⟨some 6,.mv (.t 0),none,false⟩,⟨some 7,.lenV (.t 6),none,false⟩,⟨some 8,.mv (.c (.i .i64 0)),none,false⟩]
abbrev i94r2:List IOper:=[⟨some 9,.bin .lss (.t 8) (.t 7),none,true⟩]
abbrev i94r3:List IOper:=[⟨some 10,.mv (.t 8),none,false⟩,⟨some 5,.mv (.t 10),none,false⟩]
abbrev i94r4:List IOper:=[⟨some 11,.mv (.t 1),none,false⟩,⟨some 12,.mv (.t 0),none,false⟩,⟨some 13,.mv (.t 5),none,false⟩,⟨some 14,.ixaV 1 (.t 12) (.t 13),none,false⟩,⟨some 15,.ld false 1 (.t 14),none,false⟩,⟨some 16,.call (.t 11) [.t 15],none,true⟩]
abbrev i94r5:List IOper:=[⟨some 17,.mv (.t 5),none,false⟩,⟨some 4,.mv (.t 17),none,false⟩]
abbrev i94r6:List IOper:=[⟨some 18,.bin .add (.t 8) (.c (.i .i64 1)),none,false⟩,⟨some 8,.mv (.t 18),none,false⟩]
abbrev i94l7:ICode:=(.seq (.reg i94r2) (.seq (.cond (.t 9) .skip (.exit 0)) (.seq (.block 1 (.seq (.reg i94r3) (.seq (.reg i94r4) (.cond (.t 16) (.seq (.reg i94r5) .ret) .skip)))) (.reg i94r6))))
abbrev i94r8:List IOper:=[⟨some 4,.mv (.c (.i .i64 (-1))),none,false⟩]
abbrev i94c:ICode:=(.seq (.reg i94r0) (.seq (.seq (.reg i94r1) (.block 0 (.loop i94l7))) (.seq (.reg i94r8) .ret)))
def i94:IFn:={np:=2,N:=19,ct:=[9,16],code:=i94c,res:=[.t 4]}
theorem i94_eq:compF Try.prog Try.f94=some i94:=by kernel_rfl
abbrev i97r0:List IOper:=[⟨some 3,.mv (.c (.b false)),none,false⟩]
abbrev i97r1:List IOper:=[⟨some 4,.mv (.t 0),none,false⟩,⟨some 5,.bin .lss (.t 4) (.c (.i .i64 0)),none,false⟩,⟨some 6,.mv (.t 5),none,true⟩,⟨some 7,.mv (.t 0),(some (6,false)),false⟩,⟨some 8,.ld false 1 (.t 1),(some (6,false)),false⟩,⟨some 9,.bin .shr (.t 7) (.t 8),(some (6,false)),false⟩,⟨some 10,.bin .neq (.t 9) (.c (.i .i64 0)),(some (6,false)),false⟩,⟨some 11,.pick (.t 6) (.c (.b true)) (.t 10),none,false⟩,⟨some 3,.mv (.t 11),none,false⟩]
abbrev i97c:ICode:=(.seq (.reg i97r0) (.seq (.reg i97r1) .ret))
def i97:IFn:={np:=2,N:=12,ct:=[],code:=i97c,res:=[.t 3]}
theorem i97_eq:compF Try.prog Try.f97=some i97:=by kernel_rfl
def TK:List (Nat×IFn):=[(11,i11),(18,i18),(22,i22),(23,i23),(24,i24),(25,i25),(32,i32),(33,i33),(35,i35),(36,i36),(37,i37),(38,i38),(40,i40),(49,i49),(50,i50),(51,i51),(60,i60),(61,i61),(66,i66),(67,i67),(68,i68),(69,i69),(70,i70),(71,i71),(72,i72),(73,i73),(74,i74),(75,i75),(76,i76),(77,i77),(78,i78),(89,i89),(92,i92),(93,i93),(94,i94),(97,i97)]
theorem TK_valid:Valid Try.prog TK:=
 .cons Try.func11 i11_eq (by kernel_rfl)<|
 .cons Try.func18 i18_eq (by kernel_rfl)<|
 .cons Try.func22 i22_eq (by kernel_rfl)<|
 .cons Try.func23 i23_eq (by kernel_rfl)<|
 .cons Try.func24 i24_eq (by kernel_rfl)<|
 .cons Try.func25 i25_eq (by kernel_rfl)<|
 .cons Try.func32 i32_eq (by kernel_rfl)<|
 .cons Try.func33 i33_eq (by kernel_rfl)<|
 .cons Try.func35 i35_eq (by kernel_rfl)<|
 .cons Try.func36 i36_eq (by kernel_rfl)<|
 .cons Try.func37 i37_eq (by kernel_rfl)<|
 .cons Try.func38 i38_eq (by kernel_rfl)<|
 .cons Try.func40 i40_eq (by kernel_rfl)<|
 .cons Try.func49 i49_eq (by kernel_rfl)<|
 .cons Try.func50 i50_eq (by kernel_rfl)<|
 .cons Try.func51 i51_eq (by kernel_rfl)<|
 .cons Try.func60 i60_eq (by kernel_rfl)<|
 .cons Try.func61 i61_eq (by kernel_rfl)<|
 .cons Try.func66 i66_eq (by kernel_rfl)<|
 .cons Try.func67 i67_eq (by kernel_rfl)<|
 .cons Try.func68 i68_eq (by kernel_rfl)<|
 .cons Try.func69 i69_eq (by kernel_rfl)<|
 .cons Try.func70 i70_eq (by kernel_rfl)<|
 .cons Try.func71 i71_eq (by kernel_rfl)<|
 .cons Try.func72 i72_eq (by kernel_rfl)<|
 .cons Try.func73 i73_eq (by kernel_rfl)<|
 .cons Try.func74 i74_eq (by kernel_rfl)<|
 .cons Try.func75 i75_eq (by kernel_rfl)<|
 .cons Try.func76 i76_eq (by kernel_rfl)<|
 .cons Try.func77 i77_eq (by kernel_rfl)<|
 .cons Try.func78 i78_eq (by kernel_rfl)<|
 .cons Try.func89 i89_eq (by kernel_rfl)<|
 .cons Try.func92 i92_eq (by kernel_rfl)<|
 .cons Try.func93 i93_eq (by kernel_rfl)<|
 .cons Try.func94 i94_eq (by kernel_rfl)<|
 .cons Try.func97 i97_eq (by kernel_rfl) .nil
def o13:List AV->Option AV
 |[.agg c,.i .i64 now,.i .i64 seq]=>(wsA c).bind fun w=>bif decide (w.l.length<=1000000000000) then some (rsV (sawS w now seq)) else none
 |_=>none
def o20:List AV->Option AV
 |[.agg c,.i .i64 now,.i .i64 trip]=>(wsA c).bind fun w=>bif decide (w.l.length<=1000000000000) then some (askV (askS w now trip)) else none
 |_=>none
theorem f13 {a:List AV} {v:AV} (h:o13 a=some v):FTL Try.prog 13 a [] 0 v [] 0:=by
 unfold o13 at h;split at h
 ·simp only [Option.bind_eq_some_iff] at h;obtain ⟨w,hw,h⟩:=h;cases hd:decide (w.l.length<=1000000000000)
  ·rw [hd] at h;cases h
  ·rw [hd] at h;cases h;exact FTL.wkaH (wsA_k hw).1 (w13 w _ _ (of_decide_eq_true hd))
 ·cases h
theorem f20 {a:List AV} {v:AV} (h:o20 a=some v):FTL Try.prog 20 a [] 0 v [] 0:=by
 unfold o20 at h;split at h
 ·simp only [Option.bind_eq_some_iff] at h;obtain ⟨w,hw,h⟩:=h;cases hd:decide (w.l.length<=1000000000000)
  ·rw [hd] at h;cases h
  ·rw [hd] at h;cases h;exact FTL.wkaH (wsA_k hw).1 (w20 w _ _ (of_decide_eq_true hd))
 ·cases h
theorem w97 (n bits:Int) (hb:0<=bits/\bits<=63):FTL Try.prog 97 [.i .i64 n,.fp [.i .i64 bits] 0] [] 0 (.b !(fitB bits n)) [] 0:=by
 refine FTL.of_iw Sound.nil mo Try.func97 i97_eq (by simp [i97]) (iw_of_jw ?_)
 dsimp only [i97];have c1:decide (0<=bits)=true:=decide_eq_true hb.1;cases h1:decide (n<0)
 ·have h1':decide (0<=n)=true:=decide_eq_true (by simpa using h1)
  simp (maxSteps:=400000) only [go_sem,h1,c1,simprocAttr];have hm:Nat.min bits.toNat 64=bits.toNat:=Nat.min_eq_left (by omega)
  have hi:bits<=64:=by omega
  exact Ends.pureE rfl (by simp [fitB,h1',bne,hm,hi])
 ·have h1':decide (0<=n)=false:=decide_eq_false (by simpa using h1)
  simp (maxSteps:=400000) only [go_sem,h1,c1,simprocAttr];exact Ends.pureE rfl (by simp [fitB,h1'])
theorem w94 (l:List Int) (bits:Int) (hb:0<=bits/\bits<=63) (hl:l.length<=9223372036854775807):FTL Try.prog 94 [.fz (rows int1 l) l.length,.fn 97 [.fp [.i .i64 bits] 0]] [] 0 (.i .i64 (ixf (fun n=> !fitB bits n) l 0)) [] 0:=
 ixf_fz1 (el:=fun n=> .i .i64 n) mo Try.func94 i94_eq (by kernel_rfl) (fun _=>rfl) rfl (fun _=>rfl) (fun a b h=>by cases h;rfl) l hl (fun n _=>w97 n bits hb)
theorem w72 (l:List Int) (bits:Int) (hb:0<=bits/\bits<=63) (hl:l.length<=9223372036854775807):FTL Try.prog 72 [.fz (rows int1 l) l.length,.fn 97 [.fp [.i .i64 bits] 0]] [] 0 (.b (l.any fun n=> !fitB bits n)) [] 0:=
 cof_fz mo Try.func72 i72_eq (by kernel_rfl) (rows_bel int1_bel) rfl (w94 l bits hb hl) (ixf_neg _ l 0 (by omega))
def k72:Ct
 |[x,.fn 97 [.p b 0]],h,n=>vwK h 1 x fun rd m cs ok=>(hget h b).bind fun kb=>(oneB kb).bind fun bits=>(unrows 1 intV m cs).bind fun l=>
  some (ok&&decide (0<=bits/\bits<=63)&&decide (m<=9223372036854775807),{v:= .b (l.any fun n=> !fitB bits n),n,rd:=b::rd})
 |_,_,_=>none
theorem s72:SoundAt Try.prog 72 k72:=fun args h n c E hc ht=>by
 unfold k72 at hc;split at hc
 ·rename_i x b;rw [vwK_eq] at hc;simp only [Option.bind_eq_some_iff] at hc;obtain ⟨⟨rd,m,cs,ok⟩,hv,kb,hkb,bits,hbits,l,hl,he⟩:=hc;cases he;simp only [Bool.and_eq_true,decide_eq_true_eq] at ht;obtain ⟨⟨rfl,hb⟩,hm⟩:=ht;obtain ⟨rfl,hlm⟩:=unrows_eq (f:=int1) intV_eq hl;subst hlm;refine CallOK.viewG (by kernel_rfl) (argsF:=[.fz (rows int1 l) l.length,.fn 97 [.fp kb.cells 0]]) ⟨vwK_sub hv (rows_bel int1_bel) (fun c hc=>by rw [inl_cons];split;rfl;exact hc),VwV.fn ⟨VwV.p (by simp only [only,inl_cons,if_true,cond_true];exact hkb) ?_ (by rw [oneB_eq hbits]),trivial⟩,trivial⟩ rfl ?_
  ·rw [oneB_eq hbits];rfl
  ·rw [oneB_eq hbits];exact w72 l bits hb hm
 ·cases hc
def TM1:List (Nat×Ct):=[(72,k72)]
theorem hTM1:Sound Try.prog (cxT TM1):=Sound.cons s72 Sound.nil
theorem w93 (l:List Int) (bits:Int) (hb:0<=bits/\bits<=63) (hl:l.length<=9223372036854775807):FTL Try.prog 93 [.i .i64 bits,.fz (rows int1 l) l.length] [] 0 (.b (l.all (fitB bits))) [] 0:=by
 refine FTL.of_iw hTM1 mo Try.func93 i93_eq (by simp [i93]) (iw_of_jw ?_)
 dsimp only [i93,TM1];have hu:unrows 1 intV l.length (rows int1 l)=some l:=unrows_rows int1_len (fun _=>rfl) l;have c1:decide (0<=bits/\bits<=63)=true:=decide_eq_true hb;have c2:decide (l.length<=9223372036854775807)=true:=decide_eq_true hl;have hvw: ∀(h:Hp) (k:List Nat->Nat->List AV->Bool->Option (Bool×Eff)),vwK h 1 (.fz (rows int1 l) l.length) k=k [] l.length (rows int1 l) true:=fun h k=>vwK_rows int1_len;simp (maxSteps:=400000) only [go_sem,k72,hvw,hu,c1,c2,oneB,simprocAttr];refine Ends.pureE rfl (congrArg _ ?_);rw [List.any_eq_not_all_not];simp
def k93:Ct
 |[.i .i64 bits,x],h,n=>vwK h 1 x fun rd m cs ok=>(unrows 1 intV m cs).bind fun l=>some (ok&&decide (0<=bits/\bits<=63)&&decide (m<=9223372036854775807),{v:= .b (l.all (fitB bits)),n,rd})
 |_,_,_=>none
theorem s93:SoundAt Try.prog 93 k93:=fun args h n c E hc ht=>by
 unfold k93 at hc;split at hc
 ·rename_i bits x;rw [vwK_eq] at hc;simp only [Option.bind_eq_some_iff] at hc;obtain ⟨⟨rd,m,cs,ok⟩,hv,l,hl,he⟩:=hc;cases he;simp only [Bool.and_eq_true,decide_eq_true_eq] at ht;obtain ⟨⟨rfl,hb⟩,hm⟩:=ht;obtain ⟨rfl,hlm⟩:=unrows_eq (f:=int1) intV_eq hl;subst hlm;exact CallOK.viewG (by kernel_rfl) (argsF:=[.i .i64 bits,.fz (rows int1 l) l.length]) ⟨VwV.same rfl,vwK_sub hv (rows_bel int1_bel) (fun c hc=>hc),trivial⟩ rfl (w93 l bits hb hm)
 ·cases hc
def TM2:List (Nat×Ct):=[(93,k93)]
theorem hTM2:Sound Try.prog (cxT TM2):=Sound.cons s93 Sound.nil
theorem loop68 (p:Md) (hf:p.fin=true) (pre:Bool) {K:Kont} {e:Env} {h:Hp} {n:Nat}
 (he:EnvIn 1 e [(1,.p 0 0),(3,.b pre),(48,.fz (rows xtR p.xs) p.xs.length),(49,.i .i64 (p.xs.length:Int)),(50,.i .i64 0)])
 (hh:HpIn 1 h [(0,{cells:=p.l})]) (hK: ∀e' h' n',eget e' 3=some (.b (pre&&allN (xtOK p.xs) p.xs.length))->K (.exit 0) e' h' n'):
 Ab.Loop Try.prog [51,88] 89 0 i68l7 K e h n:=by
 simp only [Md.fin,Bool.and_eq_true,decide_eq_true_eq,List.all_eq_true] at hf;obtain ⟨⟨⟨_,hxl⟩,hxd⟩,_⟩:=hf;refine Loop.countI (F:=⟨Try.prog,cxT TM2,[51,88],89,0⟩) hTM2 mo p.xs.length (fun _=>True)
  (fun k=>[(1,.p 0 0),(3,.b (pre&&allN (xtOK p.xs) k)),(48,.fz (rows xtR p.xs) p.xs.length),(49,.i .i64 (p.xs.length:Int)),(50,.i .i64 (k:Int))])
  (fun k=>[(0,{cells:=p.l})]) 1 (by decide) trivial (by simpa [allN] using he) hh (fun k hk _=> ?_)
 dsimp only [TM2];have hLb:belL 1 p.l=true:=belL_mono0 _ p.bel;have hXb:belL 1 (rows xtR p.xs)=true:=belL_mono0 _ (rows_bel xtR_bel);have hCb:belL 1 (rows int1 p.cs)=true:=belL_mono0 _ (rows_bel int1_bel);by_cases hlt:k<p.xs.length
 ·have c1:decide ((k:Int)<(p.xs.length:Int))=true:=decide_eq_true (by omega)
  have c2:decide (0<=(k:Int)/\(k:Int)<(p.xs.length:Int))=true:=decide_eq_true (by omega)
  obtain ⟨x,hx⟩: ∃x,p.xs[k]? =some x:=⟨_,List.getElem?_eq_getElem hlt⟩;have hw:IntKind.i64.wrap ((k:Int)+1)=((k+1:Nat):Int):=by rw [wrapL (by omega) (by omega)];omega
  have hr:List.take 2 (List.drop (k*2) (rows xtR p.xs))=[.i .i64 x.1,.s x.2]:=rows_at xtR_len hx;have hxx:=hxd x (List.mem_of_getElem? hx);have hsn:allN (xtOK p.xs) (k+1)=(allN (xtOK p.xs) k&&xtOK p.xs k):=rfl;cases hp:pre&&allN (xtOK p.xs) k
  ·have hnx:(pre&&allN (xtOK p.xs) (k+1))=false:=by rw [hsn,<-Bool.and_assoc,hp];rfl
   simp (maxSteps:=400000) only [go_sem,c1,c2,hr,hp,hw,hnx,hlt,Md.l,AV.bel,belL,nblt,hXb,hCb,simprocAttr]
  ·have hnx:(pre&&allN (xtOK p.xs) (k+1))=xtOK p.xs k:=by rw [hsn,<-Bool.and_assoc,hp];rfl
   cases a1:inZ 0 255 x.1
   ·have hx0:xtOK p.xs k=false:=by simp [xtOK,hx,a1]
    rw [hx0] at hnx;simp (maxSteps:=400000) only [go_sem,c1,c2,hr,hp,hw,hnx,hlt,k93,vwK_s,unrows,intV,fit8,List.all_cons,List.all_nil,a1,Md.l,AV.bel,belL,nblt,hXb,hCb,simprocAttr]
   cases a2:inZ 0 255 (x.2.length:Int)
   ·have hx0:xtOK p.xs k=false:=by simp [xtOK,hx,a1,a2]
    rw [hx0] at hnx;simp (maxSteps:=400000) only [go_sem,c1,c2,hr,hp,hw,hnx,hlt,k93,vwK_s,unrows,intV,fit8,List.all_cons,List.all_nil,a1,a2,Md.l,AV.bel,belL,nblt,hXb,hCb,simprocAttr]
   cases a3:decide (0<x.1)
   ·have hx0:xtOK p.xs k=false:=by simp only [xtOK,hx,a1,a2,a3,Bool.and_false,Bool.false_and]
    rw [hx0] at hnx;simp (maxSteps:=400000) only [go_sem,c1,c2,hr,hp,hw,hnx,hlt,k93,vwK_s,unrows,intV,fit8,List.all_cons,List.all_nil,a1,a2,a3,Md.l,AV.bel,belL,nblt,hXb,hCb,simprocAttr]
   by_cases hk0:k=0
   ·have d1:(k==0)=true:=by simp [hk0]
    have hx0:xtOK p.xs k=true:=by simp only [xtOK,hx,a1,a2,a3,d1,Bool.and_self,Bool.true_or]
    rw [hx0] at hnx;have d0:((k:Int)==0)=true:=by simp [hk0]
    simp (maxSteps:=400000) only [go_sem,c1,c2,hr,hp,hw,hnx,hlt,k93,vwK_s,unrows,intV,fit8,List.all_cons,List.all_nil,a1,a2,a3,d0,Md.l,AV.bel,belL,nblt,hXb,hCb,simprocAttr]
   ·have d0:((k:Int)==0)=false:=by simp [hk0]
    have d1:(k==0)=false:=by simp [hk0]
    obtain ⟨y,hy⟩: ∃y,p.xs[k-1]? =some y:=⟨_,List.getElem?_eq_getElem (by omega)⟩
    have hx0:xtOK p.xs k=decide (y.1<x.1):=by simp only [xtOK,hx,hy,a1,a2,a3,d1,Bool.true_and,Bool.false_or]
    rw [hx0] at hnx;have q2:IntKind.i64.wrap ((k:Int)-1)=((k-1:Nat):Int):=by rw [wrapL (by omega) (by omega)];omega
    have c3:decide (0<=((k-1:Nat):Int)/\((k-1:Nat):Int)<(p.xs.length:Int))=true:=decide_eq_true (by omega)
    have hy1:(rows xtR p.xs)[(k-1)*2+0]? =some (.i .i64 y.1):=rows_get (j:=0) xtR_len hy rfl;rw [Nat.add_zero] at hy1;simp (maxSteps:=400000) only [go_sem,c1,c2,c3,hr,hp,hw,hnx,hlt,k93,vwK_s,unrows,intV,fit8,List.all_cons,List.all_nil,a1,a2,a3,d0,q2,hy1,Md.l,AV.bel,belL,nblt,hXb,hCb,simprocAttr];repeat' (first|refine spB_i (fun _=> ?_) (fun _=> ?_)|refine andB_i ?_ ?_)
    all_goals skip
 ·have c1:decide ((k:Int)<(p.xs.length:Int))=false:=decide_eq_false (by omega)
  obtain rfl:k=p.xs.length:=by omega
  simp (maxSteps:=400000) only [go_sem,c1,simprocAttr];exact hK _ _ _ rfl
theorem w68 (p:Md) (hf:p.fin=true):FTL Try.prog 68 [.agg p.l] [] 0 (.i .i64 (if mdB p then 0 else 230)) [] 0:=by
 have hf':=hf;simp only [Md.fin,Bool.and_eq_true,decide_eq_true_eq] at hf';refine FTL.of_iw hTM2 mo Try.func68 i68_eq (by simp [i68]) (iw_of_jw ?_)
 dsimp only [i68,TM2];have hu:unrows 1 intV p.cs.length (rows int1 p.cs)=some p.cs:=unrows_rows int1_len (fun _=>rfl) p.cs;have hcl:decide (p.cs.length<=9223372036854775807)=true:=decide_eq_true hf'.1.1.1;have hvw: ∀(h:Hp) (k:List Nat->Nat->List AV->Bool->Option (Bool×Eff)),vwK h 1 (.fz (rows int1 p.cs) p.cs.length) k=k [] p.cs.length (rows int1 p.cs) true:=fun h k=>vwK_rows int1_len;have h32:fitB 32=inZ 0 4294967295:=funext fit32;have c15:decide ((p.cs.length:Int)<=15)=decide (p.cs.length<=15):=decide_eq_decide.2 (by omega)
 have c16:decide ((p.xs.length:Int)<=16)=decide (p.xs.length<=16):=decide_eq_decide.2 (by omega)
 have hLb:belL 1 p.l=true:=belL_mono0 _ p.bel;have hXb:belL 1 (rows xtR p.xs)=true:=belL_mono0 _ (rows_bel xtR_bel);have hCb:belL 1 (rows int1 p.cs)=true:=belL_mono0 _ (rows_bel int1_bel);have hpre:=rfl (a:=mdPre p);generalize hR:(if mdB p then (0:Int) else 230)=R
 have hrun: ∀(pre:Bool) (e':Env) (h':Hp) (n':Nat),pre=mdPre p->eget e' 3=some (.b (pre&&allN (xtOK p.xs) p.xs.length))→
  jw ⟨Try.prog,cxT [(93,k93)],[51,88],89,0⟩ (.seq (.seq (.reg i68r8) (.cond (.t 88) (.seq (.reg i68r9) .ret) .skip)) (.seq (.reg i68r10) .ret)) (retK [.t 2] fun v h' n'=>Ab.Ends 0 v h' n' (.i .i64 R) [] 0) e' h' n':=by
  intro pre e' h' n' hp he3;subst hp;cases hb:mdPre p&&allN (xtOK p.xs) p.xs.length
  ·rw [hb] at he3;simp (maxSteps:=400000) only [go_sem,he3,simprocAttr];exact Ends.pureE rfl (by rw [<-hR];simp [mdB,hb])
  ·rw [hb] at he3;simp (maxSteps:=400000) only [go_sem,he3,simprocAttr];exact Ends.pureE rfl (by rw [<-hR];simp [mdB,hb])
 cases a1:inZ 0 127 p.ty
 ·simp (maxSteps:=400000) only [go_sem,k93,vwK_s,unrows,intV,fit7,fit8,fit16,h32,List.all_cons,List.all_nil,hvw,hu,hcl,c15,c16,a1,Md.l,simprocAttr];refine loop68 p hf false ?_ ?_ (fun e' h' n' he=> ?_)
  ·simp (maxSteps:=400000) only [go_sem,AV.bel,belL,nblt,hXb,hCb,simprocAttr]
  ·simp (maxSteps:=400000) only [go_sem,Md.l,AV.bel,belL,nblt,hXb,hCb,simprocAttr]
  ·simp only [blockK_e,if_true,thenK_n];exact hrun _ _ _ _ (by simp only [mdPre,a1,Bool.false_and,Bool.and_false,Bool.and_self]) he
 cases a2:inZ 0 65535 p.sq
 ·simp (maxSteps:=400000) only [go_sem,k93,vwK_s,unrows,intV,fit7,fit8,fit16,h32,List.all_cons,List.all_nil,hvw,hu,hcl,c15,c16,a1,a2,Md.l,simprocAttr];refine loop68 p hf false ?_ ?_ (fun e' h' n' he=> ?_)
  ·simp (maxSteps:=400000) only [go_sem,AV.bel,belL,nblt,hXb,hCb,simprocAttr]
  ·simp (maxSteps:=400000) only [go_sem,Md.l,AV.bel,belL,nblt,hXb,hCb,simprocAttr]
  ·simp only [blockK_e,if_true,thenK_n];exact hrun _ _ _ _ (by simp only [mdPre,a1,a2,Bool.false_and,Bool.and_false,Bool.and_self]) he
 cases a3:(inZ 0 4294967295 p.tm&&inZ 0 4294967295 p.ss)
 ·simp (maxSteps:=400000) only [go_sem,k93,vwK_s,unrows,intV,fit7,fit8,fit16,h32,List.all_cons,List.all_nil,hvw,hu,hcl,c15,c16,a1,a2,a3,Md.l,simprocAttr];refine loop68 p hf false ?_ ?_ (fun e' h' n' he=> ?_)
  ·simp (maxSteps:=400000) only [go_sem,AV.bel,belL,nblt,hXb,hCb,simprocAttr]
  ·simp (maxSteps:=400000) only [go_sem,Md.l,AV.bel,belL,nblt,hXb,hCb,simprocAttr]
  ·simp only [blockK_e,if_true,thenK_n];exact hrun _ _ _ _ (by simp only [mdPre,a1,a2,a3,Bool.false_and,Bool.and_false,Bool.and_self]) he
 cases a4:p.cs.all (inZ 0 4294967295)
 ·simp (maxSteps:=400000) only [go_sem,k93,vwK_s,unrows,intV,fit7,fit8,fit16,h32,List.all_cons,List.all_nil,hvw,hu,hcl,c15,c16,a1,a2,a3,a4,Md.l,simprocAttr];refine loop68 p hf false ?_ ?_ (fun e' h' n' he=> ?_)
  ·simp (maxSteps:=400000) only [go_sem,AV.bel,belL,nblt,hXb,hCb,simprocAttr]
  ·simp (maxSteps:=400000) only [go_sem,Md.l,AV.bel,belL,nblt,hXb,hCb,simprocAttr]
  ·simp only [blockK_e,if_true,thenK_n];exact hrun _ _ _ _ (by simp only [mdPre,a1,a2,a3,a4,Bool.false_and,Bool.and_false,Bool.and_self]) he
 cases a5:inZ 0 255 p.pd
 ·simp (maxSteps:=400000) only [go_sem,k93,vwK_s,unrows,intV,fit7,fit8,fit16,h32,List.all_cons,List.all_nil,hvw,hu,hcl,c15,c16,a1,a2,a3,a4,a5,Md.l,simprocAttr];refine loop68 p hf false ?_ ?_ (fun e' h' n' he=> ?_)
  ·simp (maxSteps:=400000) only [go_sem,AV.bel,belL,nblt,hXb,hCb,simprocAttr]
  ·simp (maxSteps:=400000) only [go_sem,Md.l,AV.bel,belL,nblt,hXb,hCb,simprocAttr]
  ·simp only [blockK_e,if_true,thenK_n];exact hrun _ _ _ _ (by simp only [mdPre,a1,a2,a3,a4,a5,Bool.false_and,Bool.and_false,Bool.and_self]) he
 cases a6:decide (p.cs.length<=15)
 ·simp (maxSteps:=400000) only [go_sem,k93,vwK_s,unrows,intV,fit7,fit8,fit16,h32,List.all_cons,List.all_nil,hvw,hu,hcl,c15,c16,a1,a2,a3,a4,a5,a6,Md.l,simprocAttr];refine loop68 p hf false ?_ ?_ (fun e' h' n' he=> ?_)
  ·simp (maxSteps:=400000) only [go_sem,AV.bel,belL,nblt,hXb,hCb,simprocAttr]
  ·simp (maxSteps:=400000) only [go_sem,Md.l,AV.bel,belL,nblt,hXb,hCb,simprocAttr]
  ·simp only [blockK_e,if_true,thenK_n];exact hrun _ _ _ _ (by simp only [mdPre,a1,a2,a3,a4,a5,a6,Bool.false_and,Bool.and_false,Bool.and_self]) he
 cases a7:decide (p.xs.length<=16)
 ·simp (maxSteps:=400000) only [go_sem,k93,vwK_s,unrows,intV,fit7,fit8,fit16,h32,List.all_cons,List.all_nil,hvw,hu,hcl,c15,c16,a1,a2,a3,a4,a5,a6,a7,Md.l,simprocAttr];refine loop68 p hf false ?_ ?_ (fun e' h' n' he=> ?_)
  ·simp (maxSteps:=400000) only [go_sem,AV.bel,belL,nblt,hXb,hCb,simprocAttr]
  ·simp (maxSteps:=400000) only [go_sem,Md.l,AV.bel,belL,nblt,hXb,hCb,simprocAttr]
  ·simp only [blockK_e,if_true,thenK_n];exact hrun _ _ _ _ (by simp only [mdPre,a1,a2,a3,a4,a5,a6,a7,Bool.false_and,Bool.and_false,Bool.and_self]) he
 simp (maxSteps:=400000) only [go_sem,k93,vwK_s,unrows,intV,fit7,fit8,fit16,h32,List.all_cons,List.all_nil,hvw,hu,hcl,c15,c16,a1,a2,a3,a4,a5,a6,a7,Md.l,simprocAttr];refine loop68 p hf true ?_ ?_ (fun e' h' n' he=> ?_)
 ·simp (maxSteps:=400000) only [go_sem,AV.bel,belL,nblt,hXb,hCb,simprocAttr]
 ·simp (maxSteps:=400000) only [go_sem,Md.l,AV.bel,belL,nblt,hXb,hCb,simprocAttr]
 ·simp only [blockK_e,if_true,thenK_n];exact hrun _ _ _ _ (by simp only [mdPre,a1,a2,a3,a4,a5,a6,a7,Bool.false_and,Bool.and_false,Bool.and_self]) he
def k68:Ct
 |[.agg l],_,n=>(md9 l).bind fun p=>some (p.fin,{v:= .i .i64 (if mdB p then 0 else 230),n})
 |_,_,_=>none
theorem s68:SoundAt Try.prog 68 k68:=fun args h n c E hc ht=>by
 unfold k68 at hc;split at hc
 ·simp only [Option.bind_eq_some_iff] at hc;obtain ⟨p,hp,he⟩:=hc;cases he;rw [md9_eq hp];exact CallOK.pure (by kernel_rfl) (by simp only [belL,AV.bel,p.bel,Bool.and_self]) rfl (w68 p ht) _ _
 ·cases hc
structure Kp where
 p:Md
 ti:Int
 ak:Int
def Kp.l (x:Kp):List AV:=[.b x.p.ma,.i .i64 x.p.ty,.i .i64 x.p.sq,.i .i64 x.p.tm,.i .i64 x.p.ss,.fz (rows int1 x.p.cs) x.p.cs.length,.fz (rows xtR x.p.xs) x.p.xs.length,.i .i64 x.p.pd,.s x.p.pl,.i .i64 x.ti,.i .i64 x.ak]
theorem Kp.len (x:Kp):x.l.length=11:=rfl
theorem Kp.bel (x:Kp):belL 0 x.l=true:=by simp only [Kp.l,belL,AV.bel,rows_bel int1_bel,rows_bel xtR_bel,Bool.and_self]
theorem Kp.one (x:Kp):oneAll x.l=true:=rfl
theorem Kp.inj {a b:Kp} (h:a.l=b.l):a=b:=by
 have hp:a.p=b.p:=Md.inj (by
  simp only [Kp.l,List.cons.injEq] at h;simp only [Md.l,List.cons.injEq];obtain ⟨h1,h2,h3,h4,h5,h6,h7,h8,h9,_⟩:=h;exact ⟨h1,h2,h3,h4,h5,h6,h7,h8,h9,trivial⟩)
 obtain ⟨p,t,k⟩:=a;obtain ⟨q,u,m⟩:=b;simp only [Kp.l,List.cons.injEq,AV.i.injEq,true_and,and_true] at h;dsimp only at hp;obtain ⟨_,_,_,_,_,_,_,_,_,rfl,rfl⟩:=h;rw [hp]
def kp11:List AV->Option Kp
 |[a,b,c,d,e,f,g,h,i,.i .i64 t,.i .i64 k]=>(md9 [a,b,c,d,e,f,g,h,i]).bind fun p=>some ⟨p,t,k⟩
 |_=>none
theorem kp11_l (x:Kp):kp11 x.l=some x:=by
 have h:=md9_l x.p;simp only [Md.l] at h;simp only [kp11,Kp.l,h,Option.bind_some]
theorem kp11_eq {c:List AV} {x:Kp} (h:kp11 c=some x):c=x.l:=by
 unfold kp11 at h;split at h
 ·simp only [Option.bind_eq_some_iff,Option.some.injEq] at h;obtain ⟨p,hp,rfl⟩:=h;have:=md9_eq hp;simp only [Md.l,List.cons.injEq,and_true] at this;obtain ⟨rfl,rfl,rfl,rfl,rfl,rfl,rfl,rfl,rfl⟩:=this;rfl
 ·cases h
theorem kp_at {l:List Kp} {k:Nat} {x:Kp} (h:l[k]? =some x):List.take 11 (List.drop (k*11) (rows Kp.l l))=x.l:=rows_at Kp.len h
theorem krB (j:Nat) (l:List Kp):belL j (rows Kp.l l)=true:=belL_mono0 _ (rows_bel Kp.bel)
theorem krR (ψ:Nat->Nat) (l:List Kp):renL ψ (rows Kp.l l)=rows Kp.l l:=renL_fix0 _ (rows_bel Kp.bel)
theorem csB (j:Nat) (l:List Int):belL j (rows int1 l)=true:=belL_mono0 _ (rows_bel int1_bel)
theorem xsB (j:Nat) (l:List Xt):belL j (rows xtR l)=true:=belL_mono0 _ (rows_bel xtR_bel)
structure Hs where
 ti:Int
 ss:Int
 ty:Int
 nx:Int
 l:List Kp
def Hs.a (h:Hs):List AV:=[.i .i64 h.ti,.i .i64 h.ss,.i .i64 h.ty,.i .i64 h.nx,.fz (rows Kp.l h.l) h.l.length]
theorem Hs.bel (h:Hs):belL 0 h.a=true:=by simp only [Hs.a,belL,AV.bel,krB,Bool.and_self]
theorem kp_un (l:List Kp):unrows 11 kp11 l.length (rows Kp.l l)=some l:=unrows_rows Kp.len kp11_l l
def hsA:List AV->Option Hs
 |[.i .i64 ti,.i .i64 ss,.i .i64 ty,.i .i64 nx,.fz L m]=>(unrows 11 kp11 m L).bind fun l=>some ⟨ti,ss,ty,nx,l⟩
 |_=>none
theorem hsA_a (h:Hs):hsA h.a=some h:=by
 obtain ⟨ti,ss,ty,nx,l⟩:=h;simp only [hsA,Hs.a,kp_un,Option.bind_some]
theorem hsA_eq {c:List AV} {h:Hs} (e:hsA c=some h):c=h.a:=by
 unfold hsA at e;split at e
 ·simp only [Option.bind_eq_some_iff,Option.some.injEq] at e;obtain ⟨l,hl,rfl⟩:=e;obtain ⟨rfl,hm⟩:=unrows_eq (f:=Kp.l) (fun c a h=>kp11_eq h) hl;subst hm;rfl
 ·cases e
def namesB (ss ty nx:Int):Bool:=inI 0 4294967295 ss&&(inI 0 127 ty&&inI 0 65535 nx)
def TM66:List (Nat×Ct):=[(49,k49)]
theorem hTM66:Sound Try.prog (cxT TM66):=Sound.cons s49 Sound.nil
theorem w66 (a b c:Int):FTL Try.prog 66 [.i .i64 a,.i .i64 b,.i .i64 c] [] 0 (.b (namesB a b c)) [] 0:=by
 refine FTL.of_iw hTM66 mo Try.func66 i66_eq (by simp [i66]) (iw_of_jw ?_)
 dsimp only [i66,TM66];cases h1:inI 0 4294967295 a
 ·simp (maxSteps:=400000) only [go_sem,k49,h1,simprocAttr];exact Ends.pureE rfl (by simp only [namesB,h1];rfl)
 cases h2:inI 0 127 b
 ·simp (maxSteps:=400000) only [go_sem,k49,h1,h2,simprocAttr];exact Ends.pureE rfl (by simp only [namesB,h1,h2];rfl)
 ·simp (maxSteps:=400000) only [go_sem,k49,h1,h2,simprocAttr];exact Ends.pureE rfl (by simp only [namesB,h1,h2];rfl)
def k66:Ct
 |[.i .i64 a,.i .i64 b,.i .i64 c],_,n=>some (true,{v:= .b (namesB a b c),n})
 |_,_,_=>none
theorem s66:SoundAt Try.prog 66 k66:=fun args h n c E hc ht=>by
 unfold k66 at hc;split at hc
 ·cases hc;exact CallOK.pure (by kernel_rfl) rfl rfl (w66 _ _ _) _ _
 ·cases hc
def TM71:List (Nat×Ct):=[(68,k68)]
theorem hTM71:Sound Try.prog (cxT TM71):=Sound.cons s68 Sound.nil
theorem w71 (x:Kp) (hf:x.p.fin=true):FTL Try.prog 71 [.agg x.l] [] 0 (.b !(mdB x.p)) [] 0:=by
 have h9:=md9_l x.p;have hk: ∀(h:Hp) n,k68 [.agg x.p.l] h n=some (true,{v:= .i .i64 (if mdB x.p then 0 else 230),n}):=fun h n=>by
  simp only [k68,h9,Option.bind_some,hf]
 obtain ⟨p,t,k⟩:=x;simp only [Md.l] at hk;dsimp only at hf hk;refine FTL.of_iw hTM71 mo Try.func71 i71_eq (by simp [i71]) (iw_of_jw ?_)
 dsimp only [i71,TM71];cases hb:mdB p;all_goals
  simp only [hb,if_true,if_false,Bool.false_eq_true] at hk;simp (maxSteps:=400000) only [go_sem,Kp.l,hk,simprocAttr];exact Ends.pureE rfl rfl
theorem w74s (l:List Kp) (hl:l.length<=9223372036854775807) (hf:l.all (fun x=>x.p.fin)=true):FTL Try.prog 74 [.fz (rows Kp.l l) l.length,.fn 71 []] [] 0 (.i .i64 (ixf (fun x=> !mdB x.p) l 0)) [] 0:=
 ixf_fz (row:=Kp.l) (el:=fun p=> .agg p.l) mo Try.func74 i74_eq (by kernel_rfl) Kp.len Kp.bel rfl (fun _=>rfl) (fun a b h=>by simp only [AV.agg.injEq] at h;rw [Kp.inj h]) l hl (fun p hp=>w71 p (by rw [List.all_eq_true] at hf;exact hf p hp))
theorem w40 (l:List Kp) (hl:l.length<=9223372036854775807) (hf:l.all (fun x=>x.p.fin)=true):FTL Try.prog 40 [.fz (rows Kp.l l) l.length,.fn 71 []] [] 0 (.b (l.any fun x=> !mdB x.p)) [] 0:=
 cof_fz mo Try.func40 i40_eq (by kernel_rfl) (rows_bel Kp.bel) rfl (w74s l hl hf) (ixf_neg _ l 0 (by omega))
def k40:Ct
 |[.fz L m,.fn 71 []],_,n=>(unrows 11 kp11 m L).bind fun l=>some (decide (m<=9223372036854775807)&&l.all (fun x=>x.p.fin),{v:= .b (l.any fun x=> !mdB x.p),n})
 |_,_,_=>none
theorem s40:SoundAt Try.prog 40 k40:=fun args h n c E hc ht=>by
 unfold k40 at hc;split at hc
 ·simp only [Option.bind_eq_some_iff] at hc;obtain ⟨l,hl,he⟩:=hc;cases he;simp only [Bool.and_eq_true,decide_eq_true_eq] at ht;obtain ⟨rfl,hlm⟩:=unrows_eq (f:=Kp.l) (fun c a h=>kp11_eq h) hl;subst hlm;exact CallOK.pure (by kernel_rfl) (by simp only [belL,AV.bel,krB,Bool.and_self]) rfl (w40 l ht.1 ht.2) _ _
 ·cases hc
/-! Sound -/
def headH (h:Hs):Bool:=inI 0 TT h.ti&&(namesB h.ss h.ty h.nx&&decide (h.l.length<=64))
def akB (hat:Int) (x:Kp):Bool:=(x.ak== -1)||inI x.ti hat x.ak
def chH (hat lq:Int):Int->Int->List Kp->Bool
 |_,_,[]=>true
 |from_,ld,x::r=>inI from_ hat x.ti&&(akB hat x&&(inI (ld+1) 0 (lead x.p.sq lq)&&chH hat lq x.ti (lead x.p.sq lq) r))
def lastQ (l:List Kp):Int:=match l[l.length-1]? with
 |some x=>x.p.sq
 |none=>0
def goodH (h:Hs):Bool:=headH h&&(h.l.all (fun x=>mdB x.p)&&chH h.ti (lastQ h.l) 0 (-16385) h.l)
def frH (l:List Kp):Nat->Int
 |0=>0
 |k+1=>match l[k]? with
  |some x=>x.ti
  |none=>0
def ldH (lq:Int) (l:List Kp):Nat->Int
 |0=> -16385
 |k+1=>match l[k]? with
  |some x=>lead x.p.sq lq
  |none=>0
theorem ldH_rng (lq:Int) (l:List Kp) (k:Nat): -32768<=ldH lq l k/\ldH lq l k<=32767:=by
 unfold ldH;split
 ·omega
 ·split
  ·exact lead_rng _ _
  ·omega
theorem mdB_sq {p:Md} (h:mdB p=true):inI 0 65535 p.sq=true:=by
 simp only [mdB,mdPre,Bool.and_eq_true] at h;have:=inZ_iff.1 h.1.1.1.1.1.1.2;exact inI_of this
def TM35:List (Nat×Ct):=[(40,k40),(49,k49),(51,k51),(66,k66)]
theorem hTM35:Sound Try.prog (cxT TM35):=Sound.cons s40 (Sound.cons s49 (Sound.cons s51 (Sound.cons s66 Sound.nil)))
theorem w35 (hs:Hs) (hl:hs.l.length<=9223372036854775807) (hf:hs.l.all (fun x=>x.p.fin)=true):FTL Try.prog 35 [.agg hs.a] [] 0 (.i .i64 (if goodH hs then 0 else 281)) [] 0:=by
 have hgd:goodH hs=((inI 0 TT hs.ti&&(namesB hs.ss hs.ty hs.nx&&decide (hs.l.length<=64)))&&(hs.l.all (fun x=>mdB x.p)&&chH hs.ti (lastQ hs.l) 0 (-16385) hs.l)):=rfl;generalize goodH hs=gd at*;obtain ⟨ti,ss,ty,nx,l⟩:=hs;simp only [TT] at hgd;dsimp only at hl hf hgd;simp only [Hs.a];have hLb: ∀j,belL j (rows Kp.l l)=true:=fun j=>krB j l;have hany:(l.any fun x=> !mdB x.p)= !(l.all fun x=>mdB x.p):=by rw [List.any_eq_not_all_not];simp
 have n1:decide ((l.length:Int)>64)= !decide (l.length<=64):=by rw [Bool.eq_iff_iff];simp;omega
 have hll:decide (l.length<=9223372036854775807)=true:=decide_eq_true hl;have hk40: ∀(h:Hp) n,k40 [.fz (rows Kp.l l) l.length,.fn 71 []] h n=some (true,{v:= .b (!(l.all fun x=>mdB x.p)),n}):=fun h n=>by
  simp only [k40,kp_un,Option.bind_some,hll,hf,hany,Bool.and_self]
 refine FTL.of_iw hTM35 mo Try.func35 i35_eq (by simp [i35]) (iw_of_jw ?_)
 dsimp only [i35,TM35];cases a1:inI 0 1099511627776 ti
 ·simp (maxSteps:=400000) only [go_sem,k49,a1,simprocAttr];exact Ends.pureE rfl (by rw [hgd,a1];rfl)
 cases a2:namesB ss ty nx
 ·simp (maxSteps:=400000) only [go_sem,k49,k66,a1,a2,simprocAttr];exact Ends.pureE rfl (by rw [hgd,a1,a2];rfl)
 cases a3:decide (l.length<=64)
 ·simp (maxSteps:=400000) only [go_sem,k49,k66,a1,a2,n1,a3,simprocAttr];exact Ends.pureE rfl (by rw [hgd,a1,a2,a3];rfl)
 have hl64:=of_decide_eq_true a3;cases a4:l.all fun x=>mdB x.p
 ·rw [a4] at hk40;simp (maxSteps:=400000) only [go_sem,k49,k66,hk40,a1,a2,n1,a3,simprocAttr];exact Ends.pureE rfl (by rw [hgd,a1,a2,a3,a4];rfl)
 rw [a4] at hk40;rw [a1,a2,a3,a4] at hgd;simp only [Bool.true_and,Bool.and_self] at hgd;rw [List.all_eq_true] at a4;simp (maxSteps:=400000) only [go_sem,k49,k66,hk40,a1,a2,n1,a3,simprocAttr];refine Loop.countI (F:=⟨Try.prog,cxT TM35,[27,30,35,80],85,0⟩) hTM35 mo l.length (fun k=>gd=chH ti (lastQ l) (frH l k) (ldH (lastQ l) l k) (l.drop k))
  (fun k=>[(1,.p 0 0),(3,.i .i64 (frH l k)),(4,.i .i64 (ldH (lastQ l) l k)),(32,.fz (rows Kp.l l) l.length),(33,.i .i64 (l.length:Int)),(34,.i .i64 (k:Int))])
  (fun k=>[(0,{cells:=[.i .i64 ti,.i .i64 ss,.i .i64 ty,.i .i64 nx,.fz (rows Kp.l l) l.length]})]) 1 (by decide) hgd ?_ ?_ (fun k hk hinv=> ?_)
 ·simp (maxSteps:=400000) only [go_sem,frH,ldH,hLb,AV.bel,belL,nblt,simprocAttr]
 ·simp (maxSteps:=400000) only [go_sem,hLb,AV.bel,belL,nblt,simprocAttr]
 dsimp only [TM35];by_cases hlt:k<l.length
 ·have c1:decide ((k:Int)<(l.length:Int))=true:=decide_eq_true (by omega)
  have c2:decide (0<=(k:Int)/\(k:Int)<(l.length:Int))=true:=decide_eq_true (by omega)
  have hw:IntKind.i64.wrap ((k:Int)+1)=((k+1:Nat):Int):=by rw [wrapL (by omega) (by omega)];omega
  have hw2:IntKind.i64.wrap ((l.length:Int)-1)=((l.length-1:Nat):Int):=by rw [wrapL (by omega) (by omega)];omega
  have c3:decide (0<=((l.length-1:Nat):Int)/\((l.length-1:Nat):Int)<(l.length:Int))=true:=decide_eq_true (by omega)
  obtain ⟨x,hx⟩: ∃x,l[k]? =some x:=⟨_,List.getElem?_eq_getElem hlt⟩;obtain ⟨y,hy⟩: ∃y,l[l.length-1]? =some y:=⟨_,List.getElem?_eq_getElem (by omega)⟩
  have hr:=kp_at hx;have hry:(rows Kp.l l)[(l.length-1)*11+2]? =some (.i .i64 y.p.sq):=rows_get (f:=Kp.l) (z:=11) (j:=2) (v:= .i .i64 y.p.sq) Kp.len hy rfl;have hlq:lastQ l=y.p.sq:=by simp only [lastQ,hy]
  have hdr:l.drop k=x::l.drop (k+1):=by
   rw [List.drop_eq_getElem_cons hlt];rw [List.getElem?_eq_getElem hlt] at hx;cases hx;rfl
  have hxs:=mdB_sq (a4 x (List.mem_of_getElem? hx));have hys:=mdB_sq (a4 y (List.mem_of_getElem? hy));have hfs:frH l (k+1)=x.ti:=by simp only [frH,hx]
  have hls:ldH (lastQ l) l (k+1)=lead x.p.sq (lastQ l):=by simp only [ldH,hx]
  have hrg:=ldH_rng (lastQ l) l k;have hw3:IntKind.i64.wrap (ldH (lastQ l) l k+1)=ldH (lastQ l) l k+1:=wrapL (by omega) (by omega)
  rw [hfs,hls];rw [hdr] at hinv;simp only [chH] at hinv;generalize lastQ l=lq at*;subst hlq;generalize ldH y.p.sq l k=ld at*;generalize frH l k=fr at*;have hk51: ∀(h:Hp) n,k51 [.i .i64 x.p.sq,.i .i64 y.p.sq] h n=some (true,{v:= .i .i64 (lead x.p.sq y.p.sq),n}):=fun h n=>by simp only [k51,hxs,hys,Bool.and_self]
  generalize lead x.p.sq y.p.sq=d at*;have hak:akB ti x=((x.ak== -1)||inI x.ti ti x.ak):=rfl;have hB1:=csB 1 x.p.cs;have hB2:=xsB 1 x.p.xs;obtain ⟨⟨ma,pty,sq,tm,pss,cs,xs,pd,pl⟩,xt,xa⟩:=x;simp only [Kp.l] at hr;dsimp only at hinv hak hk51;cases b1:inI fr ti xt
  ·rw [b1] at hinv;simp (maxSteps:=400000) only [go_sem,c1,c2,c3,hr,hry,hw2,hk51,k49,b1,simprocAttr];exact Ends.pureE rfl (by rw [hinv];rfl)
  cases b2:(xa== -1)
  ·have b2':(xa != -1)=true:=by simp [bne,b2]
   cases b3:inI xt ti xa
   ·rw [b1,hak,b2,b3] at hinv;simp (maxSteps:=400000) only [go_sem,c1,c2,c3,hr,hry,hw2,hk51,k49,b1,b2',b3,simprocAttr];exact Ends.pureE rfl (by rw [hinv];rfl)
   cases b4:inI (ld+1) 0 d
   ·rw [b1,hak,b2,b3,b4] at hinv;simp (maxSteps:=400000) only [go_sem,c1,c2,c3,hr,hry,hw2,hw3,hk51,k49,b1,b2',b3,b4,simprocAttr];exact Ends.pureE rfl (by rw [hinv];rfl)
   rw [b1,hak,b2,b3,b4] at hinv;simp only [Bool.true_and,Bool.false_or,Bool.or_true] at hinv;simp (maxSteps:=400000) only [go_sem,c1,c2,c3,hr,hry,hw,hw2,hw3,hk51,k49,b1,b2',b3,b4,hlt,hLb,AV.bel,belL,nblt,simprocAttr];exact hinv
  ·have b2':(xa != -1)=false:=by simp [bne,b2]
   cases b4:inI (ld+1) 0 d
   ·rw [b1,hak,b2,b4] at hinv;simp (maxSteps:=400000) only [go_sem,c1,c2,c3,hr,hry,hw2,hw3,hk51,k49,b1,b2',b4,simprocAttr];exact Ends.pureE rfl (by rw [hinv];rfl)
   rw [b1,hak,b2,b4] at hinv;simp only [Bool.true_and,Bool.true_or] at hinv;simp (maxSteps:=400000) only [go_sem,c1,c2,c3,hr,hry,hw,hw2,hw3,hk51,k49,b1,b2',b4,hlt,hLb,AV.bel,belL,nblt,simprocAttr];exact hinv
 ·have c1:decide ((k:Int)<(l.length:Int))=false:=decide_eq_false (by omega)
  obtain rfl:k=l.length:=by omega
  rw [List.drop_length] at hinv;simp (maxSteps:=400000) only [go_sem,c1,simprocAttr];exact Ends.pureE rfl (by rw [hinv];rfl)
def k35:Ct
 |[.agg c],_,n=>(hsA c).bind fun h=>some (decide (h.l.length<=9223372036854775807)&&h.l.all (fun x=>x.p.fin),{v:= .i .i64 (if goodH h then 0 else 281),n})
 |_,_,_=>none
theorem s35:SoundAt Try.prog 35 k35:=fun args h n c E hc ht=>by
 unfold k35 at hc;split at hc
 ·simp only [Option.bind_eq_some_iff] at hc;obtain ⟨hs,hd,he⟩:=hc;cases he;rw [hsA_eq hd];simp only [Bool.and_eq_true,decide_eq_true_eq] at ht;exact CallOK.pure (by kernel_rfl) (by simp only [belL,AV.bel,Hs.bel,Bool.and_self]) rfl (w35 hs ht.1 ht.2) _ _
 ·cases hc
def goneK (now lq d:Int) (x:Kp):Bool:=decide (now-x.ti>2000)||decide (lead x.p.sq lq-d< -16384)
def okK (x:Kp):Bool:=inI 0 65535 x.p.sq&&inI 0 1099511627776 x.ti
def okN (lq now:Int):Bool:=inI 0 65535 lq&&inI 0 1099511627776 now
def TK8:List (Nat×Ct):=[(51,k51)]
theorem hTK8:Sound Try.prog (cxT TK8):=Sound.cons s51 Sound.nil
theorem w70 (now lq d:Int) (x:Kp) (hx:okK x=true) (ht:okN lq now=true) (hd:inI (-40000) 40000 d=true):
 FTL Try.prog 70 [.agg x.l,.fp [.i .i64 now] 0,.fp [.i .i64 lq] 0,.fp [.i .i64 d] 0] [] 0 (.b (goneK now lq d x)) [] 0:=by
 have hr:=lead_rng x.p.sq lq;have hd:=inI_t hd;simp only [okK,okN,Bool.and_eq_true] at hx ht;obtain ⟨hsq,hti⟩:=hx;obtain ⟨hlq,hnow⟩:=ht;have hti:=inI_t hti;have hnow:=inI_t hnow;have hg:goneK now lq d x=(decide (now-x.ti>2000)||decide (lead x.p.sq lq-d< -16384)):=rfl;have hk51: ∀(h:Hp) n,k51 [.i .i64 x.p.sq,.i .i64 lq] h n=some (true,{v:= .i .i64 (lead x.p.sq lq),n}):=fun h n=>by simp only [k51,hsq,hlq,Bool.and_self]
 generalize goneK now lq d x=G at*;generalize lead x.p.sq lq=ld at*;obtain ⟨⟨ma,pty,sq,tm,pss,cs,xs,pd,pl⟩,xt,xa⟩:=x;dsimp only at hsq hr hti hg hk51;have hw:IntKind.i64.wrap (now-xt)=now-xt:=wrapL (by omega) (by omega)
 have hw2:IntKind.i64.wrap (ld-d)=ld-d:=wrapL (by omega) (by omega)
 refine FTL.of_iw hTK8 mo Try.func70 i70_eq (by simp [i70]) (iw_of_jw ?_)
 dsimp only [i70,TK8];cases h:decide (now-xt>2000);all_goals
  simp (maxSteps:=400000) only [go_sem,Kp.l,hk51,hw,hw2,h,simprocAttr];exact Ends.pureE rfl (by rw [hg,h];rfl)
def k70:Ct
 |[.agg c,.p a 0,.p b 0,.p e 0],h,n=>(kp11 c).bind fun x=>(hget h a).bind fun ka=>(oneB ka).bind fun now=>(hget h b).bind fun kb=>(oneB kb).bind fun lq=>(hget h e).bind fun ke=>(oneB ke).bind fun d=>
  some (okK x&&okN lq now&&inI (-40000) 40000 d,{v:= .b (goneK now lq d x),n,rd:=[a,b,e]})
 |_,_,_=>none
theorem s70:SoundAt Try.prog 70 k70:=fun args h n c E hc ht=>by
 unfold k70 at hc;split at hc
 ·rename_i cc a b e;simp only [Option.bind_eq_some_iff] at hc;obtain ⟨x,hx,ka,hka,now,hnow,kb,hkb,lq,hlq,ke,hke,d,hd,he⟩:=hc;cases he;simp only [Bool.and_eq_true] at ht;rw [kp11_eq hx];refine CallOK.viewG (by kernel_rfl) (argsF:=[.agg x.l,.fp ka.cells 0,.fp kb.cells 0,.fp ke.cells 0]) ⟨VwV.same (by simp only [AV.bel,Kp.bel]),VwV.p (by simp [only,inl_cons,hka]) (by rw [oneB_eq hnow];rfl) (by rw [oneB_eq hnow]),VwV.p (by simp [only,inl_cons,hkb]) (by rw [oneB_eq hlq];rfl) (by rw [oneB_eq hlq]),VwV.p (by simp [only,inl_cons,hke]) (by rw [oneB_eq hd];rfl) (by rw [oneB_eq hd]),trivial⟩ rfl ?_
  rw [oneB_eq hnow,oneB_eq hlq,oneB_eq hd];exact w70 now lq d x ht.1.1 ht.1.2 ht.2
 ·cases hc
theorem w74 (now lq d:Int) (l:List Kp) (hl:l.length<=9223372036854775807) (hsq: ∀x∈l,okK x=true) (ht:okN lq now=true) (hd:inI (-40000) 40000 d=true):
 FTL Try.prog 74 [.fz (rows Kp.l l) l.length,.fn 70 [.fp [.i .i64 now] 0,.fp [.i .i64 lq] 0,.fp [.i .i64 d] 0]] [] 0 (.i .i64 (ixf (goneK now lq d) l 0)) [] 0:=
 ixf_fz (row:=Kp.l) (el:=fun x=> .agg x.l) mo Try.func74 i74_eq (by kernel_rfl) Kp.len Kp.bel rfl (fun _=>rfl) (fun a b h=>by simp only [AV.agg.injEq] at h;rw [Kp.inj h]) l hl (fun x hx=>w70 now lq d x (hsq x hx) ht hd)
def k74:Ct
 |[x,.fn 70 [.p a 0,.p b 0,.p e 0]],h,n=>vwK h 11 x fun rd m cs ok=>(unrows 11 kp11 m cs).bind fun l=>(hget h a).bind fun ka=>(oneB ka).bind fun now=>(hget h b).bind fun kb=>(oneB kb).bind fun lq=>(hget h e).bind fun ke=>(oneB ke).bind fun d=>
  some (ok&&decide (m<=9223372036854775807)&&l.all (fun x=>okK x)&&okN lq now&&inI (-40000) 40000 d,{v:= .i .i64 (ixf (goneK now lq d) l 0),n,rd:=a::b::e::rd})
 |_,_,_=>none
theorem s74:SoundAt Try.prog 74 k74:=fun args h n c E hc ht=>by
 unfold k74 at hc;split at hc
 ·rename_i x a b e;rw [vwK_eq] at hc;simp only [Option.bind_eq_some_iff] at hc;obtain ⟨⟨rd,m,cs,ok⟩,hv,l,hl,ka,hka,now,hnow,kb,hkb,lq,hlq,ke,hke,d,hd,he⟩:=hc;cases he;simp only [Bool.and_eq_true,decide_eq_true_eq,List.all_eq_true] at ht;obtain ⟨⟨⟨⟨rfl,hm⟩,h1⟩,h2⟩,h3⟩:=ht;obtain ⟨rfl,hlm⟩:=unrows_eq (f:=Kp.l) (fun c a h=>kp11_eq h) hl;subst hlm;refine CallOK.viewG (by kernel_rfl) (argsF:=[.fz (rows Kp.l l) l.length,.fn 70 [.fp ka.cells 0,.fp kb.cells 0,.fp ke.cells 0]]) ⟨vwK_sub hv (rows_bel Kp.bel) (fun c hc=>by simp [inl_cons,hc]),VwV.fn ⟨VwV.p (by simp [only,inl_cons,hka]) (by rw [oneB_eq hnow];rfl) (by rw [oneB_eq hnow]),VwV.p (by simp [only,inl_cons,hkb]) (by rw [oneB_eq hlq];rfl) (by rw [oneB_eq hlq]),VwV.p (by simp [only,inl_cons,hke]) (by rw [oneB_eq hd];rfl) (by rw [oneB_eq hd]),trivial⟩,trivial⟩ rfl ?_
  rw [oneB_eq hnow,oneB_eq hlq,oneB_eq hd];exact w74 now lq d l hm (fun x hx=>h1 x hx) h2 h3
 ·cases hc
/-! Clone and DeleteFunc -/
theorem w92_0 (L:List AV):FTL Try.prog 92 [.fz L 0] [] 0 .ze [] 0:=cln_0 mo Try.func92 (z:=11) (bytes:=128) (zs:=[.b false,.i .i64 0,.i .i64 0,.i .i64 0,.i .i64 0,.ns,.ns,.i .i64 0,.s [],.i .i64 0,.i .i64 0]) i92_eq L
theorem w92_1 (x:Kp) (l:List Kp) (hl:l.length<=1000000000):FTL Try.prog 92 [.fz (rows Kp.l (x::l)) (l.length+1)] [] 0 (.sg 0 0 (l.length+1)) [(0,{cells:=rows Kp.l (x::l),gr:=some 11})] 1:=
 cln_1 mo Try.func92 (z:=11) (bytes:=128) (zs:=[.b false,.i .i64 0,.i .i64 0,.i .i64 0,.i .i64 0,.ns,.ns,.i .i64 0,.s [],.i .i64 0,.i .i64 0]) i92_eq (by rw [rows_len Kp.len];rfl) (rows_one1 Kp.one _) (rows_bel Kp.bel) (by simp only [growMax];omega)
def k92:Ct
 |[.fz L m],_,n=>(unrows 11 kp11 m L).bind fun l=>match l with
  |[]=>some (true,{v:= .ze,n})
  |x::r=>some (decide (r.length<=1000000000),{v:= .sg n 0 (r.length+1),n:=n+1,nw:=[(n,{cells:=rows Kp.l (x::r),gr:=some 11})]})
 |[.ns],_,n=>some (true,{v:= .ze,n})
 |_,_,_=>none
theorem s92:SoundAt Try.prog 92 k92:=fun args h n c E hc ht=>by
 unfold k92 at hc;split at hc
 ·rename_i L m;simp only [Option.bind_eq_some_iff] at hc;obtain ⟨l,hl,hc⟩:=hc;obtain ⟨rfl,hm⟩:=unrows_eq (f:=Kp.l) (fun c a h=>kp11_eq h) hl;subst hm;split at hc
  ·cases hc;exact CallOK.pure (by kernel_rfl) rfl rfl (w92_0 _) _ _
  ·rename_i x r;cases hc;have:=CallOK.new1 (h:=h) (n:=n) (by kernel_rfl) (by simp only [belL,AV.bel,rows_bel Kp.bel,Bool.and_self]) (rows_bel Kp.bel) rfl (w92_1 x r (of_decide_eq_true ht))
   simpa [AV.ren] using this
 ·cases hc;exact CallOK.pure (by kernel_rfl) rfl rfl (FTL.wkaH Wka.ns (w92_0 [])) _ _
 ·cases hc
def TK9:List (Nat×Ct):=[(70,k70),(74,k74)]
theorem hTK9:Sound Try.prog (cxT TK9):=Sound.cons s70 (Sound.cons s74 Sound.nil)
def keepK (now lq d:Int) (l:List Kp):List Kp:=l.filter fun x=> !goneK now lq d x
theorem w69 (now lq d:Int) (l:List Kp) (hl:l.length<=1000000000) (hsq: ∀x∈l,okK x=true) (ht:okN lq now=true) (hd:inI (-40000) 40000 d=true):
 FTL Try.prog 69 [.sg 0 0 l.length,.fn 70 [.p 1 0,.p 2 0,.p 3 0]] (dlH 11 (rows Kp.l l) now lq d) 4 (.sg 0 0 (keepK now lq d l).length) (dlH 11 (rows Kp.l (keepK now lq d l)) now lq d) 4:=by
 have h64: ∀(h:Hp) (k:List Nat->Nat->List AV->Bool->Option (Bool×Eff)),hget h 0=some {cells:=rows Kp.l l,gr:=some 11}->vwK h 11 (.sg 0 0 l.length) k=k [0] l.length (rows Kp.l l) true:=fun h k hh=>by
  have hlen:(rows Kp.l l).length=l.length*11:=rows_len Kp.len;simp only [vwK_g,hh,Option.bind_some,pln_n,cellsAt,List.drop_zero];rw [List.take_of_length_le (by omega),decide_eq_true hlen]
 have hall:l.all (fun x=>okK x)=true:=List.all_eq_true.2 hsq;refine del_fz (cx:=cxT TK9) (row:=Kp.l) (p:=goneK now lq d) (z:=11) (zs:=[.b false,.i .i64 0,.i .i64 0,.i .i64 0,.i .i64 0,.ns,.ns,.i .i64 0,.s [],.i .i64 0,.i .i64 0]) (ix:=74) (g:=70) (rd0:=[1,2,3,0]) (rd1:=[1,2,3]) hTK9 mo Try.func69 i69_eq (by decide) Kp.len Kp.bel Kp.one rfl rfl rfl l hl ?_ (fun x hx L k=> ?_)
 ·simp only [TK9,cxT_cons,Nat.reduceEqDiff,if_false,if_true,k74];rw [h64 _ _ rfl];simp only [kp_un,Option.bind_some,dlH,hget_cons,int1,oneB,Nat.reduceEqDiff,if_false,if_true,hall,ht,hd,Bool.and_true,Bool.true_and];rw [decide_eq_true (by omega:l.length<=9223372036854775807)]
 ·have h1:=hsq x hx;simp only [TK9,cxT_cons,k70,kp11_l,Option.bind_some,dlH,hget_cons,int1,oneB,Nat.reduceEqDiff,if_false,if_true,h1,ht,hd,Bool.and_self]
theorem w69z (now lq d:Int) (ht:okN lq now=true) (hd:inI (-40000) 40000 d=true):
 FTL Try.prog 69 [.ze,.fn 70 [.p 0 0,.p 1 0,.p 2 0]] [(0,{cells:=int1 now}),(1,{cells:=int1 lq}),(2,{cells:=int1 d})] 3 .ze [(0,{cells:=int1 now}),(1,{cells:=int1 lq}),(2,{cells:=int1 d})] 3:=by
 refine FTL.of_iw hTK9 mo Try.func69 i69_eq (by simp [i69]) (iw_of_jw ?_)
 dsimp only [i69,TK9];have h64: ∀n,k74 [.ze,.fn 70 [.p 0 0,.p 1 0,.p 2 0]] [(0,{cells:=int1 now}),(1,{cells:=int1 lq}),(2,{cells:=int1 d})] n=some (true,{v:= .i .i64 (-1),n,rd:=[0,1,2]}):=fun n=>by
  simp only [k74,vwK_z,unrows,Option.bind_some,hget_cons,int1,oneB,Nat.reduceEqDiff,if_false,if_true,ht,hd,List.all_nil,Bool.and_true,Bool.true_and];rfl
 simp (maxSteps:=400000) only [go_sem,h64,simprocAttr];refine Ends.keepL rfl rfl ?_;exact ⟨rfl,rfl,by decide,rfl,rfl,by decide,rfl,rfl,by decide,trivial⟩
def k69:Ct
 |[.sg b 0 m,.fn 70 [.p a1 0,.p a2 0,.p a3 0]],h,n=>(hget h b).bind fun k=>(unrows 11 kp11 m k.cells).bind fun l=>(hget h a1).bind fun ka=>(oneB ka).bind fun now=>(hget h a2).bind fun kb=>(oneB kb).bind fun lq=>(hget h a3).bind fun ke=>(oneB ke).bind fun d=>
  (match k with
  |⟨_,false,some 11,none,none⟩=>some (decide (m<=1000000000)&&l.all (fun x=>okK x)&&okN lq now&&inI (-40000) 40000 d&& !(Nat.beq b a1)&& !(Nat.beq b a2)&& !(Nat.beq b a3)&& !(Nat.beq a1 a2)&& !(Nat.beq a1 a3)&& !(Nat.beq a2 a3),
   {v:= .sg b 0 (keepK now lq d l).length,n:=n+4,rd:=[b,a1,a2,a3],md:=[(b,some {cells:=rows Kp.l (keepK now lq d l),gr:=some 11})]})
  |_=>none)
 |[.ze,.fn 70 [.p a1 0,.p a2 0,.p a3 0]],h,n=>(hget h a1).bind fun ka=>(oneB ka).bind fun now=>(hget h a2).bind fun kb=>(oneB kb).bind fun lq=>(hget h a3).bind fun ke=>(oneB ke).bind fun d=>
  some (okN lq now&&inI (-40000) 40000 d&& !(Nat.beq a1 a2)&& !(Nat.beq a1 a3)&& !(Nat.beq a2 a3),{v:= .ze,n,rd:=[a1,a2,a3]})
 |_,_,_=>none
theorem s69:SoundAt Try.prog 69 k69:=fun args h n c E hc ht=>by
 unfold k69 at hc;split at hc
 ·rename_i b m a1 a2 a3;simp only [Option.bind_eq_some_iff] at hc;obtain ⟨k,hk,l,hl,ka,hka,now,hnow,kb,hkb,lq,hlq,ke,hke,d,hd,he⟩:=hc;split at he
  ·rename_i cells;cases he;simp only [Bool.and_eq_true,decide_eq_true_eq,List.all_eq_true] at ht;obtain ⟨⟨⟨⟨⟨⟨⟨⟨⟨hm,h1⟩,h2⟩,h3⟩,d1⟩,d2⟩,d3⟩,d4⟩,d5⟩,d6⟩:=ht;obtain ⟨hcs,hlm⟩:=unrows_eq (f:=Kp.l) (fun c a h=>kp11_eq h) hl;subst hlm;dsimp only at hcs;subst hcs;rw [oneB_eq hnow] at hka;rw [oneB_eq hlq] at hkb;rw [oneB_eq hd] at hke;exact CallOK.del (by kernel_rfl) Kp.bel (w69 now lq d l hm (fun x hx=>h1 x hx) h2 h3) hk hka hkb hke ⟨⟨nbf d1,nbf d2,nbf d3⟩,nbf d4,nbf d5,nbf d6⟩
  ·cases he
 ·rename_i a1 a2 a3;simp only [Option.bind_eq_some_iff] at hc;obtain ⟨ka,hka,now,hnow,kb,hkb,lq,hlq,ke,hke,d,hd,he⟩:=hc;cases he;simp only [Bool.and_eq_true] at ht;obtain ⟨⟨⟨⟨h2,h3⟩,d4⟩,d5⟩,d6⟩:=ht;have d4:=nbf d4;have d5:=nbf d5;have d6:=nbf d6;rw [oneB_eq hnow] at hka;rw [oneB_eq hlq] at hkb;rw [oneB_eq hd] at hke;have hm: ∀{c:Nat} {kk:Blk},hget [(0,({cells:=int1 now}:Blk)),(1,{cells:=int1 lq}),(2,{cells:=int1 d})] c=some kk->(c=0/\kk={cells:=int1 now})\/(c=1/\kk={cells:=int1 lq})\/(c=2/\kk={cells:=int1 d}):=fun hh=>by
   have:=hget_mem hh;simpa using this
  refine CallOK.readL (argsL:=[.ze,.fn 70 [.p 0 0,.p 1 0,.p 2 0]]) (hL:=[(0,{cells:=int1 now}),(1,{cells:=int1 lq}),(2,{cells:=int1 d})]) (k:=3) (fun i=>if i=0 then a1 else if i=1 then a2 else a3) (by kernel_rfl) rfl rfl (w69z now lq d h2 h3) (fun i hi'=> ?_) (fun i kk hh=> ?_) (fun i kk hh=> ?_) (fun i1 i2 k1 k2 q1 q2 _ e=> ?_) _ rfl
  ·match i,hi' with
   |0,_=>exact ⟨_,rfl⟩
   |1,_=>exact ⟨_,rfl⟩
   |2,_=>exact ⟨_,rfl⟩
  ·rcases hm hh with ⟨rfl,rfl⟩|⟨rfl,rfl⟩|⟨rfl,rfl⟩<;>exact ⟨by decide,rfl⟩
  ·rcases hm hh with ⟨rfl,rfl⟩|⟨rfl,rfl⟩|⟨rfl,rfl⟩
   ·exact hka
   ·exact hkb
   ·exact hke
  ·rcases hm q1 with ⟨rfl,rfl⟩|⟨rfl,rfl⟩|⟨rfl,rfl⟩<;>rcases hm q2 with ⟨rfl,_⟩|⟨rfl,_⟩|⟨rfl,_⟩<;>simp at e<;>first|rfl|(subst e;simp at*)
 ·cases hc
def finH (h:Hs):Bool:=h.l.all (fun x=>x.p.fin&&decide (x.p.pl.length<=1000000000000))
theorem finH_f {h:Hs} (hf:finH h=true):h.l.all (fun x=>x.p.fin)=true:=by
 simp only [finH,List.all_eq_true,Bool.and_eq_true] at hf ⊢;exact fun x hx=>(hf x hx).1
def lateH (h:Hs) (now:Int):Int:=bif goodH h then (bif inI h.ti 1099511627776 now then 0 else 2) else 281
theorem lateH_0 {h:Hs} {now:Int} (e:lateH h now=0):goodH h=true/\inI h.ti 1099511627776 now=true:=by
 unfold lateH at e;cases hg:goodH h
 ·rw [hg] at e;simp at e
 ·cases hi:inI h.ti 1099511627776 now
  ·rw [hg,hi] at e;simp at e
  ·exact ⟨rfl,rfl⟩
theorem goodH_len {h:Hs} (e:goodH h=true):h.l.length<=64:=by
 simp only [goodH,headH,Bool.and_eq_true,decide_eq_true_eq] at e;exact e.1.2.2
/-! start -/
def TM67:List (Nat×Ct):=[(35,k35),(49,k49),(92,k92)]
theorem hTM67:Sound Try.prog (cxT TM67):=Sound.cons s35 (Sound.cons s49 (Sound.cons s92 Sound.nil))
theorem w67e (h:Hs) (now:Int) (hl:h.l.length<=9223372036854775807) (hf:finH h=true) (he:lateH h now≠0):FTL Try.prog 67 [.agg h.a,.i .i64 now] [] 0 (.tup [.np,.i .i64 (lateH h now)]) [] 0:=by
 have hha:=hsA_a h;have hll:decide (h.l.length<=9223372036854775807)=true:=decide_eq_true hl;replace hf:=finH_f hf;have hk: ∀(hp:Hp) n,k35 [.agg h.a] hp n=some (true,{v:= .i .i64 (if goodH h then 0 else 281),n}):=fun hp n=>by simp only [k35,hha,Option.bind_some,hll,hf,Bool.and_self]
 have hR:lateH h now=bif goodH h then (bif inI h.ti 1099511627776 now then 0 else 2) else 281:=rfl
 generalize lateH h now=R at*;generalize goodH h=g at*;obtain ⟨ti,ss,ty,nx,l⟩:=h;dsimp only at hR;simp only [Hs.a] at hk ⊢;refine FTL.of_iw hTM67 mo Try.func67 i67_eq (by simp [i67]) (iw_of_jw ?_)
 dsimp only [i67,TM67];cases g
 ·simp only [Bool.false_eq_true,if_false] at hk;simp (maxSteps:=400000) only [go_sem,hk,simprocAttr];exact Ends.pureE rfl (by rw [hR];rfl)
 ·simp only [if_true] at hk;cases a1:inI ti 1099511627776 now
  ·rw [a1] at hR;simp (maxSteps:=400000) only [go_sem,hk,k49,a1,simprocAttr];exact Ends.pureE rfl (by rw [hR];rfl)
  ·exact absurd (by rw [hR,a1];rfl) he
def stC0 (h:Hs) (now:Int) (v:AV):List AV:=[.i .i64 now,.i .i64 h.ss,.i .i64 h.ty,.i .i64 h.nx,v]
theorem w67n (h:Hs) (now:Int) (h0:h.l=[]) (he:lateH h now=0):FTL Try.prog 67 [.agg h.a,.i .i64 now] [] 0 (.tup [.p 0 0,.i .i64 0]) [(0,{cells:=stC0 h now .ze})] 1:=by
 have hha:=hsA_a h;obtain ⟨hg,a1⟩:=lateH_0 he;have hk: ∀(hp:Hp) n,k35 [.agg h.a] hp n=some (true,{v:= .i .i64 0,n}):=fun hp n=>by simp only [k35,hha,Option.bind_some,hg,h0,List.length_nil,List.all_nil,if_true];rfl
 obtain ⟨ti,ss,ty,nx,l⟩:=h;dsimp only at h0 a1;subst h0;simp only [Hs.a,stC0,List.length_nil] at hk ⊢;refine FTL.of_iw hTM67 mo Try.func67 i67_eq (by simp [i67]) (iw_of_jw ?_)
 dsimp only [i67,TM67];have h92: ∀(h:Hp) n,k92 [.fz (rows Kp.l []) 0] h n=some (true,{v:= .ze,n}):=fun _ _=>rfl;simp (maxSteps:=400000) only [go_sem,hk,k49,a1,h92,simprocAttr];refine Ends.R [(0,1)] ?_ ?_ ?_ ?_ ?_
 ·decide
 ·decide
 ·simp (maxSteps:=400000) only [go_sem,AV.ren,renL,AV.bel,belL,nblt,simprocAttr]
 ·simp (maxSteps:=400000) only [go_sem,AV.ren,renL,AV.bel,belL,nblt,simprocAttr]
 ·simp (maxSteps:=400000) only [go_sem,AV.ren,renL,AV.bel,belL,nblt,Blk.ren,simprocAttr]
theorem w67s (h:Hs) (now:Int) (hf:finH h=true) (x:Kp) (r:List Kp) (h0:h.l=x::r) (he:lateH h now=0):FTL Try.prog 67 [.agg h.a,.i .i64 now] [] 0 (.tup [.p 0 0,.i .i64 0]) [(0,{cells:=stC0 h now (.sg 1 0 h.l.length)}),(1,{cells:=rows Kp.l h.l,gr:=some 11})] 2:=by
 have hha:=hsA_a h;obtain ⟨hg,a1⟩:=lateH_0 he;have hl64:=goodH_len hg;have hll:decide (h.l.length<=9223372036854775807)=true:=decide_eq_true (by omega)
 replace hf:=finH_f hf;have hk: ∀(hp:Hp) n,k35 [.agg h.a] hp n=some (true,{v:= .i .i64 0,n}):=fun hp n=>by simp only [k35,hha,Option.bind_some,hg,hll,hf,if_true,Bool.and_self]
 have hu:=kp_un h.l;obtain ⟨ti,ss,ty,nx,l⟩:=h;dsimp only at h0 a1 hl64 hu;subst h0;simp only [Hs.a,stC0] at hk ⊢;have hrl:decide (r.length<=1000000000)=true:=decide_eq_true (by simp at hl64;omega)
 have h92: ∀(h:Hp) n,k92 [.fz (rows Kp.l (x::r)) (x::r).length] h n=some (true,{v:= .sg n 0 (x::r).length,n:=n+1,nw:=[(n,{cells:=rows Kp.l (x::r),gr:=some 11})]}):=fun h n=>by
  simp only [k92,hu,Option.bind_some,hrl];rfl
 generalize x::r=l at*;refine FTL.of_iw hTM67 mo Try.func67 i67_eq (by simp [i67]) (iw_of_jw ?_)
 dsimp only [i67,TM67];simp (maxSteps:=400000) only [go_sem,hk,k49,a1,h92,simprocAttr];refine Ends.R [(0,1),(1,2)] ?_ ?_ ?_ ?_ ?_
 ·decide
 ·decide
 ·simp (maxSteps:=400000) only [go_sem,AV.ren,renL,AV.bel,belL,nblt,simprocAttr]
 ·simp (maxSteps:=400000) only [go_sem,AV.ren,renL,AV.bel,belL,nblt,simprocAttr]
 ·simp (maxSteps:=400000) only [go_sem,AV.ren,renL,AV.bel,belL,nblt,Blk.ren,krB,krR,simprocAttr]
mutual
theorem inR_of {R:List Nat}: ∀v:AV,v.bel 0=true->v.inR R=true
 | .p b _,h=>absurd (blt_lt h) (Nat.not_lt_zero _)
 | .sl b _ _ _,h=>absurd (blt_lt h) (Nat.not_lt_zero _)
 | .sg b _ _,h=>absurd (blt_lt h) (Nat.not_lt_zero _)
 | .m b,h=>absurd (blt_lt h) (Nat.not_lt_zero _)
 | .fn _ l,h=>inRL_of l h
 | .bm _ l,h=>inRL_of l h
 | .agg l,h=>inRL_of l h
 | .tup l,h=>inRL_of l h
 | .b _,_=>rfl
 | .i _ _,_=>rfl
 | .s _,_=>rfl
 | .np,_=>rfl
 | .ns,_=>rfl
 | .nf,_=>rfl
 | .ni,_=>rfl
 | .fz l _,h=>inRL_of l h
 | .fp l _,h=>inRL_of l h
 | .ze,_=>rfl
 | .en,_=>rfl
 | .any,_=>rfl
 | .k _ _,_=>rfl
 | .nm,_=>rfl
 | .yl _ _ _ l,h=>inRL_of l h
theorem inRL_of {R:List Nat}: ∀l:List AV,belL 0 l=true->inRL R l=true
 |[],_=>rfl
 |a::l,h=>by
  simp only [belL,Bool.and_eq_true] at h;simp only [inRL,inR_of a h.1,inRL_of l h.2,Bool.and_self]
end
def k67:Ct
 |[.agg c,.i .i64 now],_,n=>(hsA c).bind fun h=>if lateH h now=0 then (match h.l with
  |[]=>some (true,{v:= .tup [.p n 0,.i .i64 0],n:=n+1,nw:=[(n,{cells:=stC0 h now .ze})]})
  |x::r=>some (finH h,{v:= .tup [.p n 0,.i .i64 0],n:=n+2,nw:=[(n,{cells:=stC0 h now (.sg (n+1) 0 h.l.length)}),(n+1,{cells:=rows Kp.l h.l,gr:=some 11})]}))
  else some (decide (h.l.length<=9223372036854775807)&&finH h,{v:= .tup [.np,.i .i64 (lateH h now)],n})
 |_,_,_=>none
theorem s67:SoundAt Try.prog 67 k67:=fun args h n c E hc ht=>by
 unfold k67 at hc;split at hc
 ·rename_i cc now;simp only [Option.bind_eq_some_iff] at hc;obtain ⟨hs,hd,hc⟩:=hc;rw [hsA_eq hd];have hb:belL 0 [AV.agg hs.a,AV.i .i64 now]=true:=by simp only [belL,AV.bel,Hs.bel,Bool.and_self]
  split at hc
  ·rename_i h0;split at hc
   ·rename_i hl;cases hc;have:=CallOK.new1 (h:=h) (n:=n) (by kernel_rfl) hb rfl rfl (w67n hs _ hl h0)
    simpa [AV.ren,renL] using this
   ·rename_i x r hl;cases hc;have hft:=w67s hs now ht x r hl h0;have ha:renL (idx []) [AV.agg hs.a,AV.i .i64 now]=[AV.agg hs.a,AV.i .i64 now]:=renL_fix0 _ hb;rw [<-ha] at hft;refine CallOK.cast (call_sound (args:=[AV.agg hs.a,AV.i .i64 now]) (h:=h) (n:=n) (R:=[]) (hL:=[]) (by kernel_rfl) rfl ?_ rfl hft (by decide) ?_) rfl ?_
    ·exact inRL_of _ hb
    ·simp only [hOK,stC0,belL,AV.bel,krB,roSame,nblt,Bool.and_self,Bool.and_true];rfl
    ·simp [chi,nwOf,mdOf,stC0,AV.ren,renL,Blk.ren,krR,Nat.blt];rfl
  ·rename_i h0;cases hc;simp only [Bool.and_eq_true,decide_eq_true_eq] at ht;exact CallOK.pure (by kernel_rfl) hb rfl (w67e hs _ ht.1 ht.2 h0) _ _
 ·cases hc
def zH:Hs:=⟨0,0,0,0,[]⟩
def stepK (h:Hs) (p:Md):Int:=bif decide (0<h.l.length) then lead p.sq (lastQ h.l) else 0
def cut64 (q:List Kp):List Kp:=bif q.length==64 then q.drop 1 else q
def keptL (h:Hs) (now:Int) (p:Md):List Kp:=cut64 (keepK now (lastQ h.l) (stepK h p) h.l)++[⟨p,now,-1⟩]
def keepS (h:Hs) (now:Int) (p:Md):Hs×Int:=
 if lateH h now=0 then
  bif mdB p then bif decide (0<h.l.length)&&decide (lead p.sq (lastQ h.l)<=0) then (zH,10) else (⟨now,h.ss,h.ty,h.nx,keptL h now p⟩,0)
  else (zH,230)
 else (zH,lateH h now)
def rsH (r:Hs×Int):AV:= .tup [.agg r.1.a,.i .i64 r.2]
theorem rsH_bel (r:Hs×Int):(rsH r).bel 0=true:=by simp only [rsH,AV.bel,belL,Hs.bel,Bool.and_self]
theorem covH_n {ti ss ty nx e:Int} {h:Hp} {n:Nat}:CovS 0 (.tup [.agg [.i .i64 ti,.i .i64 ss,.i .i64 ty,.i .i64 nx,.ns],.i .i64 e]) h n (rsH (⟨ti,ss,ty,nx,[]⟩,e)) [] 0:=by
 refine CovS.frzN (l:=[]) (v':=rsH (⟨ti,ss,ty,nx,[]⟩,e)) (FzV.tup ⟨FzV.agg ⟨FzV.refl,FzV.refl,FzV.refl,FzV.refl,FzV.hit,trivial⟩,FzV.refl,trivial⟩) ?_;exact CovS.ends (Ends.pureE rfl rfl)
theorem covH_g {ti ss ty nx e:Int} {h:Hp} {n j m:Nat} {C:List AV} {l:List Kp} (hk:hget h j=some {cells:=C,gr:=some 11}) (hC:C=rows Kp.l l) (hm:m=l.length):CovS 0 (.tup [.agg [.i .i64 ti,.i .i64 ss,.i .i64 ty,.i .i64 nx,.sg j 0 m],.i .i64 e]) h n (rsH (⟨ti,ss,ty,nx,l⟩,e)) [] 0:=by
 subst hC hm;refine CovS.frz (b:=j) (k:={cells:=rows Kp.l l,gr:=some 11}) (h':=[]) (o:=0) (m:=l.length) (cs:=rows Kp.l l) (v':=rsH (⟨ti,ss,ty,nx,l⟩,e)) hk rfl (.inr rfl) (.inl rfl) (FzV.tup ⟨FzV.agg ⟨FzV.refl,FzV.refl,FzV.refl,FzV.refl,FzV.hit,trivial⟩,FzV.refl,trivial⟩) (fun c kk hc=>by simp [hget] at hc) ?_
 exact CovS.ends (Ends.pureE (rsH_bel _) rfl)
theorem rows_drop {α:Type} {f:α->List AV} {z:Nat} (hf: ∀a,(f a).length=z): ∀(l:List α) (m:Nat),(rows f l).drop (m*z)=rows f (l.drop m)
 |[],m=>by simp [rows]
 |a::l,0=>by simp [rows]
 |a::l,m+1=>by
  have e:rows f (a::l)=f a++rows f l:=rfl;rw [List.drop_succ_cons,e,<-rows_drop hf l m,List.drop_append];have h1:List.drop ((m+1)*z) (f a)=[]:=List.drop_of_length_le (by rw [hf,Nat.succ_mul];omega)
  have h2:(m+1)*z-(f a).length=m*z:=by rw [hf,Nat.succ_mul];omega
  rw [h1,h2,List.nil_append]
def TM33:List (Nat×Ct):=[(51,k51),(67,k67),(68,k68),(69,k69)]
theorem hTM33:Sound Try.prog (cxT TM33):=Sound.cons s51 (Sound.cons s67 (Sound.cons s68 (Sound.cons s69 Sound.nil)))
theorem goodH_k {h:Hs} {now:Int} (e:lateH h now=0):h.l.all okK=true/\inI 0 1099511627776 now=true/\inI 0 65535 (lastQ h.l)=true:=by
 obtain ⟨hg,hn⟩:=lateH_0 e;simp only [goodH,headH,Bool.and_eq_true] at hg;obtain ⟨⟨h1,h2,h3⟩,h4,h5⟩:=hg;have hn:=inI_t hn;have h1:=inI_t h1;simp only [TT] at h1;rw [List.all_eq_true] at h4;have key: ∀(l:List Kp) (f ld lq:Int),0<=f->chH h.ti lq f ld l=true-> ∀x∈l,0<=x.ti/\x.ti<=h.ti:=by
  intro l;induction l with
  |nil=>intro f ld lq hf hc x hx;cases hx
  |cons y r ih=>
   intro f ld lq hf hc x hx;simp only [chH,Bool.and_eq_true] at hc;have:=inI_t hc.1;rcases List.mem_cons.1 hx with rfl|hx
   ·omega
   ·exact ih _ _ _ (by omega) hc.2.2.2 x hx
 refine ⟨List.all_eq_true.2 (fun x hx=> ?_),inI_of (by omega),?_⟩
 ·have:=key _ _ _ _ (Int.le_refl _) h5 x hx;simp only [okK,mdB_sq (h4 x hx),Bool.true_and];exact inI_of (by omega)
 ·unfold lastQ;split
  ·rename_i x hx;exact mdB_sq (h4 x (List.mem_of_getElem? hx))
  ·rfl
theorem w33 (hs:Hs) (now:Int) (p:Md) (hl:hs.l.length<=9223372036854775807) (hf:finH hs=true) (hpf:p.fin=true):FTL Try.prog 33 [.agg hs.a,.i .i64 now,.agg p.l] [] 0 (rsH (keepS hs now p)) [] 0:=by
 have hha:=hsA_a hs;have hll:decide (hs.l.length<=9223372036854775807)=true:=decide_eq_true hl;have h9:=md9_l p;have hk68: ∀(h:Hp) n,k68 [.agg p.l] h n=some (true,{v:= .i .i64 (if mdB p then 0 else 230),n}):=fun h n=>by
  simp only [k68,h9,Option.bind_some,hpf]
 have hgk:=goodH_k (h:=hs) (now:=now);have hg64:lateH hs now=0->hs.l.length<=64:=fun h=>goodH_len (lateH_0 h).1;generalize hRR:keepS hs now p=R;unfold keepS keptL stepK at hRR;have hk67: ∀(h:Hp) n,k67 [.agg hs.a,.i .i64 now] h n=if lateH hs now=0 then (match hs.l with
  |[]=>some (true,{v:= .tup [.p n 0,.i .i64 0],n:=n+1,nw:=[(n,{cells:=stC0 hs now .ze})]})
  |x::r=>some (true,{v:= .tup [.p n 0,.i .i64 0],n:=n+2,nw:=[(n,{cells:=stC0 hs now (.sg (n+1) 0 hs.l.length)}),(n+1,{cells:=rows Kp.l hs.l,gr:=some 11})]}))
  else some (true,{v:= .tup [.np,.i .i64 (lateH hs now)],n}):=fun h n=>by
  simp only [k67,hha,Option.bind_some,hf,hll,Bool.and_self]<;>rfl
 generalize lateH hs now=E at*;have hmq:=fun h=>mdB_sq (p:=p) h;generalize mdB p=mb at*;obtain ⟨ti,ss,ty,nx,l⟩:=hs;obtain ⟨ma,pty,sq,tm,pss,cs,xs,pd,pl⟩:=p;dsimp only at hRR hl hg64 hgk hk67 hmq;simp only [Hs.a,Md.l,stC0] at hk67 hk68 ⊢;refine FTL.of_cov (cx:=cxT TM33) hTM33 mo Try.func33 i33_eq (by simp [i33]) (iw_of_jw ?_)
 dsimp only [i33,TM33];by_cases hE:E=0
 rotate_left
 ·have e1:(E !=0)=true:=by simp [bne,hE]
  rw [if_neg hE] at hRR;simp only [if_neg hE] at hk67;simp (maxSteps:=400000) only [go_sem,hk67,e1,simprocAttr];rw [<-hRR];exact covH_n
 subst hE;simp only [if_true] at hk67 hRR;obtain ⟨hok,hnow,hlq⟩:=hgk rfl;have hl64:=hg64 rfl;have hcB: ∀j,belL j (rows int1 cs)=true:=fun j=>csB j cs;have hxB: ∀j,belL j (rows xtR xs)=true:=fun j=>xsB j xs;cases l with
 |nil=>
  simp only [List.length_nil] at hk67 hRR;cases mb
  ·simp only [Bool.false_eq_true,if_false] at hk68;simp (maxSteps:=400000) only [go_sem,hk67,hk68,simprocAttr];rw [<-hRR];exact covH_n
  simp only [if_true] at hk68;have hq:okN 0 now=true:=by simp only [okN,hnow,Bool.and_true];rfl
  have h0:inI (-40000) 40000 0=true:=rfl;have gm:decide (128<=growMax)=true:=rfl;simp (maxSteps:=400000) only [go_sem,hk67,hk68,k69,int1,oneB,hq,h0,gm,simprocAttr];rw [<-hRR];refine covH_g (hC:=rfl) ?_ ?_<;>rfl
 |cons x r=>
  have hu:=kp_un (x::r);simp only at hk67;have hpos:0<(x::r).length:=by simp
  generalize x::r=l at*;have c0:decide ((l.length:Int)>0)=true:=decide_eq_true (by omega)
  have c0':decide (0<l.length)=true:=decide_eq_true hpos;rw [c0'] at hRR;simp only [cond_true,Bool.true_and] at hRR;cases mb
  ·simp only [Bool.false_eq_true,if_false] at hk68;simp (maxSteps:=400000) only [go_sem,hk67,hk68,simprocAttr];rw [<-hRR];exact covH_n
  simp only [if_true] at hk68;simp only [cond_true] at hRR;obtain ⟨y,hy⟩: ∃y,l[l.length-1]? =some y:=⟨_,List.getElem?_eq_getElem (by omega)⟩
  have hry:(rows Kp.l l)[(l.length-1)*11+2]? =some (.i .i64 y.p.sq):=rows_get (f:=Kp.l) (z:=11) (j:=2) (v:= .i .i64 y.p.sq) Kp.len hy rfl;have hlqy:lastQ l=y.p.sq:=by simp only [lastQ,hy]
  rw [hlqy] at hRR hlq;generalize y.p.sq=lq at*;have hw2:IntKind.i64.wrap ((l.length:Int)-1)=((l.length-1:Nat):Int):=by rw [wrapL (by omega) (by omega)];omega
  have c3:decide (0<=((l.length-1:Nat):Int)/\((l.length-1:Nat):Int)<(l.length:Int))=true:=decide_eq_true (by omega)
  have hk51: ∀(h:Hp) n,k51 [.i .i64 sq,.i .i64 lq] h n=some (true,{v:= .i .i64 (lead sq lq),n}):=fun h n=>by simp only [k51,hmq rfl,hlq,Bool.and_self]
  have hrg:=lead_rng sq lq;generalize lead sq lq=d at*;cases b1:decide (d<=0);rotate_left
  ·rw [b1] at hRR;simp (maxSteps:=400000) only [go_sem,hk67,hk68,c0,c3,hry,hw2,hk51,b1,simprocAttr];rw [<-hRR];exact covH_n
  rw [b1] at hRR;simp only [cond_false] at hRR;have hq:okN lq now=true:=by simp only [okN,hlq,hnow,Bool.and_true]
  have h0:inI (-40000) 40000 d=true:=inI_of (by omega)
  have hlm:decide (l.length<=1000000000)=true:=decide_eq_true (by omega)
  have hql:(keepK now lq d l).length<=64:=Nat.le_trans (List.length_filter_le _ _) hl64;generalize hq':keepK now lq d l=q at*;have zR:(rows Kp.l q).length=q.length*11:=rows_len Kp.len;have n64:((q.length:Int)==64)=(q.length==64):=by rw [Bool.eq_iff_iff];simp;omega
  cases b2:(q.length==64)
  ·simp only [cut64,b2,cond_false] at hRR;have gm:decide (128*(q.length+1)<=growMax)=true:=decide_eq_true (by simp only [growMax];omega)
   simp (maxSteps:=400000) only [go_sem,hk67,hk68,c0,c3,hry,hw2,hk51,b1,k69,int1,oneB,hu,hq,h0,hok,hlm,hq',n64,b2,zR,gm,simprocAttr];rw [<-hRR];refine covH_g (C:=rows Kp.l q++[AV.b ma,.i .i64 pty,.i .i64 sq,.i .i64 tm,.i .i64 pss,.fz (rows int1 cs) cs.length,.fz (rows xtR xs) xs.length,.i .i64 pd,.s pl,.i .i64 now,.i .i64 (-1)]) ?_ ?_ ?_
   ·rfl
   ·rw [rows_append];rfl
   ·simp
  ·have b2':q.length=64:=by simpa using b2
   simp only [cut64,b2,cond_true] at hRR;have hrd:=rows_drop Kp.len q 1;have gm:decide (128*64<=growMax)=true:=rfl;have gm':decide (8192<=growMax)=true:=rfl;rw [b2'] at zR;simp (maxSteps:=400000) only [go_sem,hk67,hk68,c0,c3,hry,hw2,hk51,b1,k69,int1,oneB,hu,hq,h0,hok,hlm,hq',n64,b2',zR,gm,gm',simprocAttr];refine andB_i rfl ?_;dsimp only [Prod.snd];simp (maxSteps:=400000) only [go_sem,hk67,hk68,c0,c3,hry,hw2,hk51,b1,k69,int1,oneB,hu,hq,h0,hok,hlm,hq',n64,b2',zR,gm,gm',simprocAttr];rw [<-hRR];refine covH_g (C:=rows Kp.l (q.drop 1)++[AV.b ma,.i .i64 pty,.i .i64 sq,.i .i64 tm,.i .i64 pss,.fz (rows int1 cs) cs.length,.fz (rows xtR xs) xs.length,.i .i64 pd,.s pl,.i .i64 now,.i .i64 (-1)]) ?_ ?_ ?_
   ·rw [<-hrd];rfl
   ·rw [rows_append];rfl
   ·simp [b2']
def k33:Ct
 |[.agg c,.i .i64 now,.agg b],_,n=>(hsA c).bind fun h=>(md9 b).bind fun p=>some (decide (h.l.length<=9223372036854775807)&&finH h&&p.fin,{v:=rsH (keepS h now p),n})
 |_,_,_=>none
theorem s33:SoundAt Try.prog 33 k33:=fun args h n c E hc ht=>by
 unfold k33 at hc;split at hc
 ·simp only [Option.bind_eq_some_iff] at hc;obtain ⟨hs,hd,p,hp,he⟩:=hc;cases he;rw [hsA_eq hd,md9_eq hp];simp only [Bool.and_eq_true,decide_eq_true_eq] at ht;exact CallOK.pure (by kernel_rfl) (by simp only [belL,AV.bel,Hs.bel,Md.bel,Bool.and_self]) (rsH_bel _) (w33 hs _ p ht.1.1 ht.1.2 ht.2) _ _
 ·cases hc
end Go.Proofs.Res
