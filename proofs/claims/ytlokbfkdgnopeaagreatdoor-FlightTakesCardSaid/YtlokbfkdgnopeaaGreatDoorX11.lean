/- Texts laid as one: FlzI5 FlzK FlzI7 FltQ FltR FltT FltU FltV FltW FlzL7 FlzT11 FlzT12 FlzI4 FlzT13 FlzT14 FlzT15. -/
import Derived.Test.YtlokbfkdgnopeaaGreatDoorX10
import Derived.Test.YtlokbfkdgnopeaaGreatDoorProg
set_option maxRecDepth 100000
set_option maxHeartbeats 4000000
set_option linter.unusedSimpArgs false
set_option linter.unusedVariables false
namespace Go.Proofs.Flz
open Go.Ab
abbrev i17r0:List IOper:=[oo 0 (.mv (.c (.b false)))]
abbrev i17r1:List IOper:=[oo 36 (.build [.i .i64 0,.i .i64 0,.s []] [(0,1,.c (.i .i64 1)),(1,1,.c (.i .i64 2)),(2,1,.c (.s [97,98,99,100,101]))]),oo 1 (.new [.i .i64 0,.i .i64 0,.s []]),on_ (.st 3 (.t 1) (.t 36))]
abbrev i17r2:List IOper:=[oo 38 (.ld true 3 (.t 1)),oo 39 (.call (.c (.fn 10 [])) [.t 38,.c (.i .i64 2)]),oo 37 (.mv (.t 39)),oo 40 (.ext (.t 37) 0),oo 41 (.ext (.t 37) 1),oo 2 (.mv (.t 40)),oo 3 (.mv (.t 41))]
abbrev i17r3:List IOper:=[oo 43 (.build [.i .i64 0,.i .i64 0,.s []] [(0,1,.c (.i .i64 1)),(1,1,.c (.i .i64 2))]),oo 44 (.call (.c (.fn 10 [])) [.t 43,.c (.i .i64 9)]),oo 42 (.mv (.t 44)),oo 45 (.ext (.t 42) 0),oo 46 (.ext (.t 42) 1),oo 4 (.mv (.t 45)),oo 5 (.mv (.t 46))]
abbrev i17r4:List IOper:=[oo 47 (.mv (.t 3)),oo 48 (.bin .eql (.t 47) (.c (.i .i64 0))),ot 49 (.mv (.t 48)),og 50 (.mv (.t 2)) 49 true false,og 51 (.call (.c (.fn 39 [])) [.c (.i .u8 1),.c (.i .u8 5),.c (.i .u8 2),.c (.i .u8 0),.c (.s [97,98])]) 49 true false,og 52 (.call (.c (.fn 39 [])) [.c (.i .u8 1),.c (.i .u8 5),.c (.i .u8 2),.c (.i .u8 2),.c (.s [99,100])]) 49 true false,og 53 (.call (.c (.fn 39 [])) [.c (.i .u8 1),.c (.i .u8 5),.c (.i .u8 2),.c (.i .u8 4),.c (.s [101])]) 49 true false,og 54 (.bsl [.s [],.s [],.s []] 3 [(0,1,.t 51),(1,1,.t 52),(2,1,.t 53)]) 49 true false,og 55 (.call (.c (.fn 14 [])) [.t 50,.t 54]) 49 true false,oo 56 (.pick (.t 49) (.t 55) (.c (.b false))),ot 57 (.mv (.t 56)),og 58 (.mv (.t 5)) 57 true false,og 59 (.bin .eql (.t 58) (.c (.i .i64 0))) 57 true false,oo 60 (.pick (.t 57) (.t 59) (.c (.b false))),ot 61 (.mv (.t 60)),og 62 (.mv (.t 4)) 61 true false,og 63 (.call (.c (.fn 39 [])) [.c (.i .u8 1),.c (.i .u8 0),.c (.i .u8 2),.c (.i .u8 0),.c (.s [])]) 61 true false,og 64 (.bsl [.s []] 1 [(0,1,.t 63)]) 61 true false,og 65 (.call (.c (.fn 14 [])) [.t 62,.t 64]) 61 true false,oo 66 (.pick (.t 61) (.t 65) (.c (.b false))),oo 6 (.mv (.t 66))]
abbrev i17r5:List IOper:=[oo 68 (.build [.i .i64 0,.ns] []),oo 69 (.call (.c (.fn 39 [])) [.c (.i .u8 1),.c (.i .u8 2),.c (.i .u8 0),.c (.i .u8 1),.c (.s [98])]),oo 70 (.call (.c (.fn 23 [])) [.t 68,.t 69]),oo 67 (.mv (.t 70)),oo 71 (.ext (.t 67) 0),oo 72 (.ext (.t 67) 1),oo 73 (.ext (.t 67) 2),oo 7 (.new [.i .i64 0,.ns]),on_ (.st 2 (.t 7) (.t 71)),oo 8 (.mv (.t 72)),oo 9 (.mv (.t 73))]
abbrev i17r6:List (IOper×List Nat):=[(oo 75 (.ld true 2 (.t 7)),[]),(oo 76 (.call (.c (.fn 39 [])) [.c (.i .u8 2),.c (.i .u8 1),.c (.i .u8 1),.c (.i .u8 0),.c (.s [99])]),[0]),(oo 77 (.call (.c (.fn 23 [])) [.t 75,.t 76]),[]),(oo 74 (.mv (.t 77)),[]),(oo 78 (.ext (.t 74) 0),[]),(oo 79 (.ext (.t 74) 1),[4]),(oo 80 (.ext (.t 74) 2),[4,5]),(oo 10 (.new [.i .i64 0,.ns]),[0,1,2,3,4,5,6]),(on_ (.st 2 (.t 10) (.t 78)),[5,6]),(oo 11 (.mv (.t 79)),[6]),(oo 12 (.mv (.t 80)),[])]
abbrev i17r7:List (IOper×List Nat):=[(oo 82 (.ld true 2 (.t 10)),[]),(oo 83 (.call (.c (.fn 39 [])) [.c (.i .u8 1),.c (.i .u8 2),.c (.i .u8 0),.c (.i .u8 0),.c (.s [97])]),[0]),(oo 84 (.call (.c (.fn 23 [])) [.t 82,.t 83]),[]),(oo 81 (.mv (.t 84)),[]),(oo 85 (.ext (.t 81) 0),[]),(oo 86 (.ext (.t 81) 1),[4]),(oo 87 (.ext (.t 81) 2),[4,5]),(oo 13 (.new [.i .i64 0,.ns]),[0,1,2,3,4,5,6]),(on_ (.st 2 (.t 13) (.t 85)),[5,6]),(oo 14 (.mv (.t 86)),[6]),(oo 15 (.mv (.t 87)),[])]
abbrev i17r8:List IOper:=[oo 89 (.build [.i .i64 0,.ns] []),oo 90 (.call (.c (.fn 39 [])) [.c (.i .u8 1),.c (.i .u8 1),.c (.i .u8 4),.c (.i .u8 0),.c (.s [120])]),oo 91 (.call (.c (.fn 23 [])) [.t 89,.t 90]),oo 88 (.mv (.t 91)),oo 92 (.ext (.t 88) 0),oo 93 (.ext (.t 88) 1),oo 94 (.ext (.t 88) 2),oo 16 (.new [.i .i64 0,.ns]),on_ (.st 2 (.t 16) (.t 92)),oo 17 (.mv (.t 93)),oo 18 (.mv (.t 94))]
abbrev i17r9:List (IOper×List Nat):=[(oo 96 (.ld true 2 (.t 7)),[]),(oo 97 (.call (.c (.fn 39 [])) [.c (.i .u8 1),.c (.i .u8 3),.c (.i .u8 0),.c (.i .u8 0),.c (.s [97])]),[0]),(oo 98 (.call (.c (.fn 23 [])) [.t 96,.t 97]),[]),(oo 95 (.mv (.t 98)),[]),(oo 99 (.ext (.t 95) 0),[]),(oo 100 (.ext (.t 95) 1),[4]),(oo 101 (.ext (.t 95) 2),[4,5]),(oo 19 (.new [.i .i64 0,.ns]),[0,1,2,3,4,5,6]),(on_ (.st 2 (.t 19) (.t 99)),[5,6]),(oo 20 (.mv (.t 100)),[6]),(oo 21 (.mv (.t 101)),[])]
abbrev i17r10:List IOper:=[oo 102 (.mv (.t 9)),oo 103 (.bin .eql (.t 102) (.c (.i .i64 0))),ot 104 (.mv (.t 103)),og 105 (.mv (.t 8)) 104 true false,og 106 (.lenV (.t 105)) 104 true false,og 107 (.bin .eql (.t 106) (.c (.i .i64 0))) 104 true false,oo 108 (.pick (.t 104) (.t 107) (.c (.b false))),ot 109 (.mv (.t 108)),og 110 (.mv (.t 12)) 109 true false,og 111 (.bin .eql (.t 110) (.c (.i .i64 0))) 109 true false,oo 112 (.pick (.t 109) (.t 111) (.c (.b false))),ot 113 (.mv (.t 112)),og 114 (.mv (.t 11)) 113 true false,og 115 (.lenV (.t 114)) 113 true false,og 116 (.bin .eql (.t 115) (.c (.i .i64 0))) 113 true false,oo 117 (.pick (.t 113) (.t 116) (.c (.b false))),ot 118 (.mv (.t 117)),og 119 (.mv (.t 15)) 118 true false,og 120 (.bin .eql (.t 119) (.c (.i .i64 0))) 118 true false,oo 121 (.pick (.t 118) (.t 120) (.c (.b false))),ot 122 (.mv (.t 121)),og 123 (.mv (.t 14)) 122 true false,og 124 (.build [.i .i64 0,.i .i64 0,.s []] [(0,1,.c (.i .i64 1)),(2,1,.c (.s [97,98]))]) 122 true false,og 125 (.build [.i .i64 0,.i .i64 0,.s []] [(0,1,.c (.i .i64 2)),(1,1,.c (.i .i64 1)),(2,1,.c (.s [99]))]) 122 true false,og 126 (.bsl [.i .i64 0,.i .i64 0,.s [],.i .i64 0,.i .i64 0,.s []] 2 [(0,3,.t 124),(3,3,.t 125)]) 122 true false,og 127 (.call (.c (.fn 26 [])) [.t 123,.t 126]) 122 true false,oo 128 (.pick (.t 122) (.t 127) (.c (.b false))),ot 129 (.mv (.t 128)),og 130 (.ld true 2 (.t 13)) 129 true false,og 131 (.build [.i .i64 0,.ns] [(0,1,.c (.i .i64 2))]) 129 true false,og 132 (.call (.c (.fn 25 [])) [.t 130,.t 131]) 129 true false,oo 133 (.pick (.t 129) (.t 132) (.c (.b false))),ot 134 (.mv (.t 133)),og 135 (.mv (.t 18)) 134 true false,og 136 (.bin .eql (.t 135) (.c (.i .i64 3))) 134 true false,oo 137 (.pick (.t 134) (.t 136) (.c (.b false))),ot 138 (.mv (.t 137)),og 139 (.mv (.t 21)) 138 true false,og 140 (.bin .eql (.t 139) (.c (.i .i64 5))) 138 true false,oo 141 (.pick (.t 138) (.t 140) (.c (.b false))),oo 22 (.mv (.t 141))]
abbrev i17r11:List IOper:=[oo 143 (.call (.c (.fn 39 [])) [.c (.i .u8 1),.c (.i .u8 0),.c (.i .u8 0),.c (.i .u8 0),.c (.s [])]),oo 144 (.slS (.t 143) none (some (.c (.i .i64 11)))),oo 145 (.call (.c (.fn 15 [])) [.t 144]),oo 142 (.mv (.t 145)),oo 146 (.ext (.t 142) 0),oo 147 (.ext (.t 142) 1),oo 23 (.new [.i .i64 0,.i .i64 0,.i .i64 0,.i .i64 0,.s []]),on_ (.st 5 (.t 23) (.t 146)),oo 24 (.mv (.t 147))]
abbrev i17r12:List IOper:=[oo 149 (.call (.c (.fn 39 [])) [.c (.i .u8 1),.c (.i .u8 1),.c (.i .u8 0),.c (.i .u8 0),.c (.s [])]),oo 150 (.call (.c (.fn 15 [])) [.t 149]),oo 148 (.mv (.t 150)),oo 151 (.ext (.t 148) 0),oo 152 (.ext (.t 148) 1),oo 25 (.new [.i .i64 0,.i .i64 0,.i .i64 0,.i .i64 0,.s []]),on_ (.st 5 (.t 25) (.t 151)),oo 26 (.mv (.t 152))]
abbrev i17r13:List IOper:=[oo 154 (.call (.c (.fn 29 [])) [.c (.i .i64 1000)]),oo 153 (.mv (.t 154)),oo 155 (.ext (.t 153) 0),oo 156 (.ext (.t 153) 1),oo 27 (.new [.i .i64 0,.i .i64 0,.i .i64 0]),on_ (.st 3 (.t 27) (.t 155)),oo 28 (.mv (.t 156))]
abbrev i17r14:List IOper:=[oo 158 (.ld true 3 (.t 27)),oo 159 (.call (.c (.fn 33 [])) [.t 158,.c (.i .i64 1399)]),oo 157 (.mv (.t 159)),oo 160 (.ext (.t 157) 0),oo 161 (.ext (.t 157) 1),oo 29 (.mv (.t 160)),oo 30 (.mv (.t 161))]
abbrev i17r15:List IOper:=[oo 163 (.ld true 3 (.t 27)),oo 164 (.call (.c (.fn 35 [])) [.t 163,.c (.i .i64 1500)]),oo 162 (.mv (.t 164)),oo 165 (.ext (.t 162) 0),oo 166 (.ext (.t 162) 1),oo 31 (.new [.i .i64 0,.i .i64 0,.i .i64 0]),on_ (.st 3 (.t 31) (.t 165)),oo 32 (.mv (.t 166))]
abbrev i17r16:List IOper:=[oo 168 (.build [.i .i64 0,.i .i64 0,.i .i64 0] [(0,1,.c (.i .i64 9)),(1,1,.c (.i .i64 6400)),(2,1,.c (.i .i64 8))]),oo 169 (.call (.c (.fn 35 [])) [.t 168,.c (.i .i64 9)]),oo 167 (.mv (.t 169)),oo 170 (.ext (.t 167) 0),oo 171 (.ext (.t 167) 1),oo 33 (.new [.i .i64 0,.i .i64 0,.i .i64 0]),on_ (.st 3 (.t 33) (.t 170)),oo 34 (.mv (.t 171))]
abbrev i17r17:List IOper:=[oo 172 (.mv (.t 28)),oo 173 (.bin .eql (.t 172) (.c (.i .i64 0))),ot 174 (.mv (.t 173)),og 175 (.ld true 3 (.t 27)) 174 true false,og 176 (.build [.i .i64 0,.i .i64 0,.i .i64 0] [(0,1,.c (.i .i64 1400)),(1,1,.c (.i .i64 400)),(2,1,.c (.i .i64 1))]) 174 true false,og 177 (.eqk false true [.i,.i,.i] (.t 175) (.t 176)) 174 true false,oo 178 (.pick (.t 174) (.t 177) (.c (.b false))),ot 179 (.mv (.t 178)),og 180 (.mv (.t 29)) 179 true false,og 181 (.not (.t 180)) 179 true false,oo 182 (.pick (.t 179) (.t 181) (.c (.b false))),ot 183 (.mv (.t 182)),og 184 (.mv (.t 30)) 183 true false,og 185 (.bin .eql (.t 184) (.c (.i .i64 0))) 183 true false,oo 186 (.pick (.t 183) (.t 185) (.c (.b false))),ot 187 (.mv (.t 186)),og 188 (.mv (.t 32)) 187 true false,og 189 (.bin .eql (.t 188) (.c (.i .i64 0))) 187 true false,oo 190 (.pick (.t 187) (.t 189) (.c (.b false))),ot 191 (.mv (.t 190)),og 192 (.ld true 3 (.t 31)) 191 true false,og 193 (.build [.i .i64 0,.i .i64 0,.i .i64 0] [(0,1,.c (.i .i64 2300)),(1,1,.c (.i .i64 800)),(2,1,.c (.i .i64 2))]) 191 true false,og 194 (.eqk false true [.i,.i,.i] (.t 192) (.t 193)) 191 true false,oo 195 (.pick (.t 191) (.t 194) (.c (.b false))),ot 196 (.mv (.t 195)),og 197 (.mv (.t 34)) 196 true false,og 198 (.bin .eql (.t 197) (.c (.i .i64 4))) 196 true false,oo 199 (.pick (.t 196) (.t 198) (.c (.b false))),oo 35 (.mv (.t 199))]
abbrev i17r18:List IOper:=[oo 200 (.mv (.t 6)),ot 201 (.mv (.t 200)),og 202 (.mv (.t 22)) 201 true false,oo 203 (.pick (.t 201) (.t 202) (.c (.b false))),ot 204 (.mv (.t 203)),og 205 (.mv (.t 24)) 204 true false,og 206 (.bin .eql (.t 205) (.c (.i .i64 7))) 204 true false,oo 207 (.pick (.t 204) (.t 206) (.c (.b false))),ot 208 (.mv (.t 207)),og 209 (.mv (.t 26)) 208 true false,og 210 (.bin .eql (.t 209) (.c (.i .i64 5))) 208 true false,oo 211 (.pick (.t 208) (.t 210) (.c (.b false))),ot 212 (.mv (.t 211)),og 213 (.mv (.t 35)) 212 true false,oo 214 (.pick (.t 212) (.t 213) (.c (.b false))),oo 0 (.mv (.t 214))]
abbrev i17c:ICode:=(.seq (.reg i17r0) (.seq (.reg i17r1) (.seq (.reg i17r2) (.seq (.reg i17r3) (.seq (.reg i17r4) (.seq (.reg i17r5) (.seq (.dreg i17r6) (.seq (.dreg i17r7) (.seq (.reg i17r8) (.seq (.dreg i17r9) (.seq (.reg i17r10) (.seq (.reg i17r11) (.seq (.reg i17r12) (.seq (.reg i17r13) (.seq (.reg i17r14) (.seq (.reg i17r15) (.seq (.reg i17r16) (.seq (.reg i17r17) (.seq (.reg i17r18) .ret)))))))))))))))))))
def i17:IFn:={np:=0,N:=215,ct:=[],code:=i17c,res:=[.t 0]}
theorem i17_eq:compF Tryz.prog Tryz.f17=some i17:=by kernel_rfl
end Go.Proofs.Flz
namespace Go.Proofs.Flz
open Go.Ab Go.Proofs.Flt
/- value .b true; none; facts 28; ops 255 -/
theorem q0 (h:Hp) (n:Nat):k10 [.agg [.i .i64 1,.i .i64 2,.s [97,98,99,100,101]],.i .i64 2] h n=some (true,{v:= .tup [.fz [.s [1,0,0,5,0,2,0,0,0,0,0,2,97,98],.s [1,0,0,5,0,2,0,0,2,0,0,2,99,100],.s [1,0,0,5,0,2,0,0,4,0,0,1,101]] 3,.i .i64 0],n}):=by kernel_rfl
theorem q1 (h:Hp) (n:Nat):k10 [.agg [.i .i64 1,.i .i64 2,.s []],.i .i64 9] h n=some (true,{v:= .tup [.fz [.s [1,0,0,0,0,2,0,0,0,0,0,0]] 1,.i .i64 0],n}):=by kernel_rfl
theorem q2 (h:Hp) (n:Nat):k39 [.i .u8 1,.i .u8 5,.i .u8 2,.i .u8 0,.s [97,98]] h n=some (true,{v:= .s [1,0,0,5,0,2,0,0,0,0,0,2,97,98],n}):=by kernel_rfl
theorem q3 (h:Hp) (n:Nat):k39 [.i .u8 1,.i .u8 5,.i .u8 2,.i .u8 2,.s [99,100]] h n=some (true,{v:= .s [1,0,0,5,0,2,0,0,2,0,0,2,99,100],n}):=by kernel_rfl
theorem q4 (h:Hp) (n:Nat):k39 [.i .u8 1,.i .u8 5,.i .u8 2,.i .u8 4,.s [101]] h n=some (true,{v:= .s [1,0,0,5,0,2,0,0,4,0,0,1,101],n}):=by kernel_rfl
theorem q5 (h:Hp) (n b0:Nat) (hb0:hget h b0=some {cells:=[.s [1,0,0,5,0,2,0,0,0,0,0,2,97,98],.s [1,0,0,5,0,2,0,0,2,0,0,2,99,100],.s [1,0,0,5,0,2,0,0,4,0,0,1,101]]}):k14 [.fz [.s [1,0,0,5,0,2,0,0,0,0,0,2,97,98],.s [1,0,0,5,0,2,0,0,2,0,0,2,99,100],.s [1,0,0,5,0,2,0,0,4,0,0,1,101]] 3,.sl b0 0 3 3] h n=some (true,{v:= .b true,n,rd:=[b0]}):=by
 simp only [k14,vwK_s,vwK_g,hb0];rfl
theorem q6 (h:Hp) (n:Nat):k39 [.i .u8 1,.i .u8 0,.i .u8 2,.i .u8 0,.s []] h n=some (true,{v:= .s [1,0,0,0,0,2,0,0,0,0,0,0],n}):=by kernel_rfl
theorem q7 (h:Hp) (n b0:Nat) (hb0:hget h b0=some {cells:=[.s [1,0,0,0,0,2,0,0,0,0,0,0]]}):k14 [.fz [.s [1,0,0,0,0,2,0,0,0,0,0,0]] 1,.sl b0 0 1 1] h n=some (true,{v:= .b true,n,rd:=[b0]}):=by
 simp only [k14,vwK_s,vwK_g,hb0];rfl
theorem q8 (h:Hp) (n:Nat):k39 [.i .u8 1,.i .u8 2,.i .u8 0,.i .u8 1,.s [98]] h n=some (true,{v:= .s [1,0,0,2,0,0,0,0,1,0,0,1,98],n}):=by kernel_rfl
theorem q9 (h:Hp) (n:Nat):k23n [.agg [.i .i64 0,.ns],.s [1,0,0,2,0,0,0,0,1,0,0,1,98]] h n=some (true,{v:= .tup [.agg [.i .i64 0,.fz [.i .i64 1,.i .i64 2,.i .i64 0,.s [0,98],.fz [.i .i64 1,.i .i64 2] 1] 1],.fz [] 0,.i .i64 0],n}):=by kernel_rfl
theorem q10 (h:Hp) (n:Nat):k39 [.i .u8 2,.i .u8 1,.i .u8 1,.i .u8 0,.s [99]] h n=some (true,{v:= .s [2,0,0,1,0,1,0,0,0,0,0,1,99],n}):=by kernel_rfl
theorem q11 (h:Hp) (n:Nat):k23n [.agg [.i .i64 0,.fz [.i .i64 1,.i .i64 2,.i .i64 0,.s [0,98],.fz [.i .i64 1,.i .i64 2] 1] 1],.s [2,0,0,1,0,1,0,0,0,0,0,1,99]] h n=some (true,{v:= .tup [.agg [.i .i64 0,.fz [.i .i64 1,.i .i64 2,.i .i64 0,.s [0,98],.fz [.i .i64 1,.i .i64 2] 1,.i .i64 2,.i .i64 1,.i .i64 1,.s [99],.fz [.i .i64 0,.i .i64 1] 1] 2],.fz [] 0,.i .i64 0],n}):=by kernel_rfl
theorem q12 (h:Hp) (n:Nat):k39 [.i .u8 1,.i .u8 2,.i .u8 0,.i .u8 0,.s [97]] h n=some (true,{v:= .s [1,0,0,2,0,0,0,0,0,0,0,1,97],n}):=by kernel_rfl
theorem q13 (h:Hp) (n:Nat):k23n [.agg [.i .i64 0,.fz [.i .i64 1,.i .i64 2,.i .i64 0,.s [0,98],.fz [.i .i64 1,.i .i64 2] 1,.i .i64 2,.i .i64 1,.i .i64 1,.s [99],.fz [.i .i64 0,.i .i64 1] 1] 2],.s [1,0,0,2,0,0,0,0,0,0,0,1,97]] h n=some (true,{v:= .tup [.agg [.i .i64 2,.fz [] 0],.fz [.i .i64 1,.i .i64 0,.s [97,98],.i .i64 2,.i .i64 1,.s [99]] 2,.i .i64 0],n}):=by kernel_rfl
theorem q14 (h:Hp) (n:Nat):k39 [.i .u8 1,.i .u8 1,.i .u8 4,.i .u8 0,.s [120]] h n=some (true,{v:= .s [1,0,0,1,0,4,0,0,0,0,0,1,120],n}):=by kernel_rfl
theorem q15 (h:Hp) (n:Nat):k23n [.agg [.i .i64 0,.ns],.s [1,0,0,1,0,4,0,0,0,0,0,1,120]] h n=some (true,{v:= .tup [.agg [.i .i64 0,.fz [] 0],.fz [] 0,.i .i64 3],n}):=by kernel_rfl
theorem q16 (h:Hp) (n:Nat):k39 [.i .u8 1,.i .u8 3,.i .u8 0,.i .u8 0,.s [97]] h n=some (true,{v:= .s [1,0,0,3,0,0,0,0,0,0,0,1,97],n}):=by kernel_rfl
theorem q17 (h:Hp) (n:Nat):k23n [.agg [.i .i64 0,.fz [.i .i64 1,.i .i64 2,.i .i64 0,.s [0,98],.fz [.i .i64 1,.i .i64 2] 1] 1],.s [1,0,0,3,0,0,0,0,0,0,0,1,97]] h n=some (true,{v:= .tup [.agg [.i .i64 0,.fz [] 0],.fz [] 0,.i .i64 5],n}):=by kernel_rfl
theorem q18 (h:Hp) (n b0:Nat) (hb0:hget h b0=some {cells:=[.i .i64 1,.i .i64 0,.s [97,98],.i .i64 2,.i .i64 1,.s [99]]}):k26 [.fz [.i .i64 1,.i .i64 0,.s [97,98],.i .i64 2,.i .i64 1,.s [99]] 2,.sl b0 0 2 2] h n=some (true,{v:= .b true,n,rd:=[b0]}):=by
 simp only [k26,vwK_s,vwK_g,hb0];rfl
theorem q19 (h:Hp) (n:Nat):k25 [.agg [.i .i64 2,.fz [] 0],.agg [.i .i64 2,.ns]] h n=some (true,{v:= .b true,n}):=by kernel_rfl
theorem q20 (h:Hp) (n:Nat):k39 [.i .u8 1,.i .u8 0,.i .u8 0,.i .u8 0,.s []] h n=some (true,{v:= .s [1,0,0,0,0,0,0,0,0,0,0,0],n}):=by kernel_rfl
theorem q21 (h:Hp) (n:Nat):k15 [.s [1,0,0,0,0,0,0,0,0,0,0]] h n=some (true,{v:= .tup [.agg [.i .i64 0,.i .i64 0,.i .i64 0,.i .i64 0,.s []],.i .i64 7],n}):=by kernel_rfl
theorem q22 (h:Hp) (n:Nat):k39 [.i .u8 1,.i .u8 1,.i .u8 0,.i .u8 0,.s []] h n=some (true,{v:= .s [1,0,0,1,0,0,0,0,0,0,0,0],n}):=by kernel_rfl
theorem q23 (h:Hp) (n:Nat):k15 [.s [1,0,0,1,0,0,0,0,0,0,0,0]] h n=some (true,{v:= .tup [.agg [.i .i64 0,.i .i64 0,.i .i64 0,.i .i64 0,.s []],.i .i64 5],n}):=by kernel_rfl
theorem q24 (h:Hp) (n:Nat):k29 [.i .i64 1000] h n=some (true,{v:= .tup [.agg [.i .i64 1400,.i .i64 400,.i .i64 1],.i .i64 0],n}):=by kernel_rfl
theorem q25 (h:Hp) (n:Nat):k33 [.agg [.i .i64 1400,.i .i64 400,.i .i64 1],.i .i64 1399] h n=some (true,{v:= .tup [.b false,.i .i64 0],n}):=by kernel_rfl
theorem q26 (h:Hp) (n:Nat):k35 [.agg [.i .i64 1400,.i .i64 400,.i .i64 1],.i .i64 1500] h n=some (true,{v:= .tup [.agg [.i .i64 2300,.i .i64 800,.i .i64 2],.i .i64 0],n}):=by kernel_rfl
theorem q27 (h:Hp) (n:Nat):k35 [.agg [.i .i64 9,.i .i64 6400,.i .i64 8],.i .i64 9] h n=some (true,{v:= .tup [.agg [.i .i64 0,.i .i64 0,.i .i64 0],.i .i64 4],n}):=by kernel_rfl
def TW:List (Nat×Ct):=[(10,k10),(15,k15),(29,k29),(33,k33),(35,k35),(14,k14),(39,k39),(23,k23n),(26,k26),(25,k25)]
theorem hTW:Sound Tryz.prog (cxT TW):=Sound.cons s10<|Sound.cons s15<|Sound.cons s29<|Sound.cons s33<|Sound.cons s35<|Sound.cons s14<|Sound.cons s39<|Sound.cons s23n<|Sound.cons s26<|Sound.cons s25 Sound.nil
theorem w17:FTL Tryz.prog 17 [] [] 0 (.b true) [] 0:=by
 refine FTL.of_iw hTW mo Tryz.func17 i17_eq (by simp [i17]) (iw_of_jw ?_)
 dsimp only [i17,TW];simp only [go_sem,q0,q1,q2,q3,q4,q5,q6,q7,q8,q9,q10,q11,q12,q13,q14,q15,q16,q17,q18,q19,q20,q21,q22,q23,q24,q25,q26,q27,simprocAttr];exact Ends.pureE rfl rfl
def k17:Ct
 |[],_,n=>some (true,{v:= .b true,n})
 |_,_,_=>none
theorem s17:SoundAt Tryz.prog 17 k17:=fun args h n c E hc ht=>by
 unfold k17 at hc;split at hc
 ·cases hc;exact CallOK.pure (by kernel_rfl) rfl rfl w17 _ _
 ·cases hc
end Go.Proofs.Flz
namespace Go.Proofs.Flz
open Go.Ab
end Go.Proofs.Flz
namespace Go.Proofs.Flt
open Go.Ab
def SqS (b:Int):List Nt->Prop
 |[]=>True
 |x::xs=>x.sq=b/\SqS (b+1) xs
def HS (sz:Nat->Nat):Nat->List Nt->List (List Nat)->List Hf->Prop
 |i,x::xs,K::KK,hs=>(staK x (sz i) K/\ ∃h t,hs=h::t/\OkH x (GK x (sz i) K) h/\HS sz (i+1) xs KK t)\/(¬staK x (sz i) K/\HS sz (i+1) xs KK hs)
 |_,_,_,hs=>hs=[]
theorem HS_sq {sz:Nat->Nat}: ∀{xs:List Nt} {KK:List (List Nat)} {i:Nat} {b:Int} {hs:List Hf},SqS b xs->HS sz i xs KK hs-> ∀h∈hs,b<=h.sq
 |[],_,i,b,hs,_,h,y,hy=>by simp only [HS] at h;subst h;cases hy
 |x::xs,[],i,b,hs,_,h,y,hy=>by simp only [HS] at h;subst h;cases hy
 |x::xs,K::KK,i,b,hs,hq,h,y,hy=>by
  simp only [HS] at h;rcases h with ⟨_,h0,t,rfl,ho,ht⟩|⟨_,ht⟩
  ·rcases List.mem_cons.1 hy with rfl|hy
   ·rw [ho.sq,hq.1];exact Int.le_refl _
   ·have:=HS_sq hq.2 ht y hy;omega
  ·have:=HS_sq hq.2 ht y hy;omega
theorem SqS_at: ∀{xs:List Nt} {b:Int} {t:Nat} {x:Nt},SqS b xs->xs[t]? =some x->x.sq=b+t
 |[],b,t,x,_,h=>by simp at h
 |y::xs,b,0,x,hq,h=>by simp at h;subst h;rw [hq.1];simp
 |y::xs,b,t+1,x,hq,h=>by
  have:=SqS_at hq.2 (t:=t) (x:=x) (by simpa using h)
  rw [this];omega
theorem GK_iff {x:Nt} {sz k:Nat} {K K2:List Nat} (hk:k<cutN x.bd.length sz) (h2: ∀l,l∈K2↔l∈K/\l≠k) (o:Int):((((k*sz:Nat):Int)<=o/\o<((k*sz:Nat):Int)+(pcM x sz k:Nat))\/GK x sz K o)↔GK x sz K2 o:=by
 constructor
 ·rintro (h|⟨l,h1,h3,h4⟩)
  ·exact ⟨k,hk,fun h3=>((h2 k).1 h3).2 rfl,h⟩
  ·exact ⟨l,h1,fun h5=>h3 ((h2 l).1 h5).1,h4⟩
 ·rintro ⟨l,h1,h3,h4⟩;by_cases e:l=k
  ·subst e;exact .inl h4
  ·exact .inr ⟨l,h1,fun h5=>h3 ((h2 l).2 ⟨h5,e⟩),h4⟩
theorem staK_2 {x:Nt} {sz k:Nat} {K K2:List Nat} (hk:k<cutN x.bd.length sz) (h2: ∀l,l∈K2↔l∈K/\l≠k):staK x sz K2:=⟨k,hk,fun h=>((h2 k).1 h).2 rfl⟩
theorem put_HS {sz:Nat->Nat} (hsz: ∀i,1<=sz i): ∀{t:Nat} {xs:List Nt} {KK:List (List Nat)} {i:Nat} {b:Int} {hs:List Hf} {x:Nt} {K K2:List Nat} {k:Nat},SqS b xs->HS sz i xs KK hs->xs[t]? =some x->KK[t]? =some K->k<cutN x.bd.length (sz (i+t))->(∀l,l∈K2↔l∈K/\l≠k)→
 ∃hs2,putH (cutP x (sz (i+t)) k) hs=some hs2/\HS sz i xs (KK.set t K2) hs2
 |t,[],KK,i,b,hs,x,K,K2,k,hq,h,hx,hK,hk,h2=>by simp at hx
 |t,y::xs,[],i,b,hs,x,K,K2,k,hq,h,hx,hK,hk,h2=>by simp at hK
 |0,y::xs,L::KK,i,b,hs,x,K,K2,k,hq,h,hx,hK,hk,h2=>by
  simp at hx hK;subst hx;subst hK;simp only [Nat.add_zero] at hk ⊢;have hp:=pcOf (hsz i) hk;simp only [HS] at h;rcases h with ⟨_,h0,r,rfl,ho,ht⟩|⟨hns,ht⟩
  ·obtain ⟨h3,e,o3⟩:=ho.fill hp;refine ⟨h3::r,?_,?_⟩
   ·have e1: ¬h0.sq<(cutP y (sz i) k).sq:=by rw [ho.sq,hp.sq];omega
    have e2:h0.sq=(cutP y (sz i) k).sq:=by rw [ho.sq,hp.sq]
    simp only [putH,if_neg e1,if_pos e2,e,Option.map_some]
   ·simp only [List.set,HS];exact .inl ⟨staK_2 hk h2,h3,r,rfl,o3.iff (GK_iff hk h2),ht⟩
  ·have hn:OkH y (fun _=>False) (newH (cutP y (sz i) k)):=OkH.new hp.kd hp.ln hp.sq;obtain ⟨h3,e,o3⟩:=hn.fill hp;have o4:OkH y (GK y (sz i) K2) h3:=o3.iff (fun o=>by
    rw [<-GK_iff hk h2];refine or_congr Iff.rfl ⟨fun h=>h.elim,fun ⟨l,h1,h4,_⟩=>hns ⟨l,h1,h4⟩⟩)
   refine ⟨h3::hs,?_,?_⟩
   ·cases hs with
    |nil=>simp only [putH,e,Option.map_some]
    |cons h5 r=>
     have h6:=HS_sq hq.2 ht h5 List.mem_cons_self;have h7:(cutP y (sz i) k).sq=b:=by rw [hp.sq,hq.1]
     simp only [putH,if_neg (show ¬h5.sq<(cutP y (sz i) k).sq by omega),if_neg (show ¬h5.sq=(cutP y (sz i) k).sq by omega),e,Option.map_some]
   ·simp only [List.set,HS];exact .inl ⟨staK_2 hk h2,h3,hs,rfl,o4,ht⟩
 |t+1,y::xs,L::KK,i,b,hs,x,K,K2,k,hq,h,hx,hK,hk,h2=>by
  have hx1:xs[t]? =some x:=by simpa using hx
  have hK1:KK[t]? =some K:=by simpa using hK
  have hit:i+(t+1)=(i+1)+t:=by omega
  rw [hit] at hk ⊢;have hp:=pcOf (hsz (i+1+t)) hk;have hsq:=SqS_at hq.2 hx1;simp only [HS] at h;rcases h with ⟨hst,h0,r,rfl,ho,ht⟩|⟨hns,ht⟩
  ·obtain ⟨hs2,e,h3⟩:=put_HS hsz hq.2 ht hx1 hK1 hk h2;refine ⟨h0::hs2,?_,?_⟩
   ·have e1:h0.sq<(cutP x (sz (i+1+t)) k).sq:=by rw [ho.sq,hp.sq,hsq,hq.1];omega
    simp only [putH,if_pos e1,e,Option.map_some]
   ·simp only [List.set,HS];exact .inl ⟨hst,h0,hs2,rfl,ho,h3⟩
  ·obtain ⟨hs2,e,h3⟩:=put_HS hsz hq.2 ht hx1 hK1 hk h2;refine ⟨hs2,e,?_⟩;simp only [List.set,HS];exact .inr ⟨hns,h3⟩
theorem again_HS {sz:Nat->Nat} (hsz: ∀i,1<=sz i): ∀{t:Nat} {xs:List Nt} {KK:List (List Nat)} {i:Nat} {b:Int} {hs:List Hf} {x:Nt} {K:List Nat} {k:Nat},SqS b xs->HS sz i xs KK hs->xs[t]? =some x->KK[t]? =some K->k<cutN x.bd.length (sz (i+t))->k ∉ K→
 putH (cutP x (sz (i+t)) k) hs=some hs
 |t,[],KK,i,b,hs,x,K,k,hq,h,hx,hK,hk,h2=>by simp at hx
 |t,y::xs,[],i,b,hs,x,K,k,hq,h,hx,hK,hk,h2=>by simp at hK
 |0,y::xs,L::KK,i,b,hs,x,K,k,hq,h,hx,hK,hk,h2=>by
  simp at hx hK;subst hx;subst hK;simp only [Nat.add_zero] at hk ⊢;have hp:=pcOf (hsz i) hk;simp only [HS] at h;rcases h with ⟨_,h0,r,rfl,ho,ht⟩|⟨hns,ht⟩
  ·have e:=ho.again hp (fun o g1 g2=>⟨k,hk,h2,g1,g2⟩);have e1: ¬h0.sq<(cutP y (sz i) k).sq:=by rw [ho.sq,hp.sq];omega
   have e2:h0.sq=(cutP y (sz i) k).sq:=by rw [ho.sq,hp.sq]
   simp only [putH,if_neg e1,if_pos e2,e,Option.map_some]
  ·exact absurd ⟨k,hk,h2⟩ hns
 |t+1,y::xs,L::KK,i,b,hs,x,K,k,hq,h,hx,hK,hk,h2=>by
  have hx1:xs[t]? =some x:=by simpa using hx
  have hK1:KK[t]? =some K:=by simpa using hK
  have hit:i+(t+1)=(i+1)+t:=by omega
  rw [hit] at hk ⊢;have hp:=pcOf (hsz (i+1+t)) hk;have hsq:=SqS_at hq.2 hx1;simp only [HS] at h;rcases h with ⟨hst,h0,r,rfl,ho,ht⟩|⟨hns,ht⟩
  ·have e:=again_HS hsz hq.2 ht hx1 hK1 hk h2;have e1:h0.sq<(cutP x (sz (i+1+t)) k).sq:=by rw [ho.sq,hp.sq,hsq,hq.1];omega
   simp only [putH,if_pos e1,e,Option.map_some]
  ·exact again_HS hsz hq.2 ht hx1 hK1 hk h2
def lead:List (List Nat)->Nat
 |[]=>0
 |K::r=>bif K.length==0 then lead r+1 else 0
theorem whole_note {x:Nt} {sz:Nat} {h:Hf} (hs:1<=sz) (ho:OkH x (GK x sz []) h):(⟨h.kd,h.sq,h.bd⟩:Nt)=x:=by
 have:h.bd=x.bd:=by
  apply List.ext_getElem?;intro k;cases hx:x.bd[k]? with
  |none=>exact List.getElem?_eq_none (by rw [ho.len];exact List.getElem?_eq_none_iff.1 hx)
  |some c=>
   have hk:=(List.getElem?_eq_some_iff.1 hx).1;obtain ⟨g1,g2,g3⟩:=cutN_at (n:=x.bd.length) hs hk;exact (ho.at_ k c hx).1 ⟨k/sz,g1,by simp,by omega,by unfold pcM;omega⟩
 obtain ⟨a,b,c⟩:=x;dsimp only at this;have e1:=ho.kd;have e2:=ho.sq;dsimp only at e1 e2;rw [this,e1,e2]
theorem give_HS {sz:Nat->Nat} (hsz: ∀i,1<=sz i): ∀{xs:List Nt} {KK:List (List Nat)} {i:Nat} {b:Int} {hs:List Hf},xs.length=KK.length->(∀t x K,xs[t]? =some x->KK[t]? =some K->OkK x (sz (i+t)) K)->SqS b xs->HS sz i xs KK hs→
 ∃hs2,giveS b hs=(⟨b+lead KK,hs2⟩,xs.take (lead KK))/\HS sz (i+lead KK) (xs.drop (lead KK)) (KK.drop (lead KK)) hs2
 |[],[],i,b,hs,hl,hK,hq,h=>by
  simp only [HS] at h;subst h;exact ⟨[],by simp [giveS,lead],by simp [lead,HS]⟩
 |x::xs,[],i,b,hs,hl,hK,hq,h=>by simp at hl
 |[],K::KK,i,b,hs,hl,hK,hq,h=>by simp at hl
 |x::xs,K::KK,i,b,hs,hl,hK,hq,h=>by
  have hok:OkK x (sz i) K:=hK 0 x K rfl rfl;have h':=h;simp only [HS] at h;cases hc:(K.length==0)
  ·have hl0:lead (K::KK)=0:=by simp only [lead,hc,cond_false]
   rw [hl0];refine ⟨hs,?_,by simpa using h'⟩
   rcases h with ⟨hst,h0,r,rfl,ho,ht⟩|⟨hns,ht⟩
   ·have hd:doneB h0=false:=by
     cases hd:doneB h0
     ·rfl
     ·have:=(done_iff (hsz i) hok hst ho).1 hd;rw [this] at hc;cases hc
    simp only [giveS,hd,Bool.and_false,cond_false];simp
   ·cases hs with
    |nil=>simp [giveS]
    |cons h5 r=>
     have h6:=HS_sq hq.2 ht h5 List.mem_cons_self;have e:(h5.sq==b)=false:=beq_eq_false_iff_ne.2 (by omega)
     simp only [giveS,e,Bool.false_and,cond_false];simp
  ·have hKn:K=[]:=List.eq_nil_of_length_eq_zero (beq_iff_eq.1 hc);subst hKn;have hl0:lead ([]::KK)=lead KK+1:=by simp only [lead,hc,cond_true]
   rw [hl0];rcases h with ⟨hst,h0,r,rfl,ho,ht⟩|⟨hns,ht⟩
   ·have hd:=(done_iff (hsz i) hok hst ho).2 rfl;have hs1:(h0.sq==b)=true:=by rw [beq_iff_eq,ho.sq,hq.1]
    obtain ⟨hs2,e,h3⟩:=give_HS hsz (by simpa using hl) (fun t y L g1 g2=>by have:=hK (t+1) y L (by simpa using g1) (by simpa using g2);rwa [show i+(t+1)=i+1+t by omega] at this) hq.2 ht
    refine ⟨hs2,?_,?_⟩
    ·simp only [giveS,hs1,hd,Bool.and_self,cond_true,e,whole_note (hsz i) ho];rw [List.take_succ_cons];congr 2;show b+1+(lead KK:Int)=b+((lead KK+1:Nat):Int);omega
    ·rw [show i+(lead KK+1)=i+1+lead KK by omega]
     simpa using h3
   ·exact absurd (staK_nil (hsz i)) hns
theorem hsB_HS {sz:Nat->Nat} (hsz: ∀i,1<=sz i) {nx:Int}: ∀{xs:List Nt} {KK:List (List Nat)} {i:Nat} {b:Int} {hs:List Hf} {prev:Option Int},(∀t x K,xs[t]? =some x->KK[t]? =some K->OkK x (sz (i+t)) K/\(staK x (sz (i+t)) K->b+t<nx+4/\(b+t=nx->K≠[])))->(∀x∈xs,noteB x=true)->SqS b xs->HS sz i xs KK hs->nx<=b->(∀e,prev=some e->e<b)→
 hsB nx prev hs=true
 |[],KK,i,b,hs,prev,hK,hn,hq,h,hb,hp=>by simp only [HS] at h;subst h;rfl
 |x::xs,[],i,b,hs,prev,hK,hn,hq,h,hb,hp=>by simp only [HS] at h;subst h;rfl
 |x::xs,K::KK,i,b,hs,prev,hK,hn,hq,h,hb,hp=>by
  have hok:=hK 0 x K rfl rfl;have hx:=hn x List.mem_cons_self;have hK2: ∀t y L,xs[t]? =some y->KK[t]? =some L->OkK y (sz (i+1+t)) L/\(staK y (sz (i+1+t)) L->b+1+t<nx+4/\(b+1+t=nx->L≠[])):=fun t y L g1 g2=>by
   have:=hK (t+1) y L (by simpa using g1) (by simpa using g2)
   rw [show i+(t+1)=i+1+t by omega] at this
   refine ⟨this.1,fun g3=> ?_⟩;have h4:=this.2 g3;refine ⟨by have:=h4.1;omega,fun g5=>h4.2 (by omega)⟩
  have hn2: ∀y∈xs,noteB y=true:=fun y hy=>hn y (List.mem_cons_of_mem _ hy);simp only [HS] at h;rcases h with ⟨hst,h0,r,rfl,ho,ht⟩|⟨hns,ht⟩
  ·have h2:=hok.2 hst;have hsq:h0.sq=b:=by rw [ho.sq,hq.1]
   have hd:b=nx->doneB h0=false:=fun e=>by
    cases hd:doneB h0
    ·rfl
    ·exact absurd ((done_iff (hsz i) hok.1 hst ho).1 hd) (h2.2 (by simpa using e))
   have hx2:=hx;simp only [noteB,Bool.and_eq_true,decide_eq_true_eq] at hx2;have h65:=inW_t hx2.2.1;simp only [hsB,Bool.and_eq_true,decide_eq_true_eq,Bool.or_eq_true,Bool.not_eq_true'];refine ⟨by omega,?_,?_,ho.half hx (staK_ne (hsz i) hst),?_,hsB_HS hsz hK2 hn2 hq.2 ht (by omega) (fun e he=>by cases he;omega)⟩
   ·have:=h2.1;have:=hq.1;rw [hsq];simp at this ⊢;omega
   ·cases prev with
    |none=>rfl
    |some e=>have:=hp e rfl;simp;omega
   ·by_cases e:b=nx
    ·exact .inr (hd e)
    ·exact .inl (by omega)
  ·exact hsB_HS hsz hK2 hn2 hq.2 ht (by omega) (fun e he=>by have:=hp e he;omega)
end Go.Proofs.Flt
namespace Go.Proofs.Flt
open Go.Ab
structure Cuts (b:Int) (ns:List Nt) (sz:Nat->Nat):Prop where
 b0:0<=b
 bn:b+ns.length<=65536
 sq:SqS b ns
 ok: ∀x∈ns,noteB x=true
 s1: ∀i,1<=sz i
 s2: ∀i,sz i<=1100
structure Inv (b:Int) (ns:List Nt) (sz:Nat->Nat) (f:Nat) (KK:List (List Nat)) (j:Jn):Prop where
 nx:j.nx=b+f
 fle:f<=ns.length
 len:(ns.drop f).length=KK.length
 hs:HS sz f (ns.drop f) KK j.hs
 ok: ∀t x K,(ns.drop f)[t]? =some x->KK[t]? =some K->OkK x (sz (f+t)) K/\(staK x (sz (f+t)) K->t<4/\(t=0->K≠[]))
theorem SqS_drop: ∀{xs:List Nt} {b:Int} (f:Nat),SqS b xs->SqS (b+f) (xs.drop f)
 |xs,b,0,h=>by simpa using h
 |[],b,f+1,h=>by simp [SqS]
 |x::xs,b,f+1,h=>by
  have:=SqS_drop f h.2;rw [List.drop_succ_cons,show b+((f+1:Nat):Int)=b+1+f by omega];exact this
section
variable {b:Int} {ns:List Nt} {sz:Nat->Nat} {f:Nat} {KK:List (List Nat)} {j:Jn}
theorem Inv.jn (c:Cuts b ns sz) (h:Inv b ns sz f KK j):jnB j=true:=by
 have hfle:=h.fle;have h0:=c.b0;have hn:=c.bn;simp only [jnB,Bool.and_eq_true];refine ⟨inW_of (by rw [h.nx];omega),?_⟩
 refine hsB_HS c.s1 (b:=b+f) (fun t x K g1 g2=>⟨(h.ok t x K g1 g2).1,fun g3=> ?_⟩) (fun x hx=>c.ok x (List.mem_of_mem_drop hx)) (SqS_drop f c.sq) h.hs (by rw [h.nx];exact Int.le_refl _) (fun e he=>by cases he)
 have:=(h.ok t x K g1 g2).2 g3;rw [h.nx];exact ⟨by omega,fun g4=>this.2 (by omega)⟩
theorem drop_at {xs:List Nt} {f t:Nat}:(xs.drop f)[t]? =xs[f+t]? :=by rw [List.getElem?_drop]
theorem read_piece (c:Cuts b ns sz) {i k:Nat} {x:Nt} (hx:ns[i]? =some x) (hk:k<cutN x.bd.length (sz i)):readS (pcO (cutP x (sz i) k))=(cutP x (sz i) k,0):=
 read_cut (cutP_ok (c.ok x (List.mem_of_getElem? hx)) ⟨c.s1 i,c.s2 i⟩ hk)
theorem sq_at (c:Cuts b ns sz) {i:Nat} {x:Nt} (hx:ns[i]? =some x) (k:Nat):(cutP x (sz i) k).sq=b+i:=SqS_at c.sq hx
theorem Inv.old (c:Cuts b ns sz) (h:Inv b ns sz f KK j) {i k:Nat} {x:Nt} (hx:ns[i]? =some x) (hk:k<cutN x.bd.length (sz i)) (hi:i<f):takeS j (pcO (cutP x (sz i) k))=(j,[],0):=by
 have h1:=read_piece c hx hk;have h2:=sq_at c hx k;have h3:=h.nx;simp only [takeS,h.jn c,h1,if_true];rw [if_pos (by rw [h2,h3];omega)]
theorem Inv.again (c:Cuts b ns sz) (h:Inv b ns sz f KK j) {t k:Nat} {x:Nt} {K:List Nat} (hx:ns[f+t]? =some x) (hK:KK[t]? =some K) (hk:k<cutN x.bd.length (sz (f+t))) (h2:k ∉ K):takeS j (pcO (cutP x (sz (f+t)) k))=(j,[],0):=by
 have e1:=read_piece c hx hk;have e2:=sq_at c hx k;have e3:=h.nx;have hx2:(ns.drop f)[t]? =some x:=by rw [drop_at];exact hx
 have ht:=((h.ok t x K hx2 hK).2 ⟨k,hk,h2⟩).1;have e4:=again_HS c.s1 (SqS_drop f c.sq) h.hs hx2 hK hk h2;obtain ⟨hs2,g1,g2⟩:=give_HS c.s1 h.len (fun t x K a1 a2=>(h.ok t x K a1 a2).1) (SqS_drop f c.sq) h.hs;have hl:lead KK=0:=by
  cases hKK:KK with
  |nil=>rfl
  |cons L r=>
   simp only [lead];cases hc:(L.length==0)
   ·rfl
   ·exfalso;have hL:L=[]:=List.eq_nil_of_length_eq_zero (beq_iff_eq.1 hc);have hlen:=h.len;rw [hKK] at hlen;obtain ⟨y,hy⟩: ∃y,(ns.drop f)[0]? =some y:=⟨_,List.getElem?_eq_getElem (by rw [hlen];simp)⟩
    have:=(h.ok 0 y L hy (by rw [hKK];rfl)).2 (by rw [hL];exact staK_nil (c.s1 _))
    exact this.2 rfl hL
 rw [hl] at g1 g2;have g3:giveS (b+f) j.hs=(j,[]):=by
  have hh: ∀hs:List Hf,(∀h∈hs,b+f<=h.sq)->giveS (b+f) hs=(⟨b+(f:Int)+((0:Nat):Int),hs2⟩,List.take 0 (ns.drop f))->hs=hs2:=fun hs _ he=>by
   cases hs with
   |nil=>simp only [giveS] at he;have:=congrArg (fun z=>z.1.hs) he;exact this
   |cons a r=>
    simp only [giveS] at he;cases hc:((a.sq==b+(f:Int))&&doneB a)
    ·rw [hc,cond_false] at he;exact congrArg (fun z=>z.1.hs) he
    ·rw [hc,cond_true] at he;have:=congrArg (fun z=>z.2.length) he;simp at this
  have:=hh j.hs (HS_sq (SqS_drop f c.sq) h.hs) g1;rw [g1,<-this];obtain ⟨nx,hs⟩:=j;have e5:nx=b+f:=e3;rw [e5];simp
 simp only [takeS,h.jn c,e1,if_true];rw [if_neg (by rw [e2,e3];omega),if_neg (by rw [e2,e3];omega),e4]
 simp only [e3,g3]
theorem Inv.step (c:Cuts b ns sz) (h:Inv b ns sz f KK j) {t k:Nat} {x:Nt} {K K2:List Nat} (ht:t<4) (hx:ns[f+t]? =some x) (hK:KK[t]? =some K) (hk:k∈K) (hnd:K2.Nodup) (h2: ∀l,l∈K2↔l∈K/\l≠k):
 ∃j2,takeS j (pcO (cutP x (sz (f+t)) k))=(j2,(ns.drop f).take (lead (KK.set t K2)),0)/\Inv b ns sz (f+lead (KK.set t K2)) ((KK.set t K2).drop (lead (KK.set t K2))) j2:=by
 have hx2:(ns.drop f)[t]? =some x:=by rw [drop_at];exact hx
 have hok:=h.ok t x K hx2 hK;have hkc:=hok.1.lt k hk;have e1:=read_piece c hx hkc;have e2:=sq_at c hx k;have e3:=h.nx;have htl:t<KK.length:=(List.getElem?_eq_some_iff.1 hK).1;obtain ⟨hs2,p1,p2⟩:=put_HS c.s1 (SqS_drop f c.sq) h.hs hx2 hK hkc h2;have hok2: ∀u y L,(ns.drop f)[u]? =some y->(KK.set t K2)[u]? =some L->OkK y (sz (f+u)) L/\(staK y (sz (f+u)) L->u<4):=fun u y L g1 g2=>by
  by_cases e:u=t
  ·subst e;rw [List.getElem?_set_self htl] at g2;cases g2;rw [hx2] at g1;cases g1;exact ⟨⟨hnd,fun l hl=>hok.1.lt l ((h2 l).1 hl).1⟩,fun _=>ht⟩
  ·rw [List.getElem?_set_ne (fun h=>e h.symm)] at g2;have:=h.ok u y L g1 g2;exact ⟨this.1,fun g3=>(this.2 g3).1⟩
 obtain ⟨hs3,g1,g2⟩:=give_HS c.s1 (by rw [List.length_set];exact h.len) (fun u y L a1 a2=>(hok2 u y L a1 a2).1) (SqS_drop f c.sq) p2
 refine ⟨⟨b+f+lead (KK.set t K2),hs3⟩,?_,?_⟩
 ·simp only [takeS,h.jn c,e1,if_true];rw [if_neg (by rw [e2,e3];omega),if_neg (by rw [e2,e3];omega),p1]
  simp only [e3,g1]
 ·have hll: ∀M:List (List Nat),lead M<=M.length:=fun M=>by
   induction M with
   |nil=>exact Nat.le_refl _
   |cons a r ih=>simp only [lead];cases a.length==0<;>simp only [cond_true,cond_false,List.length_cons]<;>omega
  have hlead:=hll (KK.set t K2);have hlen:=h.len;rw [List.length_set] at hlead;rw [List.length_drop] at hlen;have hfle:=h.fle;refine ⟨by show b+(f:Int)+_=b+((f+lead (KK.set t K2):Nat):Int);omega,by omega,?_,by rw [<-List.drop_drop];exact g2,fun u y L a1 a2=> ?_⟩
  ·rw [List.length_drop,List.length_drop,List.length_set];omega
  ·rw [<-List.drop_drop,List.getElem?_drop] at a1;rw [List.getElem?_drop] at a2;have:=hok2 (lead (KK.set t K2)+u) y L a1 a2;rw [show f+lead (KK.set t K2)+u=f+(lead (KK.set t K2)+u) by omega]
   refine ⟨this.1,fun g3=>⟨by have:=this.2 g3;omega,fun g4=> ?_⟩⟩
   subst g4;have hne: ∀(M:List (List Nat)) (L:List Nat),M[lead M+0]? =some L->L≠[]:=fun M=>by
    induction M with
    |nil=>intro L hL;simp at hL
    |cons a r ih=>
     intro L hL;simp only [lead] at hL;cases hc:(a.length==0)
     ·rw [hc,cond_false] at hL;simp at hL;subst hL;rintro rfl;cases hc
     ·rw [hc,cond_true] at hL;exact ih L (by simpa using hL)
   exact hne _ _ a2
end
end Go.Proofs.Flt
namespace Go.Proofs.Flt
open Go.Ab
def strs (sz:Nat->Nat):Nat->List Nt->List (List Nat)->Lls
 |i,x::xs,K::KK=>K.map (fun k=>pcO (cutP x (sz i) k))::strs sz (i+1) xs KK
 |_,_,_=>[]
theorem strs_len {sz:Nat->Nat}: ∀{xs:List Nt} {KK:List (List Nat)} {i:Nat},xs.length=KK.length->(strs sz i xs KK).length=KK.length
 |[],[],i,_=>rfl
 |[],K::KK,i,h=>by simp at h
 |x::xs,[],i,h=>by simp at h
 |x::xs,K::KK,i,h=>by simp only [strs,List.length_cons];rw [strs_len (by simpa using h)]
theorem strs_at {sz:Nat->Nat}: ∀{t:Nat} {xs:List Nt} {KK:List (List Nat)} {i:Nat} {x:Nt} {K:List Nat},xs[t]? =some x->KK[t]? =some K->(strs sz i xs KK)[t]? =some (K.map (fun k=>pcO (cutP x (sz (i+t)) k)))
 |t,[],KK,i,x,K,h,_=>by simp at h
 |t,y::xs,[],i,x,K,_,h=>by simp at h
 |0,y::xs,L::KK,i,x,K,h1,h2=>by simp at h1 h2;subst h1;subst h2;rfl
 |t+1,y::xs,L::KK,i,x,K,h1,h2=>by
  have:=strs_at (sz:=sz) (i:=i+1) (t:=t) (xs:=xs) (KK:=KK) (by simpa using h1) (by simpa using h2)
  simp only [strs,List.getElem?_cons_succ];rw [this,show i+1+t=i+(t+1) by omega]
theorem strs_set {sz:Nat->Nat} {K2:List Nat}: ∀{t:Nat} {xs:List Nt} {KK:List (List Nat)} {i:Nat} {x:Nt},xs[t]? =some x->(strs sz i xs KK).set t (K2.map (fun k=>pcO (cutP x (sz (i+t)) k)))=strs sz i xs (KK.set t K2)
 |t,[],KK,i,x,h=>by simp at h
 |t,y::xs,[],i,x,_=>by simp [strs]
 |0,y::xs,L::KK,i,x,h1=>by simp at h1;subst h1;rfl
 |t+1,y::xs,L::KK,i,x,h1=>by
  have:=strs_set (sz:=sz) (K2:=K2) (i:=i+1) (t:=t) (xs:=xs) (KK:=KK) (x:=x) (by simpa using h1)
  simp only [strs,List.set];rw [<-this,show i+1+t=i+(t+1) by omega]
theorem strs_drop {sz:Nat->Nat}: ∀{xs:List Nt} {KK:List (List Nat)} {i:Nat},xs.length=KK.length->dropE (strs sz i xs KK)=strs sz (i+lead KK) (xs.drop (lead KK)) (KK.drop (lead KK))
 |[],[],i,_=>rfl
 |[],K::KK,i,h=>by simp at h
 |x::xs,[],i,h=>by simp at h
 |x::xs,K::KK,i,h=>by
  simp only [strs,dropE,lead,List.length_map];cases hc:(K.length==0)
  ·rfl
  ·rw [cond_true,cond_true,strs_drop (by simpa using h),show i+1+lead KK=i+(lead KK+1) by omega]
   rfl
def full (sz:Nat->Nat):Nat->List Nt->List (List Nat)
 |i,x::xs=>List.range (cutN x.bd.length (sz i))::full sz (i+1) xs
 |_,[]=>[]
theorem full_len {sz:Nat->Nat}: ∀{xs:List Nt} {i:Nat},(full sz i xs).length=xs.length
 |[],i=>rfl
 |x::xs,i=>by simp only [full,List.length_cons];rw [full_len]
theorem full_at {sz:Nat->Nat}: ∀{t:Nat} {xs:List Nt} {i:Nat} {x:Nt},xs[t]? =some x->(full sz i xs)[t]? =some (List.range (cutN x.bd.length (sz (i+t))))
 |t,[],i,x,h=>by simp at h
 |0,y::xs,i,x,h=>by simp at h;subst h;rfl
 |t+1,y::xs,i,x,h=>by
  have:=full_at (sz:=sz) (i:=i+1) (t:=t) (xs:=xs) (x:=x) (by simpa using h)
  simp only [full,List.getElem?_cons_succ];rw [this,show i+1+t=i+(t+1) by omega]
theorem mapN_range {α:Type} {g:Nat->α}: ∀n,mapN g n=(List.range n).map g
 |0=>rfl
 |n+1=>by rw [mapN_s,mapN_range n,List.range_succ,List.map_append];rfl
theorem lsS_strs (l:List Nt) (s:List UInt8):lsS l s=strs (szK s) 0 l (full (szK s) 0 l):=by
 apply List.ext_getElem?;intro t;by_cases ht:t<l.length
 ·obtain ⟨x,hx⟩: ∃x,l[t]? =some x:=⟨_,List.getElem?_eq_getElem ht⟩;rw [strs_at hx (full_at hx)];unfold lsS;rw [mapN_get ht];simp only [lsK,hx,cutL,mapN_range,Nat.zero_add]
 ·rw [List.getElem?_eq_none (by rw [lsS_len];omega),List.getElem?_eq_none (by rw [strs_len full_len.symm,full_len];omega)]
theorem HS_full {sz:Nat->Nat}: ∀{xs:List Nt} {i:Nat},HS sz i xs (full sz i xs) []
 |[],i=>by simp [HS]
 |x::xs,i=>by
  simp only [full,HS];refine .inr ⟨fun ⟨k,h1,h2⟩=>h2 (List.mem_range.2 h1),HS_full⟩
section
variable {b:Int} {ns:List Nt} {sz:Nat->Nat} {f:Nat} {KK:List (List Nat)} {j:Jn}
theorem Inv.start (c:Cuts b ns sz):Inv b ns sz 0 (full sz 0 ns) ⟨b,[]⟩:=by
 refine ⟨by simp,Nat.zero_le _,by rw [full_len];rfl,HS_full,fun t x K h1 h2=> ?_⟩
 rw [List.drop_zero] at h1;rw [full_at h1] at h2;cases h2;refine ⟨⟨List.nodup_range,fun k hk=>List.mem_range.1 hk⟩,fun ⟨k,g1,g2⟩=>absurd (List.mem_range.2 g1) g2⟩
def Old (ns:List Nt) (sz:Nat->Nat) (f:Nat) (KK:List (List Nat)) (s:List UInt8):Prop:=
 ∃i x k,ns[i]? =some x/\k<cutN x.bd.length (sz i)/\s=pcO (cutP x (sz i) k)/\(i<f\/ ∃t K,i=f+t/\KK[t]? =some K/\k ∉ K)
theorem Old.take (c:Cuts b ns sz) (h:Inv b ns sz f KK j) {s:List UInt8} (ho:Old ns sz f KK s):takeS j s=(j,[],0):=by
 obtain ⟨i,x,k,h1,h2,rfl,h3|⟨t,K,rfl,h4,h5⟩⟩:=ho
 ·exact h.old c h1 h2 h3
 ·exact h.again c h1 h4 h2 h5
theorem pickK_4 (n:Nat) (LL:Lls):pickK n LL<4:=by
 have:pick1 n LL<4:=by
  unfold pick1;cases h:decide (4<=n % LL.length)
  ·have:=of_decide_eq_false h;rw [cond_false];omega
  ·rw [cond_true];omega
 unfold pickK;cases (LL.getD (pick1 n LL) []).length==0<;>simp only [cond_true,cond_false]<;>omega
theorem mix_step (c:Cuts b ns sz) (h:Inv b ns sz f KK j) (hne:KK≠[]) (n:Nat) (hf:Frt (strs sz f (ns.drop f) KK)):
 ∃s f2 KK2 j2,takeS j s=(j2,(ns.drop f).take (f2-f),0)/\f<=f2/\Inv b ns sz f2 KK2 j2/\outK n ((strs sz f (ns.drop f) KK).getD (pickK n (strs sz f (ns.drop f) KK)) [])=(bif n % 3==0 then [s,s] else [s])∧
  dropE (setK n (strs sz f (ns.drop f) KK))=strs sz f2 (ns.drop f2) KK2/\Old ns sz f2 KK2 s/\ ∀s2,Old ns sz f KK s2->Old ns sz f2 KK2 s2:=by
 have hlen:=h.len;have hsl:=strs_len (sz:=sz) (i:=f) hlen;have hLne:strs sz f (ns.drop f) KK≠[]:=fun h0=>by
  rw [h0] at hsl;exact hne (List.eq_nil_of_length_eq_zero hsl.symm)
 have ht4:=pickK_4 n (strs sz f (ns.drop f) KK);have htl:=pickK_lt (n:=n) hLne;have hnn:=pickK_ne (n:=n) hLne hf;have hset:setK n (strs sz f (ns.drop f) KK)=(strs sz f (ns.drop f) KK).set (pickK n (strs sz f (ns.drop f) KK)) (remK n ((strs sz f (ns.drop f) KK).getD (pickK n (strs sz f (ns.drop f) KK)) [])):=rfl;generalize pickK n (strs sz f (ns.drop f) KK)=t at*;rw [hsl] at htl;obtain ⟨K,hK⟩: ∃K,KK[t]? =some K:=⟨_,List.getElem?_eq_getElem htl⟩;obtain ⟨x,hx⟩: ∃x,(ns.drop f)[t]? =some x:=⟨_,List.getElem?_eq_getElem (by omega)⟩
 have hat:=strs_at (sz:=sz) (i:=f) hx hK;have hgd:(strs sz f (ns.drop f) KK).getD t []=K.map (fun k=>pcO (cutP x (sz (f+t)) k)):=by simp only [List.getD_eq_getElem?_getD,hat,Option.getD_some]
 rw [hgd] at hset hnn ⊢;have hKl:0<K.length:=by
  rcases Nat.eq_zero_or_pos K.length with h0|h0
  ·exact absurd (by rw [List.eq_nil_of_length_eq_zero h0];rfl) hnn
  ·exact h0
 have ha:atK n (K.map (fun k=>pcO (cutP x (sz (f+t)) k)))<K.length:=by
  have:=Nat.mod_lt (n/8) hKl;simpa [atK] using this
 have hrem:remK n (K.map (fun k=>pcO (cutP x (sz (f+t)) k)))=(K.take (atK n (K.map (fun k=>pcO (cutP x (sz (f+t)) k))))++K.drop (atK n (K.map (fun k=>pcO (cutP x (sz (f+t)) k)))+1)).map (fun k=>pcO (cutP x (sz (f+t)) k)):=by
  simp only [remK,List.map_append,List.map_take,List.map_drop]
 obtain ⟨k,hk⟩: ∃k,K[atK n (K.map (fun k=>pcO (cutP x (sz (f+t)) k)))]? =some k:=⟨_,List.getElem?_eq_getElem ha⟩;have hout:outK n (K.map (fun k=>pcO (cutP x (sz (f+t)) k)))=bif n % 3==0 then [pcO (cutP x (sz (f+t)) k),pcO (cutP x (sz (f+t)) k)] else [pcO (cutP x (sz (f+t)) k)]:=by
  simp only [outK,List.getD_eq_getElem?_getD,List.getElem?_map,hk,Option.map_some,Option.getD_some]
 rw [hrem] at hset;generalize atK n (K.map (fun k=>pcO (cutP x (sz (f+t)) k)))=a at*;have hok:=h.ok t x K hx hK;have hsplit:K=K.take a++k::K.drop (a+1):=by
  have h1:=List.getElem?_eq_some_iff.1 hk;rw [<-h1.2,<-List.drop_eq_getElem_cons h1.1,List.take_append_drop]
 have hnd:=hok.1.nd;rw [hsplit] at hnd;have hnd2:(K.take a++K.drop (a+1)).Nodup:=by
  rw [List.nodup_append] at hnd ⊢;obtain ⟨d1,d2,d3⟩:=hnd;rw [List.nodup_cons] at d2;exact ⟨d1,d2.2,fun y hy z hz=>d3 y hy z (List.mem_cons_of_mem _ hz)⟩
 have hiff: ∀l,l∈K.take a++K.drop (a+1)↔l∈K/\l≠k:=fun l=>by
  rw [List.nodup_append] at hnd;obtain ⟨d1,d2,d3⟩:=hnd;rw [List.nodup_cons] at d2;constructor
  ·intro hl;rcases List.mem_append.1 hl with hl|hl
   ·refine ⟨List.mem_of_mem_take hl,d3 l hl k List.mem_cons_self⟩
   ·refine ⟨List.mem_of_mem_drop hl,fun e=>d2.1 (e▸hl)⟩
  ·rintro ⟨hl,hlk⟩;rw [hsplit] at hl;rcases List.mem_append.1 hl with hl|hl
   ·exact List.mem_append.2 (.inl hl)
   ·rcases List.mem_cons.1 hl with hl|hl
    ·exact absurd hl hlk
    ·exact List.mem_append.2 (.inr hl)
 have hkK:k∈K:=List.mem_of_getElem? hk;have hx1:ns[f+t]? =some x:=by rw [<-drop_at];exact hx
 obtain ⟨j2,e1,e2⟩:=h.step c ht4 hx1 hK hkK hnd2 hiff;generalize hK2:K.take a++K.drop (a+1)=K2 at*;have hss:=strs_set (sz:=sz) (K2:=K2) (KK:=KK) (i:=f) hx;have hmono: ∀(i k':Nat),(i<f\/ ∃u L,i=f+u/\KK[u]? =some L/\k' ∉ L)->(i<f+lead (KK.set t K2)\/ ∃u L,i=f+lead (KK.set t K2)+u/\((KK.set t K2).drop (lead (KK.set t K2)))[u]? =some L/\k' ∉ L):=fun i k' hh=>by
  rcases hh with hh|⟨u,L,rfl,h5,h6⟩
  ·exact .inl (by omega)
  ·by_cases hu:u<lead (KK.set t K2)
   ·exact .inl (by omega)
   ·refine .inr ?_;by_cases e:u=t
    ·subst e;rw [hK] at h5;cases h5;refine ⟨u-lead (KK.set u K2),K2,by omega,?_,fun h7=>h6 ((hiff _).1 h7).1⟩
     rw [List.getElem?_drop,show lead (KK.set u K2)+(u-lead (KK.set u K2))=u by omega,List.getElem?_set_self htl]
    ·refine ⟨u-lead (KK.set t K2),L,by omega,?_,h6⟩
     rw [List.getElem?_drop,show lead (KK.set t K2)+(u-lead (KK.set t K2))=u by omega,List.getElem?_set_ne (fun e2=>e e2.symm)]
     exact h5
 refine ⟨_,f+lead (KK.set t K2),(KK.set t K2).drop (lead (KK.set t K2)),j2,by rw [Nat.add_sub_cancel_left];exact e1,Nat.le_add_right _ _,e2,hout,?_,?_,fun s2 ho=> ?_⟩
 ·rw [hset,hss,strs_drop (by rw [List.length_set];exact hlen),List.drop_drop]
 ·refine ⟨f+t,x,k,hx1,hok.1.lt k hkK,rfl,?_⟩;by_cases hu:t<lead (KK.set t K2)
  ·exact .inl (by omega)
  ·refine .inr ⟨t-lead (KK.set t K2),K2,by omega,?_,fun h7=>((hiff _).1 h7).2 rfl⟩
   rw [List.getElem?_drop,show lead (KK.set t K2)+(t-lead (KK.set t K2))=t by omega,List.getElem?_set_self htl]
 ·obtain ⟨i,y,l,h3,h4,h5,h6⟩:=ho;exact ⟨i,y,l,h3,h4,h5,hmono i l h6⟩
end
end Go.Proofs.Flt
namespace Go.Proofs.Flt
open Go.Ab
def runT:Jn->List (List UInt8)->Option (Jn×List Nt)
 |j,[]=>some (j,[])
 |j,s::r=>if (takeS j s).2.2=0 then (runT (takeS j s).1 r).map (fun u=>(u.1,(takeS j s).2.1++u.2)) else none
theorem runT_cons {j j2 j3:Jn} {s:List UInt8} {r:List (List UInt8)} {n1 n2:List Nt} (h1:takeS j s=(j2,n1,0)) (h2:runT j2 r=some (j3,n2)):runT j (s::r)=some (j3,n1++n2):=by
 simp only [runT,h1,if_true,h2,Option.map_some]
theorem take_cat {α:Type} {l:List α} {f f2 f3:Nat} (h1:f<=f2) (h2:f2<=f3):(l.drop f).take (f2-f)++(l.drop f2).take (f3-f2)=(l.drop f).take (f3-f):=by
 have h:l.drop f2=(l.drop f).drop (f2-f):=by rw [List.drop_drop];congr 1;omega
 rw [h,show f3-f=(f2-f)+(f3-f2) by omega,List.take_add]
section
variable {b:Int} {ns:List Nt} {sz:Nat->Nat}
theorem mix_run (c:Cuts b ns sz) (od:List UInt8): ∀(m:Nat) (f:Nat) (KK:List (List Nat)) (j:Jn) (st:Nat),tot (strs sz f (ns.drop f) KK)=m->Inv b ns sz f KK j->Frt (strs sz f (ns.drop f) KK)-> ∀pre post,mixL od m (strs sz f (ns.drop f) KK) st=pre++post→
 ∃f2 KK2 j2,runT j pre=some (j2,(ns.drop f).take (f2-f))/\f<=f2/\Inv b ns sz f2 KK2 j2/\(∀s∈pre,Old ns sz f2 KK2 s)/\(∀s,Old ns sz f KK s->Old ns sz f2 KK2 s)/\(post=[]->KK2=[]):=by
 intro m;induction m with
 |zero=>
  intro f KK j st ht h hf pre post hm;have hKK:KK=[]:=by
   rcases Classical.em (KK=[]) with h0|h0
   ·exact h0
   ·exfalso;have hsl:=strs_len (sz:=sz) (i:=f) h.len;cases hS:strs sz f (ns.drop f) KK with
    |nil=>rw [hS] at hsl;exact h0 (List.eq_nil_of_length_eq_zero hsl.symm)
    |cons x r=>
     have hx:=hf x r hS;rw [hS] at ht;simp only [tot,List.map_cons,List.sum_cons] at ht;exact hx (List.eq_nil_of_length_eq_zero (by omega))
  have he:pre=[]/\post=[]:=by
   have:pre++post=[]:=by rw [<-hm];rfl
   simpa using this
  obtain ⟨rfl,rfl⟩:=he;exact ⟨f,KK,j,by simp [runT],Nat.le_refl _,h,(fun s hs=>by cases hs),fun s hs=>hs,fun _=>hKK⟩
 |succ m ih=>
  intro f KK j st ht h hf pre post hm;have hsl:=strs_len (sz:=sz) (i:=f) h.len;by_cases h0:KK=[]
  ·exfalso;rw [h0] at hsl;rw [h0,List.eq_nil_of_length_eq_zero hsl] at ht;cases ht
  have hLne:strs sz f (ns.drop f) KK≠[]:=fun e=>by rw [e] at hsl;exact h0 (List.eq_nil_of_length_eq_zero hsl.symm)
  obtain ⟨s,f2,KK2,j2,e1,e2,e3,e4,e5,e6,e7⟩:=mix_step c h h0 (orK od st) hf;have htot:=setK_tot (n:=orK od st) hLne hf;have hfr:=dropE_frt (setK (orK od st) (strs sz f (ns.drop f) KK));have hstep:=mixL_step (od:=od) (st:=st) hLne hf;rw [ht,hm,e4,e5] at hstep;rw [e5] at htot hfr;have ht2:tot (strs sz f2 (ns.drop f2) KK2)=m:=by omega
  rw [ht2] at hstep;have ih:=ih f2 KK2 j2 (st+1) ht2 e3 hfr;have again:=Old.take c e3 e6;have nil_case:post≠[]->pre=[]-> ∃f3 KK3 j3,runT j pre=some (j3,(ns.drop f).take (f3-f))/\f<=f3/\Inv b ns sz f3 KK3 j3/\(∀s∈pre,Old ns sz f3 KK3 s)/\(∀s,Old ns sz f KK s->Old ns sz f3 KK3 s)/\(post=[]->KK3=[]):=fun hp hpre=>by
   subst hpre;exact ⟨f,KK,j,by simp [runT],Nat.le_refl _,h,(fun s hs=>by cases hs),fun s hs=>hs,fun e=>absurd e hp⟩
  cases hc:(orK od st % 3==0)
  ·rw [hc,cond_false] at hstep;cases pre with
   |nil=>exact nil_case (by rintro rfl;simp at hstep) rfl
   |cons a pre=>
    rw [List.cons_append,List.cons_append,List.nil_append] at hstep;injection hstep with g1 g2
    subst g1;obtain ⟨f3,KK3,j3,i1,i2,i3,i4,i5,i6⟩:=ih pre post g2.symm;refine ⟨f3,KK3,j3,?_,by omega,i3,fun s2 hs2=> ?_,fun s2 hs2=>i5 s2 (e7 s2 hs2),i6⟩
    ·rw [runT_cons e1 i1,take_cat e2 i2]
    ·rcases List.mem_cons.1 hs2 with rfl|hs2
     ·exact i5 _ e6
     ·exact i4 s2 hs2
  ·rw [hc,cond_true] at hstep;cases pre with
   |nil=>exact nil_case (by rintro rfl;simp at hstep) rfl
   |cons a pre=>
    rw [List.cons_append,List.cons_append,List.cons_append,List.nil_append] at hstep;injection hstep with g1 g2
    subst g1;cases pre with
    |nil=>
     refine ⟨f2,KK2,j2,?_,e2,e3,fun s2 hs2=> ?_,e7,fun e=> ?_⟩
     ·have:=runT_cons (r:=[]) e1 (by rfl:runT j2 []=some (j2,[]))
      rw [this,List.append_nil]
     ·rw [List.mem_singleton] at hs2;subst hs2;exact e6
     ·subst e;simp at g2
    |cons a2 pre=>
     rw [List.cons_append] at g2;injection g2 with g3 g4
     subst g3;obtain ⟨f3,KK3,j3,i1,i2,i3,i4,i5,i6⟩:=ih pre post g4.symm;refine ⟨f3,KK3,j3,?_,by omega,i3,fun s2 hs2=> ?_,fun s2 hs2=>i5 s2 (e7 s2 hs2),i6⟩
     ·rw [runT_cons e1 (runT_cons again i1),List.nil_append,take_cat e2 i2]
     ·rcases List.mem_cons.1 hs2 with rfl|hs2
      ·exact i5 _ e6
      ·rcases List.mem_cons.1 hs2 with rfl|hs2
       ·exact i5 _ e6
       ·exact i4 s2 hs2
theorem mixS_run (s od:List UInt8) (c:Cuts b ns (szK s)) (pre post:List (List UInt8)) (h:mixS ns s od=pre++post):
 ∃f2 KK2 j2,runT ⟨b,[]⟩ pre=some (j2,ns.take f2)/\Inv b ns (szK s) f2 KK2 j2/\(∀s2∈pre,takeS j2 s2=(j2,[],0))/\(post=[]->j2=⟨b+ns.length,[]⟩/\f2=ns.length):=by
 have hL:=lsS_strs ns s;unfold mixS at h;rw [hL] at h;have hfr:=lsS_frt (sz:=s) c.ok;rw [hL] at hfr;obtain ⟨f2,KK2,j2,a1,a2,a3,a4,a5,a6⟩:=mix_run c od _ 0 _ ⟨b,[]⟩ 0 rfl (Inv.start c) hfr pre post h;refine ⟨f2,KK2,j2,by simpa using a1,a3,fun s2 hs=>Old.take c a3 (a4 s2 hs),fun hp=> ?_⟩
 have hk:=a6 hp;subst hk;have hlen:=a3.len;rw [List.length_drop] at hlen;have hle:=a3.fle;have hf:f2=ns.length:=by simp at hlen;omega
 subst hf;have hhs:=a3.hs;have hnx:=a3.nx;rw [List.drop_length] at hhs;simp only [HS] at hhs;obtain ⟨nx,hs⟩:=j2;dsimp only at hhs hnx;subst hhs;subst hnx;exact ⟨rfl,rfl⟩
end
end Go.Proofs.Flt
namespace Go.Proofs.Flt
open Go.Ab
theorem runT_snoc {s:List UInt8}: ∀{pre:List (List UInt8)} {j:Jn},runT j (pre++[s])=(runT j pre).bind fun u=>if (takeS u.1 s).2.2=0 then some ((takeS u.1 s).1,u.2++(takeS u.1 s).2.1) else none
 |[],j=>by
  simp only [List.nil_append,runT,Option.bind_some];split<;>simp
 |a::pre,j=>by
  simp only [List.cons_append,runT];split
  ·rw [runT_snoc];cases runT (takeS j a).1 pre with
   |none=>rfl
   |some u=>
    simp only [Option.bind_some,Option.map_some];split
    ·simp
    ·simp
  ·rfl
def JJ (b:Int) (L:List (List UInt8)):Nat->Jn
 |0=>⟨b,[]⟩
 |i+1=>(takeS (JJ b L i) (L.getD i [])).1
def NN (b:Int) (L:List (List UInt8)):Nat->List Nt
 |0=>[]
 |i+1=>NN b L i++(takeS (JJ b L i) (L.getD i [])).2.1
theorem runT_JJ {b:Int} {L:List (List UInt8)}: ∀{i:Nat},i<=L.length->(∃u,runT ⟨b,[]⟩ (L.take i)=some u)->runT ⟨b,[]⟩ (L.take i)=some (JJ b L i,NN b L i)/\ ∀k,k<i->(takeS (JJ b L k) (L.getD k [])).2.2=0
 |0,_,_=>⟨rfl,fun k hk=>by omega⟩
 |i+1,hi,⟨u,hu⟩=>by
  obtain ⟨s,hs⟩: ∃s,L[i]? =some s:=⟨_,List.getElem?_eq_getElem (by omega)⟩
  have ht:L.take (i+1)=L.take i++[s]:=by rw [List.take_add_one,hs];rfl
  rw [ht,runT_snoc] at hu ⊢;cases hr:runT ⟨b,[]⟩ (L.take i) with
  |none=>rw [hr] at hu;cases hu
  |some v=>
   have ih:=runT_JJ (b:=b) (L:=L) (i:=i) (by omega) ⟨v,hr⟩
   rw [hr] at hu ih;have hv:=Option.some.inj ih.1;subst hv;have hg:L.getD i []=s:=by simp only [List.getD_eq_getElem?_getD,hs,Option.getD_some]
   simp only [Option.bind_some] at hu ⊢;split at hu
   ·rename_i he;rw [if_pos he];refine ⟨by simp only [JJ,NN,hg],fun k hk=> ?_⟩
    rcases Nat.lt_succ_iff_lt_or_eq.1 hk with h|h
    ·exact ih.2 k h
    ·subst h;rw [hg];exact he
   ·cases hu
section
variable {b:Int} {ns:List Nt}
theorem way (s od:List UInt8) (c:Cuts b ns (szK s)) {L:List (List UInt8)} (hL:L=mixS ns s od) {i:Nat} (hi:i<=L.length):
 jnB (JJ b L i)=true/\(∀k,k<i->(takeS (JJ b L k) (L.getD k [])).2.2=0)/\(∀k,k<i->takeS (JJ b L i) (L.getD k [])=(JJ b L i,[],0))/\(i=L.length->JJ b L i=⟨b+ns.length,[]⟩/\NN b L i=ns)/\ ∃f,NN b L i=ns.take f:=by
 obtain ⟨f2,KK2,j2,a1,a2,a3,a4⟩:=mixS_run s od c (L.take i) (L.drop i) (by rw [<-hL,List.take_append_drop])
 have h:=runT_JJ (b:=b) hi ⟨_,a1⟩;rw [a1] at h;have he:=Option.some.inj h.1;have e1:j2=JJ b L i:=congrArg Prod.fst he;have e2:ns.take f2=NN b L i:=congrArg Prod.snd he;subst e1;refine ⟨a2.jn c,h.2,fun k hk=> ?_,fun hil=> ?_,f2,e2.symm⟩
 ·obtain ⟨x,hx⟩: ∃x,L[k]? =some x:=⟨_,List.getElem?_eq_getElem (by omega)⟩
  have hg:L.getD k []=x:=by simp only [List.getD_eq_getElem?_getD,hx,Option.getD_some]
  rw [hg];refine a3 x (List.mem_of_getElem? (i:=k) ?_);rw [List.getElem?_take,if_pos hk];exact hx
 ·obtain ⟨g1,g2⟩:=a4 (by rw [hil,List.drop_length])
  refine ⟨g1,?_⟩;rw [<-e2,g2,List.take_length]
end
theorem srt_len {ln:Int}: ∀{lo:Int} {l:List (Int×Int)},srt ln lo l->lo<=ln->(l.length:Int)<=ln-lo
 |lo,[],_,h=>by simp;omega
 |lo,x::r,hs,h=>by
  obtain ⟨s1,s2,s3,s4⟩:=hs;have:=srt_len s4 s3;simp only [List.length_cons];omega
theorem half_bnd {h:Hf} (hh:halfB h=true):h.got.length<=4001/\h.bd.length<=4000:=by
 simp only [halfB,Bool.and_eq_true,beq_iff_eq] at hh;obtain ⟨h1,h2,h3,h4,h5,h6⟩:=hh;have h2:=inW_t h2;have:=srt_len (gotB_srt.1 h5) (by omega)
 omega
theorem hsB_bnd {nx:Int}: ∀{hs:List Hf} {e:Int},hsB nx (some e) hs=true->(hs=[]\/e+hs.length<=nx+3)/\ ∀h∈hs,halfB h=true
 |[],e,_=>⟨.inl rfl,fun h hh=>by cases hh⟩
 |h::r,e,hb=>by
  simp only [hsB,Bool.and_eq_true,decide_eq_true_eq] at hb;obtain ⟨h1,h2,h3,h4,h5,h6⟩:=hb;obtain ⟨i1,i2⟩:=hsB_bnd h6;refine ⟨.inr ?_,fun y hy=> ?_⟩
  ·rcases i1 with rfl|i1
   ·simp only [List.length_cons,List.length_nil];omega
   ·simp only [List.length_cons];omega
  ·rcases List.mem_cons.1 hy with rfl|hy
   ·exact h4
   ·exact i2 y hy
theorem jnB_bnd {j:Jn} (hj:jnB j=true):j.hs.length<=4/\ ∀h∈j.hs,h.got.length<=4001/\h.bd.length<=4000:=by
 simp only [jnB,Bool.and_eq_true] at hj;obtain ⟨h1,h2⟩:=hj;cases hh:j.hs with
 |nil=>exact ⟨by simp,fun h hx=>by cases hx⟩
 |cons a r=>
  rw [hh] at h2;simp only [hsB,Bool.and_eq_true,decide_eq_true_eq] at h2;obtain ⟨g1,g2,g3,g4,g5,g6⟩:=h2;obtain ⟨i1,i2⟩:=hsB_bnd g6;refine ⟨?_,fun y hy=> ?_⟩
  ·rcases i1 with rfl|i1
   ·simp
   ·simp only [List.length_cons];omega
  ·rcases List.mem_cons.1 hy with rfl|hy
   ·exact half_bnd g4
   ·exact half_bnd (i2 y hy)
end Go.Proofs.Flt
namespace Go.Proofs.Flt
open Go.Ab
theorem SqS_snoc: ∀{xs:List Nt} {b:Int} {x:Nt},SqS b xs->x.sq=b+xs.length->SqS b (xs++[x])
 |[],b,x,_,h=>⟨by simpa using h,trivial⟩
 |y::xs,b,x,hs,h=>⟨hs.1,SqS_snoc hs.2 (by rw [h];simp only [List.length_cons];omega)⟩
theorem nts_sq {d:Dr} (hd:d.fi<=65535): ∀k,SqS d.fi (nts d k)/\d.fi+(nts d k).length<=65536/\(d.fi+k<=65536->(nts d k).length=k)
 |0=>⟨trivial,by simp [nts];omega,fun _=>rfl⟩
 |k+1=>by
  obtain ⟨h1,h2,h3⟩:=nts_sq hd k;unfold nts;cases hc:decide (d.fi+k<65536)
  ·have:=of_decide_eq_false hc;rw [cond_false];exact ⟨h1,h2,fun h=>by omega⟩
  ·have:=of_decide_eq_true hc;have h4:=h3 (by omega)
   rw [cond_true];refine ⟨SqS_snoc h1 (by simp only [noteK,h4]),by rw [List.length_append,h4];simp;omega,fun h=>by rw [List.length_append,h4];rfl⟩
theorem notes_cuts {d:Dr} (hd:d.ok=true) (s:List UInt8):Cuts d.fi (notesS d) (szK s):=by
 have hd2:=hd;simp only [Dr.ok,Bool.and_eq_true,decide_eq_true_eq] at hd2;have h:=nts_sq (d:=d) hd2.1.2.1 (min 5 d.bo.length);exact ⟨hd2.1.1,h.2.1,h.1,fun x hx=>(notes_ok hd x hx).1,fun i=>(szK_rng s i).1,fun i=>by have:=(szK_rng s i).2;omega⟩
theorem take_len {j:Jn} {s:List UInt8} (h:(takeS j s).2.2=0):s.length<=1200:=by
 rcases Nat.lt_or_ge 1200 s.length with h1|h1
 ·exfalso;have h2:readS s=(zPc,3):=by unfold readS;rw [if_pos h1]
  simp only [takeS,h2] at h;cases hj:jnB j
  ·rw [hj] at h;simp at h
  ·rw [hj] at h;simp at h
 ·exact h1
theorem mixL_len (od:List UInt8): ∀(m:Nat) (LL:Lls) (st:Nat),(mixL od m LL st).length<=2*m
 |0,LL,st=>by simp [mixL]
 |m+1,LL,st=>by
  simp only [mixL];cases LL.length==0
  ·rw [cond_false,List.length_append];have h1:=outK_len (orK od st) (LL.getD (pickK (orK od st) LL) []);have h2:=mixL_len od m (dropE (setK (orK od st) LL)) (st+1);omega
  ·simp
theorem mixS_len {ns:List Nt} (s od:List UInt8) (hl:ns.length<=5) (hok: ∀x∈ns,noteB x=true):(mixS ns s od).length<=40000:=by
 have h1:=mixL_len od (tot (lsS ns s)) (lsS ns s) 0;have h2:=tot_le (m:=4000) (LL:=lsS ns s) (fun x hx=>(lsS_mem hok hx).2);rw [lsS_len] at h2;unfold mixS;omega
end Go.Proofs.Flt
namespace Go.Proofs.Flz
open Go.Ab Go.Proofs.Flt
def jc (b:Int) (L:List (List UInt8)) (i:Nat):List AV:=if i=0 then [.i .i64 b,.ns] else (JJ b L i).a
theorem jc_N (b:Int) (L:List (List UInt8)) (i:Nat):jnN (jc b L i)=some (JJ b L i):=by
 unfold jc;split
 ·rename_i h;subst h;rfl
 ·have:unrows 5 hf5 (JJ b L i).hs.length (rows Flt.Hf.l (JJ b L i).hs)=some (JJ b L i).hs:=unrows_rows Flt.Hf.len hf5_l (JJ b L i).hs;simp only [jnN,Jn.a,this,Option.map_some]
theorem jc_bel (b:Int) (L:List (List UInt8)) (i:Nat):belL 0 (jc b L i)=true:=by
 unfold jc;split
 ·rfl
 ·exact Jn.bel _
theorem jc_len (b:Int) (L:List (List UInt8)) (i:Nat):(jc b L i).length=2:=by unfold jc;split<;>rfl
theorem jc_one (b:Int) (L:List (List UInt8)) (i:Nat):oneAll (jc b L i)=true:=by unfold jc;split<;>rfl
theorem jF_ok {j:Jn} (h:jnB j=true):jnF j=true:=by
 obtain ⟨h1,h2⟩:=jnB_bnd h;simp only [jnF,Bool.and_eq_true,decide_eq_true_eq,List.all_eq_true];refine ⟨by omega,fun x hx=> ?_⟩
 have:=h2 x hx;simp only [hfF,Bool.and_eq_true,decide_eq_true_eq];omega
noncomputable def TT11:List (Nat×Ct):=[(16,k16),(57,k57),(66,k66)]
theorem hTT11:Sound Tryz.prog (cxT TT11):=Sound.cons s16<|Sound.cons s57<|Sound.cons s66 Sound.nil
theorem w24 (j:Jn) (s:List UInt8) (hf:jnF j=true) (hl:s.length<=9223372036854775807):FTL Tryz.prog 24 [.agg j.a,.s s] [] 0 (tkR (takeS j s)) [] 0:=by
 have q57: ∀(h:Hp) n,k57 [.agg j.a] h n=some (true,{v:= .b (jnB j),n}):=fun h n=>by simp only [k57,jn2_a,Option.bind_some,hf]
 have q16: ∀(h:Hp) n,k16 [.s s] h n=some (true,{v:=rsR (readS s),n}):=fun h n=>by simp only [k16,decide_eq_true hl]
 have q66:jnB j=true->rpB (readS s).1=true-> ∀(h:Hp) n,k66 [.agg j.a,.agg (readS s).1.l] h n=some (true,{v:=tkR (midR j.nx j.hs (readS s).1),n}):=fun h1 h2 h n=>by
  simp only [k66,jn2_a,pc5_l,Option.bind_some,h1,h2,Bool.and_self]
 have hrp:=readS_rp (s:=s);have hz:=readS_z (s:=s);obtain ⟨nx,hs⟩:=j;have hM:=takeS_mid nx hs s;have hb:=fun j=>hrB j hs;simp only [Jn.a] at q57 q66 ⊢;generalize takeS ⟨nx,hs⟩ s=R at*;generalize jnB ⟨nx,hs⟩=B at*;generalize readS s=rr at*;obtain ⟨p,e⟩:=rr;dsimp only at hM hrp hz q66;have hrs:rsR (p,e)= .tup [.agg p.l,.i .i64 e]:=rfl;rw [hrs] at q16;generalize rows Flt.Hf.l hs=L at*;refine FTL.of_seamC (cx:=cxT TT11) Tryz.func24 i24_eq (by simp [i24]) ?_
 dsimp only [i24];refine Seam.run (F:=⟨Tryz.prog,cxT TT11,[11,19],28,0⟩) hTT11 mo ?_;dsimp only [TT11];cases B
 ·rw [if_neg (by decide)] at hM
  rw [hM];simp only [go_sem,q57,AV.bel,belL,nblt,hb,simprocAttr];exact ends_z
 rw [if_pos rfl] at hM;by_cases he:e=0
 rotate_left
 ·rw [if_neg he] at hM;rw [hM];have hz:=hz he;subst hz;have c1:(e !=0)=true:=bne_iff_ne.2 he;simp only [Pc.l,zPc] at q16;simp only [go_sem,q57,q16,c1,AV.bel,belL,nblt,hb,simprocAttr];exact ends_z
 subst he;rw [if_pos rfl] at hM;have q66:=q66 rfl (hrp rfl);rw [<-hM] at q66;obtain ⟨rj,rn,re⟩:=R;simp only [tkR] at q66 ⊢;have h1:=Jn.bel rj;have h1b: ∀j,belL j rj.a=true:=fun j=>belL_mono0 _ h1;have h1o:oneAll rj.a=true:=rfl;have h1l:rj.a.length=2:=rfl;have h1t:List.take 2 rj.a=rj.a:=rfl;have h2b:=fun j=>nrB j rn;clear hM hrp hz hf;generalize rj.a=JA at*;generalize rows Nt.l rn=NL at*;obtain ⟨pk,pl,ps,po,pt⟩:=p;simp only [Pc.l] at q16 q66;simp only [go_sem,q57,q16,q66,h1o,h1l,h1t,List.drop_zero,AV.bel,belL,nblt,hb,h1b,h2b,simprocAttr];exact CovS.ends (Ends.pureE (by simp only [AV.bel,belL,h1b,h2b,Bool.and_self]) rfl)
def k24:Ct
 |[.agg c,.s s],_,n=>(jnN c).bind fun j=>some (jnF j&&decide (s.length<=9223372036854775807),{v:=tkR (takeS j s),n})
 |_,_,_=>none
theorem s24:SoundAt Tryz.prog 24 k24:=fun args h n c E hc ht=>by
 unfold k24 at hc;split at hc
 ·rename_i c s;simp only [Option.bind_eq_some_iff] at hc;obtain ⟨j,hj,he⟩:=hc;cases he;simp only [Bool.and_eq_true,decide_eq_true_eq] at ht;obtain ⟨g1,g2⟩:=jnN_wka hj;exact CallOK.pure (by kernel_rfl) (by simp only [belL,AV.bel,g2,Bool.and_self]) (tkR_bel _) (FTL.wka (xs:=[.agg c,.s s]) (ys:=[.agg j.a,.s s]) ⟨g1,Wka.refl _,trivial⟩ (w24 j _ ht.1 ht.2)) _ _
 ·cases hc
noncomputable def TL18 (k9 k19:Ct):List (Nat×Ct):=[(9,k9),(19,k19),(24,k24)]
noncomputable abbrev FL18 (k9 k19:Ct):Fx:=⟨Tryz.prog,cxT (TL18 k9 k19),[38,49],56,0⟩
theorem w18 (d:Dr) (hd:d.ok=true) (sz od:List UInt8) (stp:Nat) (hs:stp<256) (hsz:sz.length<=9223372036854775807) (hod:od.length<=9223372036854775807) {L:List (List UInt8)} (hL:L=mixS (notesS d) sz od) {κ:Nat} (hκ:κ=stp % (L.length+1)):
 FTL Tryz.prog 18 [.agg d.a,.fz (rows u81 sz) sz.length,.fz (rows u81 od) od.length,.i .u8 stp] [] 0 (.tup [.agg (JJ d.fi L κ).a,.fz (rows st1 (L.drop κ)) (L.drop κ).length]) [] 0:=by
 have hcut:=notes_cuts hd sz;have hd2:=hd;simp only [Dr.ok,Bool.and_eq_true,decide_eq_true_eq] at hd2;have hfi:0<=d.fi/\d.fi<=65535:=⟨hd2.1.1,hd2.1.2.1⟩;have hnl:=notes_len d;have hway:=fun i=>way sz od hcut hL (i:=i);have v9:=w9 d hd;have v19:=w19 (notesS d) sz od (by omega) hcut.ok hsz hod
 rw [<-hL] at v19;have hsl: ∀i,i<L.length->(L.getD i []).length<=9223372036854775807:=fun i hi=>by
  have:=take_len ((hway L.length (Nat.le_refl _)).2.1 i hi);omega
 have hLl:L.length<=40000:=by rw [hL];exact mixS_len _ _ (by omega) hcut.ok
 generalize notesS d=NS at*;have nb:=fun j=>nt_B j NS;have zb:=fun j=>u8B j sz;have yb:=fun j=>u8B j od;have lb:=fun j=>stB j L;have hda: ∀j,belL j d.a=true:=fun j=>belL_mono0 _ d.bel;have s9:SoundAt Tryz.prog 9 (kP [.agg d.a] (.fz (rows Nt.l NS) NS.length)):=kP_sound (by kernel_rfl) (by simp only [belL,AV.bel,hda,Bool.and_self]) (by simp only [AV.bel,nb]) v9
 have s19:SoundAt Tryz.prog 19 (kP [.fz (rows Nt.l NS) NS.length,.fz (rows u81 sz) sz.length,.fz (rows u81 od) od.length] (.fz (rows st1 L) L.length)):=kP_sound (by kernel_rfl) (by simp only [belL,AV.bel,nb,zb,yb,Bool.and_self]) (by simp only [AV.bel,lb]) v19
 have q9: ∀(h:Hp) n,kP [.agg d.a] (.fz (rows Nt.l NS) NS.length) [.agg d.a] h n=some (true,{v:= .fz (rows Nt.l NS) NS.length,n}):=fun h n=>kP_at h n;have q19: ∀(h:Hp) n,kP [.fz (rows Nt.l NS) NS.length,.fz (rows u81 sz) sz.length,.fz (rows u81 od) od.length] (.fz (rows st1 L) L.length) [.fz (rows Nt.l NS) NS.length,.fz (rows u81 sz) sz.length,.fz (rows u81 od) od.length] h n=some (true,{v:= .fz (rows st1 L) L.length,n}):=fun h n=>kP_at h n;generalize kP [.agg d.a] (.fz (rows Nt.l NS) NS.length)=k9 at*;generalize kP [.fz (rows Nt.l NS) NS.length,.fz (rows u81 sz) sz.length,.fz (rows u81 od) od.length] (.fz (rows st1 L) L.length)=k19 at*;have hT:Sound Tryz.prog (cxT (TL18 k9 k19)):=Sound.cons s9<|Sound.cons s19<|Sound.cons s24 Sound.nil;clear v9 v19 s9 s19;have tmn: ∀p q:Nat,(p:Int).tmod (q:Int)=((p % q:Nat):Int):=fun p q=>by rw [Int.tmod_eq_emod_of_nonneg (by omega)];rfl
 have wl:IntKind.i64.wrap ((L.length:Int)+1)=((L.length+1:Nat):Int):=by rw [wrapL (by omega) (by omega)];omega
 have ws:IntKind.i64.wrap (stp:Int)=(stp:Int):=wrapL (by omega) (by omega)
 have wf:IntKind.i64.wrap d.fi=d.fi:=wrapL (by omega) (by omega)
 have o1:=tmn stp (L.length+1);have m1:=Nat.mod_lt stp (show 0<L.length+1 by omega)
 rw [<-hκ] at o1 m1;clear hκ;have c3:decide (0<=(κ:Int)/\(κ:Int)<=(L.length:Int))=true:=decide_eq_true (by omega)
 have c4:(((L.length+1:Nat):Int) !=0)=true:=by rw [bne_iff_ne];omega
 have hRd:rows st1 (L.drop κ)=List.drop κ (rows st1 L):=(one_drop st1_len L κ).symm;have hRl:(L.drop κ).length=L.length-κ:=List.length_drop;rw [hRd,hRl];refine FTL.of_seamC (cx:=cxT (TL18 k9 k19)) Tryz.func18 i18_eq (by simp [i18]) ?_
 dsimp only [i18];refine Seam.run (F:=FL18 k9 k19) hT mo ?_;dsimp only [FL18,TL18];generalize hJ:JJ d.fi L=J at*;have hjc:=jc_N d.fi L;have hjb:=jc_bel d.fi L;have hjl:=jc_len d.fi L;have hjo:=jc_one d.fi L;have hj0:jc d.fi L 0=[.i .i64 d.fi,.ns]:=rfl;have hjs: ∀i,jc d.fi L (i+1)=(J (i+1)).a:=fun i=>by rw [<-hJ];rfl
 have hj00:J 0=⟨d.fi,[]⟩:=by rw [<-hJ];rfl
 rw [hJ] at hjc;have hJs: ∀i,J (i+1)=(takeS (J i) (L.getD i [])).1:=fun i=>by rw [<-hJ];rfl
 clear hJ;generalize hFI:d.fi=fi at*;have hd0:d.a=[.i .u16 fi,.fz (rows u81 d.ki) d.ki.length,.fz (rows bd1 d.bo) d.bo.length]:=by rw [<-hFI];rfl
 rw [hd0] at q9 ⊢;generalize jc fi L=JC at*;simp only [go_sem,q9,q19,wf,ws,wl,o1,c4,c3,List.drop_zero,simprocAttr];refine Loop.countI (F:=FL18 k9 k19) hT mo κ (fun _=>True) (fun i=>[(8,.p 1 0),(10,.p 2 0),(11,.fz (rows st1 L) L.length),(12,.i .i64 (κ:Int)),(35,.fz (rows st1 L) κ),(36,.i .i64 (κ:Int)),(37,.i .i64 (i:Int))]) (fun i=>[(2,{cells:=JC i}),(1,{cells:=[.i .i64 0,.ns]})]) 3 (Nat.zero_le _) trivial ?_ ?_ (fun i hi _=> ?_)
 ·simp only [go_sem,Int.natCast_zero,AV.bel,belL,nblt,lb,simprocAttr]
 ·rw [hj0];simp only [go_sem,AV.bel,belL,nblt,simprocAttr]
 dsimp only [FL18,TL18];have jt:List.take 2 (JC i)=JC i:=List.take_of_length_le (by rw [hjl];exact Nat.le_refl _)
 have jd: ∀X:List AV,List.take 0 (JC i)++X++List.drop 2 (JC i)=X:=fun X=>by rw [List.drop_of_length_le (by rw [hjl];exact Nat.le_refl _)];simp
 have jl:=hjl i;have jo:=hjo i;have jb: ∀k,belL k (JC i)=true:=fun k=>belL_mono0 _ (hjb i);have hwi:=hway i (by omega)
 have hjF:=jF_ok hwi.1;by_cases hlt:i<κ
 ·have d1:decide ((i:Int)<(κ:Int))=true:=decide_eq_true (by omega)
  have d2:decide (0<=(i:Int)/\(i:Int)<(κ:Int))=true:=decide_eq_true (by omega)
  obtain ⟨s,hs⟩: ∃s,L[i]? =some s:=⟨_,List.getElem?_eq_getElem (by omega)⟩
  have hg:L.getD i []=s:=by simp only [List.getD_eq_getElem?_getD,hs,Option.getD_some]
  have hr:=st_get3 hs;have hsl:=hsl i (by omega)
  rw [hg] at hsl;have he:=(hway (i+1) (by omega)).2.1 i (by omega)
  have hJi:=hJs i;have hji:=hjs i;rw [hg] at he hJi;have q24: ∀(h:Hp) n,k24 [.agg (JC i),.s s] h n=some (true,{v:= .tup [.agg (J (i+1)).a,.fz (rows Nt.l (takeS (J i) s).2.1) (takeS (J i) s).2.1.length,.i .i64 0],n}):=fun h n=>by
   simp only [k24,hjc i,Option.bind_some,hjF,decide_eq_true hsl,Bool.and_self,tkR,he,hJi]
  have wi:IntKind.i64.wrap ((i:Int)+1)=((i+1:Nat):Int):=by rw [wrapL (by omega) (by omega)];omega
  have a1:(J (i+1)).a.length=2:=rfl;have a2: ∀k,belL k (J (i+1)).a=true:=fun k=>belL_mono0 _ (Jn.bel _);have a3:oneAll (J (i+1)).a=true:=rfl;have a4:List.take 2 (J (i+1)).a=(J (i+1)).a:=rfl;rw [hji];generalize (J (i+1)).a=JA at*;generalize (takeS (J i) s).2.1=NL at*;simp only [go_sem,d1,d2,hr,jt,jl,jo,jd,q24,wi,a1,a2,a3,a4,Nat.mul_one,List.drop_zero,AV.bel,belL,nblt,lb,jb,simprocAttr];exact hlt
 ·obtain rfl:i=κ:=by omega
  have d1:decide ((i:Int)<(i:Int))=false:=decide_eq_false (by omega)
  have lbd: ∀j,belL j (List.drop i (rows st1 L))=true:=fun j=>by rw [<-hRd];exact stB j _
  have hend: ∀h n,CovS 0 (.tup [.agg (J i).a,.fz (List.drop i (rows st1 L)) (L.length-i)]) h n (.tup [.agg (J i).a,.fz (List.drop i (rows st1 L)) (L.length-i)]) [] 0:=fun h n=>CovS.ends (Ends.pureE (by simp only [AV.bel,belL,Jn.bel,lbd,Bool.and_self]) rfl)
  have c5:decide (0<=(i:Int)/\(i:Int)<=(L.length:Int)/\0<=(L.length:Int))=true:=decide_eq_true (by omega)
  simp only [go_sem,d1,c5,jt,jl,jo,jd,Nat.mul_one,List.drop_zero,simprocAttr];cases i with
  |zero=>
   rw [hj0];have hend:=hend;rw [hj00] at hend ⊢;exact CovS.frzN (v':= .tup [.agg [.i .i64 fi,.fz [] 0],.fz (List.drop 0 (rows st1 L)) (L.length-0)]) (l:=[]) (FzV.tup ⟨FzV.agg ⟨FzV.refl,FzV.hit,trivial⟩,FzV.refl,trivial⟩) (hend _ _)
  |succ m=>
   rw [hjs];exact hend _ _
end Go.Proofs.Flz
namespace Go.Proofs.Flz
open Go.Ab
abbrev i4r0:List IOper:=[oo 6 (.box (.t 0)),oo 10 (.box (.t 4)),oo 12 (.mv (.c (.b false)))]
abbrev i4r1:List (IOper×List Nat):=[(oo 28 (.ld true 3 (.t 6)),[]),(oo 29 (.mv (.t 1)),[0]),(oo 30 (.mv (.t 1)),[0,1]),(oo 31 (.lenV (.t 30)),[0,1]),(oo 32 (.mn (.t 31) [.c (.i .i64 5)]),[0,1]),(oo 33 (.slV 1 (.t 29) none (some (.t 32)) none),[0]),(oo 34 (.mv (.t 2)),[0,1,2,3,4,5]),(oo 35 (.mv (.t 2)),[0,1,2,3,4,5,6]),(oo 36 (.lenV (.t 35)),[0,1,2,3,4,5,6]),(oo 37 (.mn (.t 36) [.c (.i .i64 40)]),[0,1,2,3,4,5,6]),(oo 38 (.slV 1 (.t 34) none (some (.t 37)) none),[0,1,2,3,4,5]),(oo 39 (.mv (.t 3)),[0,1,2,3,4,5,6,7,8,9,10]),(oo 40 (.call (.c (.fn 18 [])) [.t 28,.t 33,.t 38,.t 39]),[]),(oo 27 (.mv (.t 40)),[]),(oo 41 (.ext (.t 27) 0),[]),(oo 42 (.ext (.t 27) 1),[14]),(oo 13 (.new [.i .i64 0,.ns]),[0,1,2,3,4,5,6,7,8,9,10,11,12,13,14,15]),(on_ (.st 2 (.t 13) (.t 41)),[15]),(oo 14 (.mv (.t 42)),[])]
abbrev i4r2:List IOper:=[oo 43 (.fa 0 (.t 6)),oo 44 (.ld false 1 (.t 43)),oo 45 (.fa 1 (.t 6)),oo 46 (.ld false 1 (.t 45)),oo 47 (.bsl [.i .u8 0,.i .u8 0,.i .u8 0] 3 [(0,1,.c (.i .u8 1)),(1,1,.c (.i .u8 2)),(2,1,.c (.i .u8 3))]),oo 48 (.bsl [.i .u8 0] 1 [(0,1,.c (.i .u8 0))]),oo 49 (.bsl [.i .u8 0,.i .u8 0] 2 [(0,1,.c (.i .u8 9)),(1,1,.c (.i .u8 9))]),oo 50 (.bsl [.ns,.ns,.ns,.ns] 4 [(0,1,.t 47),(1,1,.c (.ns)),(2,1,.t 48),(3,1,.t 49)]),oo 51 (.build [.i .u16 0,.ns,.ns] [(0,1,.t 44),(1,1,.t 46),(2,1,.t 50)]),oo 15 (.new [.i .u16 0,.ns,.ns]),on_ (.st 3 (.t 15) (.t 51))]
abbrev i4r3:List (IOper×List Nat):=[(oo 52 (.ld true 3 (.t 15)),[]),(oo 53 (.call (.c (.fn 9 [])) [.t 52]),[]),(oo 54 (.mv (.t 2)),[0,1]),(oo 55 (.mv (.t 2)),[0,1,2]),(oo 56 (.lenV (.t 55)),[0,1,2]),(oo 57 (.mn (.t 56) [.c (.i .i64 2)]),[0,1,2]),(oo 58 (.slV 1 (.t 54) none (some (.t 57)) none),[0,1]),(oo 59 (.mv (.t 1)),[0,1,2,3,4,5,6]),(oo 60 (.mv (.t 1)),[0,1,2,3,4,5,6,7]),(oo 61 (.lenV (.t 60)),[0,1,2,3,4,5,6,7]),(oo 62 (.mn (.t 61) [.c (.i .i64 3)]),[0,1,2,3,4,5,6,7]),(oo 63 (.slV 1 (.t 59) none (some (.t 62)) none),[0,1,2,3,4,5,6]),(oo 64 (.call (.c (.fn 19 [])) [.t 53,.t 58,.t 63]),[]),(oo 65 (.mv (.t 5)),[0,1,2,3,4,5,6,7,8,9,10,11,12]),(oo 66 (.mv (.t 5)),[0,1,2,3,4,5,6,7,8,9,10,11,12,13]),(oo 67 (.lenS (.t 66)),[0,1,2,3,4,5,6,7,8,9,10,11,12,13]),(oo 68 (.mn (.t 67) [.c (.i .i64 200)]),[0,1,2,3,4,5,6,7,8,9,10,11,12,13]),(oo 69 (.slS (.t 65) none (some (.t 68))),[0,1,2,3,4,5,6,7,8,9,10,11,12]),(oo 70 (.bsl [.s []] 1 [(0,1,.t 69)]),[0,1,2,3,4,5,6,7,8,9,10,11,12]),(oo 71 (.app 1 16 [.s []] (.t 64) (.t 70)),[]),(oo 16 (.mv (.t 71)),[])]
abbrev i4r4:List IOper:=[oo 72 (.mv (.t 16)),oo 73 (.mv (.t 14)),oo 74 (.mv (.t 14)),oo 75 (.lenV (.t 74)),oo 76 (.mn (.t 75) [.c (.i .i64 3)]),oo 77 (.slV 1 (.t 73) none (some (.t 76)) none),oo 78 (.app 1 16 [.s []] (.t 72) (.t 77)),oo 16 (.mv (.t 78))]
abbrev i4r5:List (IOper×List Nat):=[(oo 79 (.ld true 2 (.t 13)),[]),(oo 80 (.ld true 5 (.t 10)),[0]),(oo 81 (.ld true 2 (.t 13)),[0,1]),(oo 82 (.call (.c (.fn 20 [])) [.t 80,.t 81]),[0]),(oo 83 (.build [.i .i64 0,.ns,.i .i64 0,.ns] [(0,2,.t 79),(2,2,.t 82)]),[]),(oo 84 (.mv (.c (.i .i64 0))),[0,1,2,3,4])]
abbrev i4r6:List IOper:=[ot 85 (.bin .lss (.t 84) (.c (.i .i64 2)))]
abbrev i4r7:List IOper:=[oo 86 (.ixA 2 2 true (.t 83) (.t 84)),oo 18 (.new [.i .i64 0,.ns]),on_ (.st 2 (.t 18) (.t 86))]
abbrev i4r8:List (IOper×List Nat):=[(oo 87 (.ld true 2 (.t 18)),[]),(oo 88 (.call (.c (.fn 21 [])) [.t 87]),[]),(oo 89 (.ld true 2 (.t 18)),[0,1]),(oo 90 (.call (.c (.fn 22 [])) [.t 89]),[]),(ot 91 (.bin .neq (.t 88) (.t 90)),[])]
abbrev i4r9:List IOper:=[oo 12 (.mv (.c (.b false)))]
abbrev i4r10:List IOper:=[oo 92 (.mv (.t 16)),oo 93 (.lenV (.t 92)),oo 94 (.mv (.c (.i .i64 0)))]
abbrev i4r11:List IOper:=[ot 95 (.bin .lss (.t 94) (.t 93))]
abbrev i4r12:List IOper:=[oo 96 (.ixaV 1 (.t 92) (.t 94)),oo 97 (.ld false 1 (.t 96)),oo 20 (.mv (.t 97))]
abbrev i4r13:List IOper:=[oo 99 (.ld true 2 (.t 18)),oo 100 (.mv (.t 20)),oo 101 (.call (.c (.fn 23 [])) [.t 99,.t 100]),oo 98 (.mv (.t 101)),oo 102 (.ext (.t 98) 0),oo 103 (.ext (.t 98) 1),oo 104 (.ext (.t 98) 2),oo 21 (.new [.i .i64 0,.ns]),on_ (.st 2 (.t 21) (.t 102)),oo 22 (.mv (.t 103)),oo 23 (.mv (.t 104))]
abbrev i4r14:List IOper:=[oo 106 (.ld true 2 (.t 18)),oo 107 (.mv (.t 20)),oo 108 (.call (.c (.fn 24 [])) [.t 106,.t 107]),oo 105 (.mv (.t 108)),oo 109 (.ext (.t 105) 0),oo 110 (.ext (.t 105) 1),oo 111 (.ext (.t 105) 2),oo 24 (.new [.i .i64 0,.ns]),on_ (.st 2 (.t 24) (.t 109)),oo 25 (.mv (.t 110)),oo 26 (.mv (.t 111))]
abbrev i4r15:List IOper:=[oo 112 (.mv (.t 23)),oo 113 (.mv (.t 26)),oo 114 (.bin .neq (.t 112) (.t 113)),ot 115 (.mv (.t 114)),og 116 (.ld true 2 (.t 21)) 115 false false,og 117 (.ld true 2 (.t 24)) 115 false false,og 118 (.call (.c (.fn 25 [])) [.t 116,.t 117]) 115 false false,og 119 (.not (.t 118)) 115 false false,oo 120 (.pick (.t 115) (.c (.b true)) (.t 119)),ot 121 (.mv (.t 120)),og 122 (.mv (.t 22)) 121 false false,og 123 (.mv (.t 25)) 121 false false,og 124 (.call (.c (.fn 26 [])) [.t 122,.t 123]) 121 false false,og 125 (.not (.t 124)) 121 false false,ot 126 (.pick (.t 121) (.c (.b true)) (.t 125))]
abbrev i4r16:List IOper:=[oo 12 (.mv (.c (.b false)))]
abbrev i4r17:List IOper:=[oo 127 (.bin .add (.t 94) (.c (.i .i64 1))),oo 94 (.mv (.t 127))]
abbrev i4l18:ICode:=(.seq (.reg i4r11) (.seq (.cond (.t 95) .skip (.exit 2)) (.seq (.block 3 (.seq (.reg i4r12) (.seq (.reg i4r13) (.seq (.reg i4r14) (.seq (.reg i4r15) (.cond (.t 126) (.seq (.reg i4r16) .ret) .skip)))))) (.reg i4r17))))
abbrev i4r19:List IOper:=[oo 128 (.bin .add (.t 84) (.c (.i .i64 1))),oo 84 (.mv (.t 128))]
abbrev i4l20:ICode:=(.seq (.reg i4r6) (.seq (.cond (.t 85) .skip (.exit 0)) (.seq (.block 1 (.seq (.reg i4r7) (.seq (.seq (.dreg i4r8) (.cond (.t 91) (.seq (.reg i4r9) .ret) .skip)) (.seq (.reg i4r10) (.block 2 (.loop i4l18)))))) (.reg i4r19))))
abbrev i4r21:List IOper:=[oo 129 (.call (.c (.fn 17 [])) []),oo 12 (.mv (.t 129))]
abbrev i4c:ICode:=(.seq (.reg i4r0) (.seq (.dreg i4r1) (.seq (.reg i4r2) (.seq (.dreg i4r3) (.seq (.reg i4r4) (.seq (.seq (.dreg i4r5) (.block 0 (.loop i4l20))) (.seq (.reg i4r21) .ret)))))))
def i4:IFn:={np:=6,N:=130,ct:=[85,91,95,126],code:=i4c,res:=[.t 12]}
theorem i4_eq:compF Tryz.prog Tryz.f4=some i4:=by kernel_rfl
end Go.Proofs.Flz
namespace Go.Proofs.Flz
open Go.Ab Go.Proofs.Flt
noncomputable abbrev F20:Fx:=⟨Tryz.prog,cxT [],[17,41,67,74,81,88,95,116,133,140,161],167,0⟩
def lvV (g:List (Int×Int)):AV:=if g=[] then .sl 4 0 0 0 else .sg 4 0 g.length
def lvB (g:List (Int×Int)):Blk:=if g=[] then {cells:=[]} else {cells:=rows gp g,gr:=some 2}
def liveR (x:Flt.Hf):List AV:=[.i .i64 x.kd,.i .i64 x.ln,.i .i64 x.sq,.s x.bd,lvV x.got]
def CC (hs:List Flt.Hf) (i0:Nat) (x0:Flt.Hf) (k:Nat):List AV:=if k<=i0 then rows Flt.Hf.l (hs.take k) else rows Flt.Hf.l (hs.take i0)++liveR x0++rows Flt.Hf.l ((hs.take k).drop (i0+1))
theorem lvV_bel {j:Nat} (hj:6<=j) (g:List (Int×Int)):(lvV g).bel j=true:=by unfold lvV;split<;>simp only [AV.bel,nblt,decide_eq_true_eq]<;>omega
theorem lvB_bel (j:Nat) (g:List (Int×Int)):belL j (lvB g).cells=true:=by
 unfold lvB;split
 ·rfl
 ·exact grB _ _
theorem lvB_ren (ψ:Nat->Nat) (g:List (Int×Int)):(lvB g).ren ψ=lvB g:=by
 unfold lvB;split
 ·rfl
 ·simp only [Blk.ren,grR]
theorem lvV_ren {ψ:Nat->Nat} (h:ψ 4=4) (g:List (Int×Int)):(lvV g).ren ψ=lvV g:=by
 unfold lvV;split<;>simp only [AV.ren,h]
theorem renL_app {ψ:Nat->Nat}: ∀{l r:List AV},renL ψ (l++r)=renL ψ l++renL ψ r
 |[],r=>rfl
 |a::l,r=>by
  show _::renL ψ (l++r)=_::(renL ψ l++renL ψ r);rw [renL_app]
theorem liveR_ren {ψ:Nat->Nat} (h:ψ 4=4) (x:Flt.Hf):renL ψ (liveR x)=liveR x:=by
 simp only [liveR,renL,AV.ren,lvV_ren h]
theorem CC_0 {hs:List Flt.Hf} {i0:Nat} {x0:Flt.Hf}:CC hs i0 x0 0=[]:=by unfold CC;rw [if_pos (Nat.zero_le _)];rfl
theorem CC_bel {hs:List Flt.Hf} {i0:Nat} {x0:Flt.Hf} {k j:Nat} (hj:6<=j):belL j (CC hs i0 x0 k)=true:=by
 unfold CC;split
 ·exact hrB _ _
 ·simp only [belL_append,hrB,liveR,belL,AV.bel,lvV_bel hj,Bool.and_self]
theorem CC_ren {hs:List Flt.Hf} {i0:Nat} {x0:Flt.Hf} {k:Nat} {ψ:Nat->Nat} (h:ψ 4=4):renL ψ (CC hs i0 x0 k)=CC hs i0 x0 k:=by
 unfold CC;split
 ·exact hrR _ _
 ·simp only [renL_app,hrR,liveR_ren h]
theorem CC_ren0 {hs:List Flt.Hf} {i0:Nat} {x0:Flt.Hf} {k:Nat} {ψ:Nat->Nat} (h:k<=i0):renL ψ (CC hs i0 x0 k)=CC hs i0 x0 k:=by
 unfold CC;rw [if_pos h];exact hrR _ _
theorem take_s {hs:List Flt.Hf} {k:Nat} {x:Flt.Hf} (hx:hs[k]? =some x):hs.take (k+1)=hs.take k++[x]:=by
 have hlt:=(List.getElem?_eq_some_iff.1 hx).1;rw [List.take_succ_eq_append_getElem hlt];rw [List.getElem?_eq_getElem hlt] at hx;rw [Option.some.inj hx]
theorem CC_s {hs:List Flt.Hf} {i0:Nat} {x0:Flt.Hf} {k:Nat} {x:Flt.Hf} (hx:hs[k]? =some x) (hk:k≠i0):CC hs i0 x0 (k+1)=CC hs i0 x0 k++x.l:=by
 have hlt:=(List.getElem?_eq_some_iff.1 hx).1;unfold CC;by_cases h:k<i0
 ·rw [if_pos (by omega),if_pos (by omega),take_s hx,rows_append];simp [rows]
 ·rw [if_neg (by omega),if_neg (by omega),take_s hx,List.drop_append_of_le_length (by rw [List.length_take];omega),rows_append,rows_cons,rows_nil,List.append_nil]
  simp only [List.append_assoc]
theorem CC_i {hs:List Flt.Hf} {i0:Nat} {x0:Flt.Hf} (hx:hs[i0]? =some x0):CC hs i0 x0 (i0+1)=CC hs i0 x0 i0++liveR x0:=by
 have hlt:=(List.getElem?_eq_some_iff.1 hx).1;unfold CC;rw [if_neg (by omega),if_pos (Nat.le_refl _),List.drop_of_length_le (by rw [List.length_take];omega),rows_nil,List.append_nil]
theorem CC_len {hs:List Flt.Hf} {i0:Nat} {x0:Flt.Hf} (h0: ∀x,hs[i0]? =some x->x=x0): ∀{k:Nat},k<=hs.length->(CC hs i0 x0 k).length=k*5
 |0,_=>by rw [CC_0];rfl
 |k+1,h=>by
  obtain ⟨x,hx⟩: ∃x,hs[k]? =some x:=⟨_,List.getElem?_eq_getElem (by omega)⟩
  by_cases hk:k=i0
  ·subst hk;rw [h0 x hx] at hx;rw [CC_i hx,List.length_append,CC_len h0 (by omega)]
   show _+5=_;omega
  ·rw [CC_s hx hk,List.length_append,CC_len h0 (by omega)]
   show _+5=_;omega
def xtr (i0:Nat) (x0:Flt.Hf) (k:Nat):Hp:=if k<=i0 then [] else [(4,lvB x0.got)]
def lst (hs:List Flt.Hf) (i0:Nat) (x0:Flt.Hf) (k:Nat):Hp:=if k=0 then [] else [(5,{cells:=CC hs i0 x0 k,gr:=some 5})]
def lsV (k:Nat):AV:=if k=0 then .ns else .sg 5 0 k
theorem of_loop (KR:Kont) (REST:ICode) (nx:Int) (B0:List AV) (hB0:belL 0 B0=true) (hs:List Flt.Hf) (hl4:hs.length<=1000) (hgot: ∀x∈hs,x.got.length<=4000) (i0:Nat) (x0:Flt.Hf) (h0: ∀x,hs[i0]? =some x->x=x0)
 (fin:Seam F20 REST KR [(2,.p 0 0),(4,.p 2 0),(5,.p 3 0)] (lst hs i0 x0 hs.length++(xtr i0 x0 hs.length++[(3,{cells:=[.i .i64 nx,lsV hs.length]}),(0,{cells:=B0}),(2,{cells:=[.i .i64 0,.ns]})])) 6):
 Seam F20 (.seq (.seq (.reg i20r2) (.block 0 (.loop i20l8))) REST) KR [(2,.p 0 0),(3,.p 1 0),(4,.p 2 0),(5,.p 3 0)]
  [(3,{cells:=[.i .i64 nx,.ns]}),(2,{cells:=[.i .i64 0,.ns]}),(1,{cells:=[.i .i64 nx,.fz (rows Flt.Hf.l hs) hs.length]}),(0,{cells:=B0})] 4:=by
 have hb:=fun j=>hrB j hs;have hbr:=fun ψ=>hrR ψ hs;have bb: ∀j,belL j B0=true:=fun j=>belL_mono0 _ hB0;have br: ∀ψ,renL ψ B0=B0:=fun ψ=>renL_fix0 _ hB0;have kb:=fun j=>lvB_bel j x0.got;have kr: ∀ψ,renL ψ (lvB x0.got).cells=(lvB x0.got).cells:=fun ψ=>congrArg Blk.cells (lvB_ren ψ x0.got);refine Seam.part (F:=F20) Sound.nil mo ?_;dsimp only [F20];simp only [go_sem,simprocAttr];refine Loop.stepS (F:=F20) (X:=Nat) (fun k=>k<=hs.length) (fun k=>hs.length-k)
  (fun k=>[(2,.p 0 0),(4,.p 2 0),(5,.p 3 0),(14,.fz (rows Flt.Hf.l hs) hs.length),(15,.i .i64 (hs.length:Int)),(16,.i .i64 (k:Int))])
  (fun k=>lst hs i0 x0 k++(xtr i0 x0 k++[(3,{cells:=[.i .i64 nx,lsV k]}),(0,{cells:=B0}),(2,{cells:=[.i .i64 0,.ns]})])) 6 0 (fun k=>k+1) []
  (fun k=>if k=i0 then (if x0.got=[] then [(4,7),(5,9)] else [(4,8),(5,10)]) else [(5,10)]) (by decide) (by decide) (fun k=>by split;split<;>decide;decide) (Nat.zero_le _) ?_ ?_ (fun k hk=> ?_)
 ·simp only [go_sem,Int.natCast_zero,AV.ren,renL,AV.bel,belL,nblt,hb,hbr,simprocAttr]
 ·have e1:lst hs i0 x0 0=[]:=rfl;have e2:xtr i0 x0 0=[]:=if_pos (Nat.zero_le _);have e3:lsV 0= .ns:=rfl;rw [e1,e2,e3];simp only [go_sem,AV.ren,renL,AV.bel,belL,nblt,Blk.ren,bb,br,simprocAttr]
 have hk:k<=hs.length:=hk;refine Seam.part (F:=F20) Sound.nil mo ?_;dsimp only [F20];have cb:=CC_bel (hs:=hs) (i0:=i0) (x0:=x0) (k:=k) (Nat.le_refl 6);have cb9:=CC_bel (hs:=hs) (i0:=i0) (x0:=x0) (k:=k) (j:=9) (by decide)
 have cl:=CC_len h0 hk;have lv0:k=0->lsV k= .ns:=fun h=>if_pos h;have lv1:k≠0->lsV k= .sg 5 0 k:=fun h=>if_neg h;have ls0:k=0->lst hs i0 x0 k=[]:=fun h=>if_pos h;have ls1:k≠0->lst hs i0 x0 k=[(5,{cells:=CC hs i0 x0 k,gr:=some 5})]:=fun h=>if_neg h;have lvs:lsV (k+1)= .sg 5 0 (k+1):=rfl;have lvz:k=0->lsV (k+1)= .sg 5 0 1:=fun h=>by subst h;rfl
 have lss:lst hs i0 x0 (k+1)=[(5,{cells:=CC hs i0 x0 (k+1),gr:=some 5})]:=rfl;have cz:k=0->CC hs i0 x0 k=[]:=fun h=>by subst h;exact CC_0
 by_cases hlt:k<hs.length
 rotate_left
 ·have hkl:k=hs.length:=by omega
  have c4:decide ((k:Int)<(k:Int))=false:=decide_eq_false (by omega)
  have cr:renL (rn []) (CC hs i0 x0 k)=CC hs i0 x0 k:=CC_ren rfl;rw [<-hkl] at fin ⊢;generalize CC hs i0 x0 k=C at*;by_cases hx:k<=i0
  ·have e2:xtr i0 x0 k=[]:=if_pos hx;rw [e2] at fin ⊢;by_cases hk0:k=0
   ·rw [ls0 hk0,lv0 hk0] at fin ⊢;simp only [go_sem,c4,simprocAttr];refine Seam.part (F:=F20) Sound.nil mo ?_;dsimp only [F20];simp only [go_sem,simprocAttr];exact Seam.ren [] fin (by decide) (by decide) (by simp only [go_sem,AV.bel,belL,nblt,AV.ren,renL,simprocAttr]) (by simp only [go_sem,AV.bel,belL,nblt,AV.ren,renL,Blk.ren,bb,br,simprocAttr])
   ·rw [ls1 hk0,lv1 hk0] at fin ⊢;simp only [go_sem,c4,simprocAttr];refine Seam.part (F:=F20) Sound.nil mo ?_;dsimp only [F20];simp only [go_sem,simprocAttr];exact Seam.ren [] fin (by decide) (by decide) (by simp only [go_sem,AV.bel,belL,nblt,AV.ren,renL,simprocAttr]) (by simp only [go_sem,AV.bel,belL,nblt,AV.ren,renL,Blk.ren,bb,br,cb,cr,simprocAttr])
  ·have e2:xtr i0 x0 k=[(4,lvB x0.got)]:=if_neg hx;rw [e2] at fin ⊢;by_cases hk0:k=0
   ·exact absurd (by omega) hx
   ·rw [ls1 hk0,lv1 hk0] at fin ⊢;simp only [go_sem,c4,simprocAttr];refine Seam.part (F:=F20) Sound.nil mo ?_;dsimp only [F20];simp only [go_sem,simprocAttr];exact Seam.ren [] fin (by decide) (by decide) (by simp only [go_sem,AV.bel,belL,nblt,AV.ren,renL,simprocAttr]) (by simp only [go_sem,AV.bel,belL,nblt,AV.ren,renL,Blk.ren,bb,br,cb,cr,kb,kr,simprocAttr])
 clear fin;obtain ⟨x,hx⟩: ∃x,hs[k]? =some x:=⟨_,List.getElem?_eq_getElem hlt⟩;have hr:List.take 5 (List.drop (k*5) (rows Flt.Hf.l hs))=x.l:=rows_at Flt.Hf.len hx;have c4:decide ((k:Int)<(hs.length:Int))=true:=decide_eq_true (by omega)
 have c5:decide (0<=(k:Int)/\(k:Int)<(hs.length:Int))=true:=decide_eq_true (by omega)
 have hwr:IntKind.i64.wrap ((k:Int)+1)=((k+1:Nat):Int):=by rw [wrapL (by omega) (by omega)];omega
 have hst:k+1<=hs.length/\hs.length-(k+1)<hs.length-k:=⟨by omega,by omega⟩
 have hgx:=hgot x (List.mem_of_getElem? hx);have gm:decide (64*(k+1)<=growMax)=true:=decide_eq_true (by simp only [growMax];omega)
 have gm1:decide (64<=growMax)=true:=by decide
 have h0x:=h0 x;have csx:k≠i0->CC hs i0 x0 (k+1)=CC hs i0 x0 k++x.l:=CC_s hx;have csi:k=i0->x=x0->CC hs i0 x0 (k+1)=CC hs i0 x0 k++liveR x:=fun e e2=>by subst e;subst e2;exact CC_i hx
 have cnr:k≠i0->renL (rn [(5,10)]) (CC hs i0 x0 k)=CC hs i0 x0 k:=fun h=>CC_ren (by simp [rn])
 have cnb:belL 6 (CC hs i0 x0 (k+1))=true:=CC_bel (Nat.le_refl 6);have ci0:k=i0-> ∀ψ,renL ψ (CC hs i0 x0 k)=CC hs i0 x0 k:=fun h ψ=>CC_ren0 (Nat.le_of_eq h);have crn:renL (rn []) (CC hs i0 x0 k)=CC hs i0 x0 k:=CC_ren rfl;have hki:k=i0->x=x0:=fun e=>h0x (by rw [<-e];exact hx)
 have e2:k<=i0->xtr i0 x0 k=[]:=fun h=>if_pos h;have e3: ¬k<=i0->xtr i0 x0 k=[(4,lvB x0.got)]:=fun h=>if_neg h;have e4:k<i0->xtr i0 x0 (k+1)=[]:=fun h=>if_pos h;have e5: ¬k<i0->xtr i0 x0 (k+1)=[(4,lvB x0.got)]:=fun h=>if_neg h;rw [lss];generalize hL:rows Flt.Hf.l hs=L at*;generalize CC hs i0 x0 k=C at*;obtain ⟨xk,xl,xs,xb,xg⟩:=x;simp only [Flt.Hf.l] at hr csx;dsimp only at hgx;have hgb:=fun j=>grB j xg;have hgr:=fun ψ=>grR ψ xg;have hgl:(rows gp xg).length=xg.length*2:=rows_len gp_len;have hgo:oneAll (rows gp xg)=true:=rows_one1 gp_one _;have hgt:List.take (xg.length*2) (rows gp xg)=rows gp xg:=List.take_of_length_le (by rw [hgl];exact Nat.le_refl _)
 have gg:decide (16*xg.length<=growMax)=true:=decide_eq_true (by simp only [growMax];omega)
 by_cases hi:k=i0
 ·have hxx:=hki hi;have csi:=csi hi hxx;have ci0:=ci0 hi;rw [if_pos hi,e2 (Nat.le_of_eq hi),e5 (by omega)]
  subst hxx;simp only [liveR] at csi;dsimp only;have cnx:=csi;clear csi csx cnr crn hki h0 h0x e2 e3 e4 e5 hgot kb kr;by_cases hk0:k=0
  ·rw [ls0 hk0,lv0 hk0,lvz hk0];rw [cz hk0] at cnx;simp only [go_sem,c4,simprocAttr];refine Seam.part (F:=F20) Sound.nil mo ?_;dsimp only [F20];simp only [go_sem,simprocAttr];refine Seam.seq ?_;refine Seam.block ?_;refine Seam.cut (fun K1 hK1=> ?_);refine Seam.part (F:=F20) Sound.nil mo ?_;dsimp only [F20];simp only [go_sem,c5,hr,AV.bel,belL,nblt,hgb,simprocAttr];refine Seam.part (F:=F20) Sound.nil mo ?_;dsimp only [F20];by_cases hg:xg=[]
   ·subst hg;have lvE1:lvB []={cells:=[]}:=rfl;have lvE2:lvV []= .sl 4 0 0 0:=rfl;rw [if_pos rfl] at hK1;simp only [go_sem,rows_nil,List.length_nil,simprocAttr];subst hK1;refine Seam.run (F:=F20) Sound.nil mo ?_;dsimp only [F20];simp only [go_sem,gm1,AV.bel,belL,nblt,hgb,simprocAttr];refine Seam.run (F:=F20) Sound.nil mo ?_;dsimp only [F20];simp only [go_sem,rows_nil,List.nil_append,List.length_nil,hwr,hst,lvE1,lvE2,renL_app,belL_append,AV.ren,renL,AV.bel,belL,nblt,Blk.ren,hb,hbr,bb,br,cnb,cnx,hgb,hgr,simprocAttr]
   ·have f3:decide (xg.length=0)=false:=decide_eq_false (fun h=>hg (List.eq_nil_of_length_eq_zero h));have f4:decide (xg.length<=0)=false:=decide_eq_false (fun h=>hg (List.eq_nil_of_length_eq_zero (by omega)))
    have lvE1:lvB xg={cells:=rows gp xg,gr:=some 2}:=if_neg hg;have lvE2:lvV xg= .sg 4 0 xg.length:=if_neg hg;rw [if_neg hg] at hK1;simp only [go_sem,f3,f4,hgl,hgo,hgt,gg,List.drop_zero,simprocAttr];subst hK1;refine Seam.run (F:=F20) Sound.nil mo ?_;dsimp only [F20];simp only [go_sem,gm1,AV.bel,belL,nblt,hgb,simprocAttr];refine Seam.run (F:=F20) Sound.nil mo ?_;dsimp only [F20];simp only [go_sem,rows_nil,List.nil_append,List.length_nil,hwr,hst,lvE1,lvE2,renL_app,belL_append,AV.ren,renL,AV.bel,belL,nblt,Blk.ren,hb,hbr,bb,br,cnb,cnx,hgb,hgr,simprocAttr]
  ·rw [ls1 hk0,lv1 hk0,lvs];simp only [go_sem,c4,simprocAttr];refine Seam.part (F:=F20) Sound.nil mo ?_;dsimp only [F20];simp only [go_sem,simprocAttr];refine Seam.seq ?_;refine Seam.block ?_;refine Seam.cut (fun K1 hK1=> ?_);refine Seam.part (F:=F20) Sound.nil mo ?_;dsimp only [F20];simp only [go_sem,c5,hr,AV.bel,belL,nblt,hgb,simprocAttr];refine Seam.part (F:=F20) Sound.nil mo ?_;dsimp only [F20];by_cases hg:xg=[]
   ·subst hg;have lvE1:lvB []={cells:=[]}:=rfl;have lvE2:lvV []= .sl 4 0 0 0:=rfl;rw [if_pos rfl] at hK1;simp only [go_sem,rows_nil,List.length_nil,simprocAttr];subst hK1;refine Seam.run (F:=F20) Sound.nil mo ?_;dsimp only [F20];simp only [go_sem,gm,cl,AV.bel,belL,nblt,hgb,simprocAttr];refine Seam.run (F:=F20) Sound.nil mo ?_;dsimp only [F20];simp only [go_sem,hwr,hst,lvE1,lvE2,renL_app,belL_append,AV.ren,renL,AV.bel,belL,nblt,Blk.ren,hb,hbr,bb,br,cnb,cnx,hgb,hgr,cb,cb9,ci0,simprocAttr]
   ·have f3:decide (xg.length=0)=false:=decide_eq_false (fun h=>hg (List.eq_nil_of_length_eq_zero h));have f4:decide (xg.length<=0)=false:=decide_eq_false (fun h=>hg (List.eq_nil_of_length_eq_zero (by omega)))
    have lvE1:lvB xg={cells:=rows gp xg,gr:=some 2}:=if_neg hg;have lvE2:lvV xg= .sg 4 0 xg.length:=if_neg hg;rw [if_neg hg] at hK1;simp only [go_sem,f3,f4,hgl,hgo,hgt,gg,List.drop_zero,simprocAttr];subst hK1;refine Seam.run (F:=F20) Sound.nil mo ?_;dsimp only [F20];simp only [go_sem,gm,cl,AV.bel,belL,nblt,hgb,simprocAttr];refine Seam.run (F:=F20) Sound.nil mo ?_;dsimp only [F20];simp only [go_sem,hwr,hst,lvE1,lvE2,renL_app,belL_append,AV.ren,renL,AV.bel,belL,nblt,Blk.ren,hb,hbr,bb,br,cnb,cnx,hgb,hgr,cb,cb9,ci0,simprocAttr]
 ·have cnx:=csx hi;have cnr:=cnr hi;rw [if_neg hi];clear csi csx ci0 hki h0 h0x hgot;by_cases hx2:k<=i0
  ·rw [e2 hx2,e4 (by omega)]
   clear e2 e3 e4 e5;by_cases hk0:k=0
   ·rw [ls0 hk0,lv0 hk0,lvz hk0];rw [cz hk0] at cnx;simp only [go_sem,c4,simprocAttr];refine Seam.part (F:=F20) Sound.nil mo ?_;dsimp only [F20];simp only [go_sem,simprocAttr];refine Seam.seq ?_;refine Seam.block ?_;refine Seam.cut (fun K1 hK1=> ?_);have tail:Seam F20 (.reg i20r6) K1 [(7,.p 6 0),(2,.p 0 0),(4,.p 2 0),(5,.p 3 0),(14,.fz L hs.length),(15,.i .i64 (hs.length:Int)),(16,.i .i64 (k:Int))]
     [(6,{cells:=[.i .i64 xk,.i .i64 xl,.i .i64 xs,.s xb,.fz (rows gp xg) xg.length]}),(3,{cells:=[.i .i64 nx,.ns]}),(0,{cells:=B0}),(2,{cells:=[.i .i64 0,.ns]})] 9:=by
     subst hK1;refine Seam.run (F:=F20) Sound.nil mo ?_;dsimp only [F20];simp only [go_sem,gm1,AV.bel,belL,nblt,hgb,simprocAttr];refine Seam.run (F:=F20) Sound.nil mo ?_;dsimp only [F20];simp only [go_sem,rows_nil,List.nil_append,List.length_nil,hwr,hst,AV.ren,renL,AV.bel,belL,nblt,Blk.ren,hb,hbr,bb,br,cnb,cnx,hgb,hgr,simprocAttr]
    clear hK1;refine Seam.part (F:=F20) Sound.nil mo ?_;dsimp only [F20];simp only [go_sem,c5,hr,AV.bel,belL,nblt,hgb,simprocAttr];refine Seam.part (F:=F20) Sound.nil mo ?_;dsimp only [F20];by_cases hg:xg=[]
    ·subst hg;simp only [go_sem,rows_nil,List.length_nil,simprocAttr];refine Seam.frz (F:=F20) (b:=7) (x:= .sl 7 0 0 0) (o:=0) (m:=0) (k:={cells:=[]}) (cs:=[]) (e2:=[(7,.p 6 0),(2,.p 0 0),(4,.p 2 0),(5,.p 3 0),(14,.fz L hs.length),(15,.i .i64 (hs.length:Int)),(16,.i .i64 (k:Int))]) (h2:=[(6,{cells:=[.i .i64 xk,.i .i64 xl,.i .i64 xs,.s xb,.fz (rows gp []) 0]}),(3,{cells:=[.i .i64 nx,.ns]}),(0,{cells:=B0}),(2,{cells:=[.i .i64 0,.ns]})]) ?_ rfl rfl (.inl ⟨0,rfl,Nat.le_refl _⟩) (.inl rfl) ⟨⟨_,rfl,FzV.refl⟩,⟨_,rfl,FzV.refl⟩,⟨_,rfl,FzV.refl⟩,⟨_,rfl,FzV.refl⟩,⟨_,rfl,FzV.refl⟩,⟨_,rfl,FzV.refl⟩,⟨_,rfl,FzV.refl⟩,trivial⟩ ⟨⟨by decide,_,rfl,rfl,rfl,rfl,FzV.refl,FzV.refl,FzV.refl,FzV.refl,FzV.hit,trivial⟩,⟨by decide,_,rfl,rfl,rfl,rfl,FzVs.refl⟩,⟨by decide,_,rfl,rfl,rfl,rfl,FzVs.refl⟩,⟨by decide,_,rfl,rfl,rfl,rfl,FzVs.refl⟩,trivial⟩
     exact Seam.ren (F:=F20) [] tail (by decide) (by decide) (by simp only [go_sem,AV.bel,belL,nblt,AV.ren,renL,hb,hbr,simprocAttr]) (by simp only [go_sem,rows_nil,List.length_nil,AV.bel,belL,nblt,AV.ren,renL,Blk.ren,bb,br,hb,hbr,hgb,hgr,simprocAttr])
    ·have f3:decide (xg.length=0)=false:=decide_eq_false (fun h=>hg (List.eq_nil_of_length_eq_zero h));have f4:decide (xg.length<=0)=false:=decide_eq_false (fun h=>hg (List.eq_nil_of_length_eq_zero (by omega)))
     simp only [go_sem,f3,f4,hgl,hgo,hgt,gg,List.drop_zero,simprocAttr];exact Seam.frz (F:=F20) (b:=8) (x:= .sg 8 0 xg.length) (o:=0) (m:=xg.length) (k:={cells:=rows gp xg,gr:=some 2}) (cs:=rows gp xg) tail rfl rfl (.inr rfl) (.inl rfl) ⟨⟨_,rfl,FzV.refl⟩,⟨_,rfl,FzV.refl⟩,⟨_,rfl,FzV.refl⟩,⟨_,rfl,FzV.refl⟩,⟨_,rfl,FzV.refl⟩,⟨_,rfl,FzV.refl⟩,⟨_,rfl,FzV.refl⟩,trivial⟩ ⟨⟨by decide,_,rfl,rfl,rfl,rfl,FzV.refl,FzV.refl,FzV.refl,FzV.refl,FzV.hit,trivial⟩,⟨by decide,_,rfl,rfl,rfl,rfl,FzVs.refl⟩,⟨by decide,_,rfl,rfl,rfl,rfl,FzVs.refl⟩,⟨by decide,_,rfl,rfl,rfl,rfl,FzVs.refl⟩,trivial⟩
   ·rw [ls1 hk0,lv1 hk0,lvs];simp only [go_sem,c4,simprocAttr];refine Seam.part (F:=F20) Sound.nil mo ?_;dsimp only [F20];simp only [go_sem,simprocAttr];refine Seam.seq ?_;refine Seam.block ?_;refine Seam.cut (fun K1 hK1=> ?_);have tail:Seam F20 (.reg i20r6) K1 [(7,.p 6 0),(2,.p 0 0),(4,.p 2 0),(5,.p 3 0),(14,.fz L hs.length),(15,.i .i64 (hs.length:Int)),(16,.i .i64 (k:Int))]
     [(5,{cells:=C,gr:=some 5}),(6,{cells:=[.i .i64 xk,.i .i64 xl,.i .i64 xs,.s xb,.fz (rows gp xg) xg.length]}),(3,{cells:=[.i .i64 nx,.sg 5 0 k]}),(0,{cells:=B0}),(2,{cells:=[.i .i64 0,.ns]})] 9:=by
     subst hK1;refine Seam.run (F:=F20) Sound.nil mo ?_;dsimp only [F20];simp only [go_sem,gm,cl,AV.bel,belL,nblt,hgb,simprocAttr];refine Seam.run (F:=F20) Sound.nil mo ?_;dsimp only [F20];simp only [go_sem,hwr,hst,AV.ren,renL,AV.bel,belL,nblt,Blk.ren,hb,hbr,bb,br,cnb,cnx,hgb,hgr,cb,cb9,cnr,renL_app,belL_append,simprocAttr]
    clear hK1;refine Seam.part (F:=F20) Sound.nil mo ?_;dsimp only [F20];simp only [go_sem,c5,hr,AV.bel,belL,nblt,hgb,simprocAttr];refine Seam.part (F:=F20) Sound.nil mo ?_;dsimp only [F20];by_cases hg:xg=[]
    ·subst hg;simp only [go_sem,rows_nil,List.length_nil,simprocAttr];refine Seam.frz (F:=F20) (b:=7) (x:= .sl 7 0 0 0) (o:=0) (m:=0) (k:={cells:=[]}) (cs:=[]) (e2:=[(7,.p 6 0),(2,.p 0 0),(4,.p 2 0),(5,.p 3 0),(14,.fz L hs.length),(15,.i .i64 (hs.length:Int)),(16,.i .i64 (k:Int))]) (h2:=[(5,{cells:=C,gr:=some 5}),(6,{cells:=[.i .i64 xk,.i .i64 xl,.i .i64 xs,.s xb,.fz (rows gp []) 0]}),(3,{cells:=[.i .i64 nx,.sg 5 0 k]}),(0,{cells:=B0}),(2,{cells:=[.i .i64 0,.ns]})]) ?_ rfl rfl (.inl ⟨0,rfl,Nat.le_refl _⟩) (.inl rfl) ⟨⟨_,rfl,FzV.refl⟩,⟨_,rfl,FzV.refl⟩,⟨_,rfl,FzV.refl⟩,⟨_,rfl,FzV.refl⟩,⟨_,rfl,FzV.refl⟩,⟨_,rfl,FzV.refl⟩,⟨_,rfl,FzV.refl⟩,trivial⟩ ⟨⟨by decide,_,rfl,rfl,rfl,rfl,FzVs.refl⟩,⟨by decide,_,rfl,rfl,rfl,rfl,FzV.refl,FzV.refl,FzV.refl,FzV.refl,FzV.hit,trivial⟩,⟨by decide,_,rfl,rfl,rfl,rfl,FzVs.refl⟩,⟨by decide,_,rfl,rfl,rfl,rfl,FzVs.refl⟩,⟨by decide,_,rfl,rfl,rfl,rfl,FzVs.refl⟩,trivial⟩
     exact Seam.ren (F:=F20) [] tail (by decide) (by decide) (by simp only [go_sem,AV.bel,belL,nblt,AV.ren,renL,hb,hbr,simprocAttr]) (by simp only [go_sem,rows_nil,List.length_nil,AV.bel,belL,nblt,AV.ren,renL,Blk.ren,bb,br,cb,cb9,crn,hb,hbr,hgb,hgr,simprocAttr])
    ·have f3:decide (xg.length=0)=false:=decide_eq_false (fun h=>hg (List.eq_nil_of_length_eq_zero h));have f4:decide (xg.length<=0)=false:=decide_eq_false (fun h=>hg (List.eq_nil_of_length_eq_zero (by omega)))
     simp only [go_sem,f3,f4,hgl,hgo,hgt,gg,List.drop_zero,simprocAttr];exact Seam.frz (F:=F20) (b:=8) (x:= .sg 8 0 xg.length) (o:=0) (m:=xg.length) (k:={cells:=rows gp xg,gr:=some 2}) (cs:=rows gp xg) tail rfl rfl (.inr rfl) (.inl rfl) ⟨⟨_,rfl,FzV.refl⟩,⟨_,rfl,FzV.refl⟩,⟨_,rfl,FzV.refl⟩,⟨_,rfl,FzV.refl⟩,⟨_,rfl,FzV.refl⟩,⟨_,rfl,FzV.refl⟩,⟨_,rfl,FzV.refl⟩,trivial⟩ ⟨⟨by decide,_,rfl,rfl,rfl,rfl,FzVs.refl⟩,⟨by decide,_,rfl,rfl,rfl,rfl,FzV.refl,FzV.refl,FzV.refl,FzV.refl,FzV.hit,trivial⟩,⟨by decide,_,rfl,rfl,rfl,rfl,FzVs.refl⟩,⟨by decide,_,rfl,rfl,rfl,rfl,FzVs.refl⟩,⟨by decide,_,rfl,rfl,rfl,rfl,FzVs.refl⟩,trivial⟩
  ·rw [e3 hx2,e5 (by omega)]
   clear e2 e3 e4 e5;by_cases hk0:k=0
   ·exact absurd (by omega) hx2
   ·rw [ls1 hk0,lv1 hk0,lvs];simp only [go_sem,c4,simprocAttr];refine Seam.part (F:=F20) Sound.nil mo ?_;dsimp only [F20];simp only [go_sem,simprocAttr];refine Seam.seq ?_;refine Seam.block ?_;refine Seam.cut (fun K1 hK1=> ?_);have tail:Seam F20 (.reg i20r6) K1 [(7,.p 6 0),(2,.p 0 0),(4,.p 2 0),(5,.p 3 0),(14,.fz L hs.length),(15,.i .i64 (hs.length:Int)),(16,.i .i64 (k:Int))]
     [(5,{cells:=C,gr:=some 5}),(4,lvB x0.got),(6,{cells:=[.i .i64 xk,.i .i64 xl,.i .i64 xs,.s xb,.fz (rows gp xg) xg.length]}),(3,{cells:=[.i .i64 nx,.sg 5 0 k]}),(0,{cells:=B0}),(2,{cells:=[.i .i64 0,.ns]})] 9:=by
     subst hK1;refine Seam.run (F:=F20) Sound.nil mo ?_;dsimp only [F20];simp only [go_sem,gm,cl,AV.bel,belL,nblt,hgb,simprocAttr];refine Seam.run (F:=F20) Sound.nil mo ?_;dsimp only [F20];simp only [go_sem,hwr,hst,AV.ren,renL,AV.bel,belL,nblt,Blk.ren,hb,hbr,bb,br,cnb,cnx,hgb,hgr,cb,cb9,cnr,renL_app,belL_append,kb,kr,simprocAttr]
    clear hK1;refine Seam.part (F:=F20) Sound.nil mo ?_;dsimp only [F20];simp only [go_sem,c5,hr,AV.bel,belL,nblt,hgb,simprocAttr];refine Seam.part (F:=F20) Sound.nil mo ?_;dsimp only [F20];by_cases hg:xg=[]
    ·subst hg;simp only [go_sem,rows_nil,List.length_nil,simprocAttr];refine Seam.frz (F:=F20) (b:=7) (x:= .sl 7 0 0 0) (o:=0) (m:=0) (k:={cells:=[]}) (cs:=[]) (e2:=[(7,.p 6 0),(2,.p 0 0),(4,.p 2 0),(5,.p 3 0),(14,.fz L hs.length),(15,.i .i64 (hs.length:Int)),(16,.i .i64 (k:Int))]) (h2:=[(5,{cells:=C,gr:=some 5}),(4,lvB x0.got),(6,{cells:=[.i .i64 xk,.i .i64 xl,.i .i64 xs,.s xb,.fz (rows gp []) 0]}),(3,{cells:=[.i .i64 nx,.sg 5 0 k]}),(0,{cells:=B0}),(2,{cells:=[.i .i64 0,.ns]})]) ?_ rfl rfl (.inl ⟨0,rfl,Nat.le_refl _⟩) (.inl rfl) ⟨⟨_,rfl,FzV.refl⟩,⟨_,rfl,FzV.refl⟩,⟨_,rfl,FzV.refl⟩,⟨_,rfl,FzV.refl⟩,⟨_,rfl,FzV.refl⟩,⟨_,rfl,FzV.refl⟩,⟨_,rfl,FzV.refl⟩,trivial⟩ ⟨⟨by decide,_,rfl,rfl,rfl,rfl,FzVs.refl⟩,⟨by decide,_,rfl,rfl,rfl,rfl,FzVs.refl⟩,⟨by decide,_,rfl,rfl,rfl,rfl,FzV.refl,FzV.refl,FzV.refl,FzV.refl,FzV.hit,trivial⟩,⟨by decide,_,rfl,rfl,rfl,rfl,FzVs.refl⟩,⟨by decide,_,rfl,rfl,rfl,rfl,FzVs.refl⟩,⟨by decide,_,rfl,rfl,rfl,rfl,FzVs.refl⟩,trivial⟩
     exact Seam.ren (F:=F20) [] tail (by decide) (by decide) (by simp only [go_sem,AV.bel,belL,nblt,AV.ren,renL,hb,hbr,simprocAttr]) (by simp only [go_sem,rows_nil,List.length_nil,AV.bel,belL,nblt,AV.ren,renL,Blk.ren,bb,br,cb,cb9,crn,kb,kr,hb,hbr,hgb,hgr,simprocAttr])
    ·have f3:decide (xg.length=0)=false:=decide_eq_false (fun h=>hg (List.eq_nil_of_length_eq_zero h));have f4:decide (xg.length<=0)=false:=decide_eq_false (fun h=>hg (List.eq_nil_of_length_eq_zero (by omega)))
     simp only [go_sem,f3,f4,hgl,hgo,hgt,gg,List.drop_zero,simprocAttr];exact Seam.frz (F:=F20) (b:=8) (x:= .sg 8 0 xg.length) (o:=0) (m:=xg.length) (k:={cells:=rows gp xg,gr:=some 2}) (cs:=rows gp xg) tail rfl rfl (.inr rfl) (.inl rfl) ⟨⟨_,rfl,FzV.refl⟩,⟨_,rfl,FzV.refl⟩,⟨_,rfl,FzV.refl⟩,⟨_,rfl,FzV.refl⟩,⟨_,rfl,FzV.refl⟩,⟨_,rfl,FzV.refl⟩,⟨_,rfl,FzV.refl⟩,trivial⟩ ⟨⟨by decide,_,rfl,rfl,rfl,rfl,FzVs.refl⟩,⟨by decide,_,rfl,rfl,rfl,rfl,FzVs.refl⟩,⟨by decide,_,rfl,rfl,rfl,rfl,FzV.refl,FzV.refl,FzV.refl,FzV.refl,FzV.hit,trivial⟩,⟨by decide,_,rfl,rfl,rfl,rfl,FzVs.refl⟩,⟨by decide,_,rfl,rfl,rfl,rfl,FzVs.refl⟩,⟨by decide,_,rfl,rfl,rfl,rfl,FzVs.refl⟩,trivial⟩
def pkG (a:Nat) (n:Int) (x:Int×Int):Int×Int:=if a=0 then (n,x.2) else (x.1,n)
def bnH (w kk oc:Nat) (n:Int) (h:Flt.Hf):Flt.Hf:=
 if w=1 then {h with kd:=n} else if w=2 then {h with ln:=n} else if w=3 then {h with sq:=n}
 else if w=4 then (if h.bd=[] then h else {h with bd:=h.bd.set (kk % h.bd.length) (UInt8.ofNat oc)})
 else if w=5 then {h with got:=h.got++[(n,IntKind.i64.wrap (n+1))]}
 else if w=6 then (match h.got[kk % h.got.length]? with|none=>h|some x=>{h with got:=h.got.take (kk % h.got.length)++[pkG (oc % 2) n x]++h.got.drop (kk % h.got.length+1)})
 else if w=7 then {h with got:=[]} else h
def bnS (wh at_ kk oc:Nat) (n:Int) (j:Jn):Jn:=
 if wh % 9=0 then ⟨n,j.hs⟩ else match j.hs[at_ % j.hs.length]? with
  |none=>⟨n,j.hs⟩
  |some h=>if wh % 9=8 then ⟨j.nx,j.hs++[h]⟩ else ⟨j.nx,j.hs.take (at_ % j.hs.length)++[bnH (wh % 9) kk oc n h]++j.hs.drop (at_ % j.hs.length+1)⟩
theorem WkaL.app: ∀{a b c d:List AV},WkaL a b->WkaL c d->WkaL (a++c) (b++d)
 |[],[],_,_,_,h=>h
 |_::_,_::_,_,_,h1,h2=>⟨h1.1,WkaL.app h1.2 h2⟩
 |[],_::_,_,_,h1,_=>h1.elim
 |_::_,[],_,_,h1,_=>h1.elim
theorem mid_st (X Y P:List AV) (a v:AV) (Q:List AV):List.take (X.length+P.length) (X++(P++a::Q)++Y)++[v]++List.drop (X.length+P.length+1) (X++(P++a::Q)++Y)=X++(P++v::Q)++Y:=by
 induction X with
 |nil=>
  rw [List.length_nil,Nat.zero_add,List.nil_append,List.nil_append];induction P with
  |nil=>rfl
  |cons p P ih=>
   have:(p::P).length=P.length+1:=rfl;rw [this];exact congrArg (p:: ·) ih
 |cons x X ih=>
  rw [show (x::X).length+P.length=X.length+P.length+1 by simp;omega]
  exact congrArg (x:: ·) ih
theorem mid_at (X Y P:List AV) (a:AV) (Q:List AV):(X++(P++a::Q)++Y)[X.length+P.length]? =some a:=by
 rw [List.append_assoc,List.append_assoc,List.getElem?_append_right (by omega),Nat.add_sub_cancel_left,List.getElem?_append_right (Nat.le_refl _),Nat.sub_self]
 rfl
theorem rows_mid (A B:List Flt.Hf) (x:Flt.Hf):rows Flt.Hf.l (A++[x]++B)=rows Flt.Hf.l A++x.l++rows Flt.Hf.l B:=by simp [rows]
theorem fin_5 {nx:Int} {hs:List Flt.Hf} {h:Hp} {n q:Nat} {gr:Option Nat} (h5:hget h q=some {cells:=rows Flt.Hf.l hs,gr:=gr}):CovS 0 (.agg [.i .i64 nx,.sg q 0 hs.length]) h n (.agg (Jn.a ⟨nx,hs⟩)) [] 0:=
 CovS.frzH (b:=q) (o:=0) (m:=hs.length) (cs:=rows Flt.Hf.l hs) (h':=[]) (v':= .agg [.i .i64 nx,.fz (rows Flt.Hf.l hs) hs.length]) h5 rfl (.inr rfl) (.inl rfl) (FzV.agg ⟨FzV.refl,FzV.hit,trivial⟩) trivial (CovS.ends (Ends.pureE (by simp only [AV.bel,belL,hrB,Bool.and_self]) rfl))
theorem fin_sg {nx a b c:Int} {d:List UInt8} {A B:List Flt.Hf} {g:List (Int×Int)} {h:Hp} {n q:Nat} {gr:Option Nat} (hq:hget h q=some {cells:=rows gp g,gr:=some 2}) (h5:hget h 5=some {cells:=rows Flt.Hf.l A++[.i .i64 a,.i .i64 b,.i .i64 c,.s d,.sg q 0 g.length]++rows Flt.Hf.l B,gr:=gr}) (ne:5≠q):
 CovS 0 (.agg [.i .i64 nx,.sg 5 0 (A++[(⟨a,b,c,d,g⟩:Flt.Hf)]++B).length]) h n (.agg (Jn.a ⟨nx,A++[⟨a,b,c,d,g⟩]++B⟩)) [] 0:=by
 refine CovS.frzH (b:=q) (x:= .sg q 0 g.length) (o:=0) (m:=g.length) (cs:=rows gp g) (h':=[(5,{cells:=rows Flt.Hf.l (A++[⟨a,b,c,d,g⟩]++B),gr:=gr})]) (v':= .agg [.i .i64 nx,.sg 5 0 (A++[(⟨a,b,c,d,g⟩:Flt.Hf)]++B).length]) hq rfl (.inr rfl) (.inl rfl) FzV.refl
  ⟨⟨ne,_,h5,rfl,rfl,rfl,by rw [rows_mid];exact FzVs.app (FzVs.app FzVs.refl ⟨FzV.refl,FzV.refl,FzV.refl,FzV.refl,FzV.hit,trivial⟩) FzVs.refl⟩,trivial⟩ ?_
 exact fin_5 rfl
theorem fin_sl {nx a b c:Int} {d:List UInt8} {A B:List Flt.Hf} {h:Hp} {n q:Nat} {gr:Option Nat} (hq:hget h q=some {cells:=[]}) (h5:hget h 5=some {cells:=rows Flt.Hf.l A++[.i .i64 a,.i .i64 b,.i .i64 c,.s d,.sl q 0 0 0]++rows Flt.Hf.l B,gr:=gr}) (ne:5≠q):
 CovS 0 (.agg [.i .i64 nx,.sg 5 0 (A++[(⟨a,b,c,d,[]⟩:Flt.Hf)]++B).length]) h n (.agg (Jn.a ⟨nx,A++[⟨a,b,c,d,[]⟩]++B⟩)) [] 0:=by
 refine CovS.frzH (b:=q) (x:= .sl q 0 0 0) (o:=0) (m:=0) (cs:=[]) (h':=[(5,{cells:=rows Flt.Hf.l (A++[⟨a,b,c,d,[]⟩]++B),gr:=gr})]) (v':= .agg [.i .i64 nx,.sg 5 0 (A++[(⟨a,b,c,d,[]⟩:Flt.Hf)]++B).length]) hq rfl (.inl ⟨0,rfl,Nat.le_refl _⟩) (.inl rfl) FzV.refl
  ⟨⟨ne,_,h5,rfl,rfl,rfl,by rw [rows_mid];exact FzVs.app (FzVs.app FzVs.refl ⟨FzV.refl,FzV.refl,FzV.refl,FzV.refl,FzV.hit,trivial⟩) FzVs.refl⟩,trivial⟩ ?_
 exact fin_5 rfl
theorem fin_sgm {nx a b c:Int} {d:List UInt8} {A B:List Flt.Hf} {g:List (Int×Int)} {h:Hp} {n q m k:Nat} {gr:Option Nat} (hm: ∀y:Flt.Hf,(A++[y]++B).length=m) (hk:k=g.length) (hq:hget h q=some {cells:=rows gp g,gr:=some 2}) (h5:hget h 5=some {cells:=rows Flt.Hf.l A++[.i .i64 a,.i .i64 b,.i .i64 c,.s d,.sg q 0 k]++rows Flt.Hf.l B,gr:=gr}) (ne:5≠q):
 CovS 0 (.agg [.i .i64 nx,.sg 5 0 m]) h n (.agg (Jn.a ⟨nx,A++[⟨a,b,c,d,g⟩]++B⟩)) [] 0:=by
 rw [<-hm ⟨a,b,c,d,g⟩];subst hk;exact fin_sg hq h5 ne
theorem fin_slm {nx a b c:Int} {d:List UInt8} {A B:List Flt.Hf} {h:Hp} {n q m:Nat} {gr:Option Nat} (hm: ∀y:Flt.Hf,(A++[y]++B).length=m) (hq:hget h q=some {cells:=[]}) (h5:hget h 5=some {cells:=rows Flt.Hf.l A++[.i .i64 a,.i .i64 b,.i .i64 c,.s d,.sl q 0 0 0]++rows Flt.Hf.l B,gr:=gr}) (ne:5≠q):
 CovS 0 (.agg [.i .i64 nx,.sg 5 0 m]) h n (.agg (Jn.a ⟨nx,A++[⟨a,b,c,d,[]⟩]++B⟩)) [] 0:=by
 rw [<-hm ⟨a,b,c,d,[]⟩];exact fin_sl hq h5 ne
theorem fin_sg2 {nx a b c:Int} {d:List UInt8} {A B:List Flt.Hf} {g:List (Int×Int)} {h:Hp} {n q r:Nat} {gr:Option Nat} (hq:hget h q=some {cells:=rows gp g,gr:=some 2}) (h5:hget h r=some {cells:=rows Flt.Hf.l A++[.i .i64 a,.i .i64 b,.i .i64 c,.s d,.sg q 0 g.length]++rows Flt.Hf.l B++[.i .i64 a,.i .i64 b,.i .i64 c,.s d,.sg q 0 g.length],gr:=gr}) (ne:r≠q):
 CovS 0 (.agg [.i .i64 nx,.sg r 0 (A++[(⟨a,b,c,d,g⟩:Flt.Hf)]++B++[(⟨a,b,c,d,g⟩:Flt.Hf)]).length]) h n (.agg (Jn.a ⟨nx,A++[(⟨a,b,c,d,g⟩:Flt.Hf)]++B++[(⟨a,b,c,d,g⟩:Flt.Hf)]⟩)) [] 0:=by
 refine CovS.frzH (b:=q) (x:= .sg q 0 g.length) (o:=0) (m:=g.length) (cs:=rows gp g) (h':=[(r,{cells:=rows Flt.Hf.l (A++[(⟨a,b,c,d,g⟩:Flt.Hf)]++B++[(⟨a,b,c,d,g⟩:Flt.Hf)]),gr:=gr})]) (v':= .agg [.i .i64 nx,.sg r 0 (A++[(⟨a,b,c,d,g⟩:Flt.Hf)]++B++[(⟨a,b,c,d,g⟩:Flt.Hf)]).length]) hq rfl (.inr rfl) (.inl rfl) FzV.refl
  ⟨⟨ne,_,h5,rfl,rfl,rfl,by rw [rows_append,rows_mid];exact FzVs.app (FzVs.app (FzVs.app FzVs.refl ⟨FzV.refl,FzV.refl,FzV.refl,FzV.refl,FzV.hit,trivial⟩) FzVs.refl) ⟨FzV.refl,FzV.refl,FzV.refl,FzV.refl,FzV.hit,trivial⟩⟩,trivial⟩ ?_
 exact fin_5 (gr:=gr) (by simp [hget])
theorem fin_sl2 {nx a b c:Int} {d:List UInt8} {A B:List Flt.Hf} {h:Hp} {n q r:Nat} {gr:Option Nat} (hq:hget h q=some {cells:=[]}) (h5:hget h r=some {cells:=rows Flt.Hf.l A++[.i .i64 a,.i .i64 b,.i .i64 c,.s d,.sl q 0 0 0]++rows Flt.Hf.l B++[.i .i64 a,.i .i64 b,.i .i64 c,.s d,.sl q 0 0 0],gr:=gr}) (ne:r≠q):
 CovS 0 (.agg [.i .i64 nx,.sg r 0 (A++[(⟨a,b,c,d,[]⟩:Flt.Hf)]++B++[(⟨a,b,c,d,[]⟩:Flt.Hf)]).length]) h n (.agg (Jn.a ⟨nx,A++[(⟨a,b,c,d,[]⟩:Flt.Hf)]++B++[(⟨a,b,c,d,[]⟩:Flt.Hf)]⟩)) [] 0:=by
 refine CovS.frzH (b:=q) (x:= .sl q 0 0 0) (o:=0) (m:=0) (cs:=[]) (h':=[(r,{cells:=rows Flt.Hf.l (A++[(⟨a,b,c,d,[]⟩:Flt.Hf)]++B++[(⟨a,b,c,d,[]⟩:Flt.Hf)]),gr:=gr})]) (v':= .agg [.i .i64 nx,.sg r 0 (A++[(⟨a,b,c,d,[]⟩:Flt.Hf)]++B++[(⟨a,b,c,d,[]⟩:Flt.Hf)]).length]) hq rfl (.inl ⟨0,rfl,Nat.le_refl _⟩) (.inl rfl) FzV.refl
  ⟨⟨ne,_,h5,rfl,rfl,rfl,by rw [rows_append,rows_mid];exact FzVs.app (FzVs.app (FzVs.app FzVs.refl ⟨FzV.refl,FzV.refl,FzV.refl,FzV.refl,FzV.hit,trivial⟩) FzVs.refl) ⟨FzV.refl,FzV.refl,FzV.refl,FzV.refl,FzV.hit,trivial⟩⟩,trivial⟩ ?_
 exact fin_5 (gr:=gr) (by simp [hget])
theorem fin_ns {nx a b c:Int} {d:List UInt8} {A B:List Flt.Hf} {h:Hp} {n:Nat} {gr:Option Nat} (h5:hget h 5=some {cells:=rows Flt.Hf.l A++[.i .i64 a,.i .i64 b,.i .i64 c,.s d,.ns]++rows Flt.Hf.l B,gr:=gr}):
 CovS 0 (.agg [.i .i64 nx,.sg 5 0 (A++[(⟨a,b,c,d,[]⟩:Flt.Hf)]++B).length]) h n (.agg (Jn.a ⟨nx,A++[⟨a,b,c,d,[]⟩]++B⟩)) [] 0:=by
 refine CovS.frzH (b:=5) (o:=0) (m:=(A++[(⟨a,b,c,d,[]⟩:Flt.Hf)]++B).length) (cs:=rows Flt.Hf.l A++[.i .i64 a,.i .i64 b,.i .i64 c,.s d,.ns]++rows Flt.Hf.l B) (h':=[]) (v':= .agg [.i .i64 nx,.fz (rows Flt.Hf.l A++[.i .i64 a,.i .i64 b,.i .i64 c,.s d,.ns]++rows Flt.Hf.l B) (A++[(⟨a,b,c,d,[]⟩:Flt.Hf)]++B).length]) h5 rfl (.inr rfl) (.inl rfl) (FzV.agg ⟨FzV.refl,FzV.hit,trivial⟩) trivial ?_;have hw:Wka (.agg [.i .i64 nx,.fz (rows Flt.Hf.l A++[.i .i64 a,.i .i64 b,.i .i64 c,.s d,.ns]++rows Flt.Hf.l B) (A++[(⟨a,b,c,d,[]⟩:Flt.Hf)]++B).length]) (.agg [.i .i64 nx,.fz (rows Flt.Hf.l (A++[⟨a,b,c,d,[]⟩]++B)) (A++[(⟨a,b,c,d,[]⟩:Flt.Hf)]++B).length]):=by
  rw [rows_mid];exact Wka.agg ⟨Wka.refl _,Wka.fz (WkaL.app (WkaL.app (WkaL.refl _) ⟨Wka.refl _,Wka.refl _,Wka.refl _,Wka.refl _,Wka.ns,trivial⟩) (WkaL.refl _)),trivial⟩
 exact CovS.frzN (l:=[]) (fun D φ u _ hv=>hw D φ u hv) (CovS.ends (Ends.pureE (by simp only [AV.bel,belL,hrB,Bool.and_self]) rfl))
theorem fin_nsm {nx a b c:Int} {d:List UInt8} {A B:List Flt.Hf} {h:Hp} {n m:Nat} {gr:Option Nat} (hm: ∀y:Flt.Hf,(A++[y]++B).length=m) (h5:hget h 5=some {cells:=rows Flt.Hf.l A++[.i .i64 a,.i .i64 b,.i .i64 c,.s d,.ns]++rows Flt.Hf.l B,gr:=gr}):
 CovS 0 (.agg [.i .i64 nx,.sg 5 0 m]) h n (.agg (Jn.a ⟨nx,A++[⟨a,b,c,d,[]⟩]++B⟩)) [] 0:=by
 rw [<-hm ⟨a,b,c,d,[]⟩];exact fin_ns h5
theorem fin_sg2m {nx a b c:Int} {d:List UInt8} {A B:List Flt.Hf} {g:List (Int×Int)} {h:Hp} {n q r m k:Nat} {gr:Option Nat} (hm: ∀y:Flt.Hf,(A++[y]++B).length=m) (hk:k=g.length) (hq:hget h q=some {cells:=rows gp g,gr:=some 2}) (h5:hget h r=some {cells:=rows Flt.Hf.l A++[.i .i64 a,.i .i64 b,.i .i64 c,.s d,.sg q 0 k]++rows Flt.Hf.l B++[.i .i64 a,.i .i64 b,.i .i64 c,.s d,.sg q 0 k],gr:=gr}) (ne:r≠q):
 CovS 0 (.agg [.i .i64 nx,.sg r 0 (m+1)]) h n (.agg (Jn.a ⟨nx,A++[⟨a,b,c,d,g⟩]++B++[⟨a,b,c,d,g⟩]⟩)) [] 0:=by
 have e:m+1=(A++[(⟨a,b,c,d,g⟩:Flt.Hf)]++B++[(⟨a,b,c,d,g⟩:Flt.Hf)]).length:=by rw [List.length_append,hm];rfl
 rw [e];subst hk;exact fin_sg2 hq h5 ne
theorem fin_sl2m {nx a b c:Int} {d:List UInt8} {A B:List Flt.Hf} {h:Hp} {n q r m:Nat} {gr:Option Nat} (hm: ∀y:Flt.Hf,(A++[y]++B).length=m) (hq:hget h q=some {cells:=[]}) (h5:hget h r=some {cells:=rows Flt.Hf.l A++[.i .i64 a,.i .i64 b,.i .i64 c,.s d,.sl q 0 0 0]++rows Flt.Hf.l B++[.i .i64 a,.i .i64 b,.i .i64 c,.s d,.sl q 0 0 0],gr:=gr}) (ne:r≠q):
 CovS 0 (.agg [.i .i64 nx,.sg r 0 (m+1)]) h n (.agg (Jn.a ⟨nx,A++[⟨a,b,c,d,[]⟩]++B++[⟨a,b,c,d,[]⟩]⟩)) [] 0:=by
 have e:m+1=(A++[(⟨a,b,c,d,[]⟩:Flt.Hf)]++B++[(⟨a,b,c,d,[]⟩:Flt.Hf)]).length:=by rw [List.length_append,hm];rfl
 rw [e];exact fin_sl2 hq h5 ne
theorem gp_st0 (g:List (Int×Int)) (j:Nat) (n:Int) (x:Int×Int) (h:g[j]? =some x):List.take (j*2) (rows gp g)++[AV.i .i64 n]++List.drop (j*2+1) (rows gp g)=rows gp (g.take j++[pkG 0 n x]++g.drop (j+1))/\List.take (j*2+1) (rows gp g)++[AV.i .i64 n]++List.drop (j*2+1+1) (rows gp g)=rows gp (g.take j++[pkG 1 n x]++g.drop (j+1)):=by
 have hlt:=(List.getElem?_eq_some_iff.1 h).1;have e:g=g.take j++[x]++g.drop (j+1):=by
  rw [List.getElem?_eq_getElem hlt] at h;rw [<-Option.some.inj h,<-List.take_succ_eq_append_getElem hlt,List.take_append_drop]
 have ej:(rows gp (g.take j)).length=j*2:=by rw [rows_len gp_len,List.length_take,Nat.min_eq_left (by omega)]
 have er:rows gp g=rows gp (g.take j)++([]++ .i .i64 x.1::[.i .i64 x.2])++rows gp (g.drop (j+1)):=by
  conv=>lhs;rw [e]
  rw [rows_append,rows_append];rfl
 have m0:=mid_st (rows gp (g.take j)) (rows gp (g.drop (j+1))) [] (.i .i64 x.1) (.i .i64 n) [.i .i64 x.2];have m1:=mid_st (rows gp (g.take j)) (rows gp (g.drop (j+1))) [.i .i64 x.1] (.i .i64 x.2) (.i .i64 n) [];rw [ej] at m0 m1;constructor
 ·rw [er];refine Eq.trans m0 ?_;rw [rows_append,rows_append];rfl
 ·rw [er];refine Eq.trans m1 ?_;rw [rows_append,rows_append];rfl
theorem of_nx (wh at_ kk oc:Nat) (n nx:Int) (hs:List Flt.Hf) (hl4:hs.length<=1000) (hw:wh % 9=0\/hs=[]):
 Seam F20 (.seq (.seq (.reg i20r9) (.cond (.t 41) (.seq (.reg i20r10) (.seq (.reg i20r11) .ret)) .skip)) (.seq (.dreg i20r12) (.seq (.seq (.reg i20r13) (.block 2 (.seq (.reg i20r14) (.cond (.t 67) (.reg i20r15) (.seq (.reg i20r16) (.cond (.t 74) (.reg i20r17) (.seq (.reg i20r18) (.cond (.t 81) (.reg i20r19) (.seq (.reg i20r20) (.cond (.t 88) (.seq (.reg i20r21) (.cond (.t 95) (.seq (.reg i20r22) (.seq (.dreg i20r23) (.reg i20r24))) .skip)) (.seq (.reg i20r25) (.cond (.t 116) (.dreg i20r26) (.seq (.reg i20r27) (.cond (.t 133) (.seq (.reg i20r28) (.cond (.t 140) (.dreg i20r29) .skip)) (.seq (.reg i20r30) (.cond (.t 161) (.reg i20r31) (.dreg i20r32))))))))))))))))) (.seq (.reg i20r33) .ret)))) (retK [IRes.c 4 true 2] fun v h' n'=>CovS 0 v h' n' (.agg (bnS wh at_ kk oc n ⟨nx,hs⟩).a) [] 0) [(2,.p 0 0),(4,.p 2 0),(5,.p 3 0)] (lst hs hs.length ⟨0,0,0,[],[]⟩ hs.length++(xtr hs.length ⟨0,0,0,[],[]⟩ hs.length++[(3,{cells:=[.i .i64 nx,lsV hs.length]}),(0,{cells:=[.i .u8 (wh:Int),.i .u8 (at_:Int),.i .u8 (kk:Int),.i .i64 n,.i .u8 (oc:Int)]}),(2,{cells:=[.i .i64 0,.ns]})])) 6:=by
 have hS:bnS wh at_ kk oc n ⟨nx,hs⟩=⟨n,hs⟩:=by
  unfold bnS;by_cases h:wh % 9=0
  ·rw [if_pos h]
  ·rw [if_neg h];have:=hw.resolve_left h;subst this;rfl
 rw [hS];have tw:(wh:Int).tmod 9=((wh % 9:Nat):Int):=by rw [Int.tmod_eq_emod_of_nonneg (by omega)];rfl
 have e2:xtr hs.length ⟨0,0,0,[],[]⟩ hs.length=[]:=if_pos (Nat.le_refl _);rw [e2];have hend:hs≠[]-> ∀{h:Hp} {m:Nat},hget h 5=some {cells:=rows Flt.Hf.l hs,gr:=some 5}->CovS 0 (.agg [.i .i64 n,.sg 5 0 hs.length]) h m (.agg (Jn.a ⟨n,hs⟩)) [] 0:=fun _ {h m} h5=>fin_5 h5;refine Seam.run (F:=F20) Sound.nil mo ?_;dsimp only [F20];by_cases hne:hs=[]
 ·subst hne;have e1:lst [] 0 ⟨0,0,0,[],[]⟩ 0=[]:=rfl;have e3:lsV 0= .ns:=rfl;have hz: ∀{h:Hp} {m:Nat},CovS 0 (.agg [.i .i64 n,.ns]) h m (.agg (Jn.a ⟨n,[]⟩)) [] 0:=fun {h m}=>CovS.frzN (v':= .agg [.i .i64 n,.fz [] 0]) (l:=[]) (FzV.agg ⟨FzV.refl,FzV.hit,trivial⟩) (CovS.ends (Ends.pureE rfl rfl));simp only [List.length_nil];rw [e1,e3];cases h:(((wh % 9:Nat):Int)==0)
  ·simp only [go_sem,tw,h,simprocAttr];exact hz
  ·simp only [go_sem,tw,h,simprocAttr];exact hz
 ·have h0:hs.length≠0:=fun h=>hne (List.eq_nil_of_length_eq_zero h);have e1:lst hs hs.length ⟨0,0,0,[],[]⟩ hs.length=[(5,{cells:=rows Flt.Hf.l hs,gr:=some 5})]:=by
   unfold lst;rw [if_neg h0];unfold CC;rw [if_pos (Nat.le_refl _),List.take_length]
  have e3:lsV hs.length= .sg 5 0 hs.length:=if_neg h0;have h:(((wh % 9:Nat):Int)==0)=true:=by rw [hw.resolve_right hne];rfl
  rw [e1,e3];simp only [go_sem,tw,h,simprocAttr];exact hend hne rfl
theorem of_sw (wh at_ kk oc:Nat) (n nx:Int) (hkk:kk<256) (hoc:oc<256) (hat:at_<256) (hs A B:List Flt.Hf) (xk xl xs:Int) (xb:List UInt8) (xg:List (Int×Int)) (hl4:hs.length<=1000) (hgl:xg.length<=4000) (hbl:xb.length<=9223372036854775807) (w:Nat) (hw:w=wh % 9) (hw0:w≠0) (hi:at_ % hs.length=A.length) (h0:hs.length≠0)
 (hhs:hs=A++[⟨xk,xl,xs,xb,xg⟩]++B):
 Seam F20 (.seq (.seq (.reg i20r9) (.cond (.t 41) (.seq (.reg i20r10) (.seq (.reg i20r11) .ret)) .skip)) (.seq (.dreg i20r12) (.seq (.seq (.reg i20r13) (.block 2 (.seq (.reg i20r14) (.cond (.t 67) (.reg i20r15) (.seq (.reg i20r16) (.cond (.t 74) (.reg i20r17) (.seq (.reg i20r18) (.cond (.t 81) (.reg i20r19) (.seq (.reg i20r20) (.cond (.t 88) (.seq (.reg i20r21) (.cond (.t 95) (.seq (.reg i20r22) (.seq (.dreg i20r23) (.reg i20r24))) .skip)) (.seq (.reg i20r25) (.cond (.t 116) (.dreg i20r26) (.seq (.reg i20r27) (.cond (.t 133) (.seq (.reg i20r28) (.cond (.t 140) (.dreg i20r29) .skip)) (.seq (.reg i20r30) (.cond (.t 161) (.reg i20r31) (.dreg i20r32))))))))))))))))) (.seq (.reg i20r33) .ret)))) (retK [IRes.c 4 true 2] fun v h' n'=>CovS 0 v h' n' (.agg (bnS wh at_ kk oc n ⟨nx,hs⟩).a) [] 0) [(2,.p 0 0),(4,.p 2 0),(5,.p 3 0)] [(5,{cells:=rows Flt.Hf.l A++[.i .i64 xk,.i .i64 xl,.i .i64 xs,.s xb,lvV xg]++rows Flt.Hf.l B,gr:=some 5}),(4,lvB xg),(3,{cells:=[.i .i64 nx,.sg 5 0 hs.length]}),(0,{cells:=[.i .u8 (wh:Int),.i .u8 (at_:Int),.i .u8 (kk:Int),.i .i64 n,.i .u8 (oc:Int)]}),(2,{cells:=[.i .i64 0,.ns]})] 6:=by
 have hS:bnS wh at_ kk oc n ⟨nx,hs⟩=if w=8 then ⟨nx,hs++[⟨xk,xl,xs,xb,xg⟩]⟩ else ⟨nx,A++[bnH w kk oc n ⟨xk,xl,xs,xb,xg⟩]++B⟩:=by
  unfold bnS;rw [<-hw,if_neg hw0,hi];have e:hs[A.length]? =some ⟨xk,xl,xs,xb,xg⟩:=by rw [hhs,List.append_assoc,List.getElem?_append_right (Nat.le_refl _),Nat.sub_self];rfl
  have e2:hs.take A.length=A:=by rw [hhs,List.append_assoc,List.take_left]
  have e3:hs.drop (A.length+1)=B:=by
   rw [hhs,show A.length+1=(A++[(⟨xk,xl,xs,xb,xg⟩:Flt.Hf)]).length by rw [List.length_append];rfl,List.drop_left]
  dsimp only;rw [e,e2,e3]
 rw [hS];have hlen: ∀y:Flt.Hf,(A++[y]++B).length=hs.length:=fun y=>by rw [hhs];simp
 have hAL:A.length<hs.length:=by rw [<-hi];exact Nat.mod_lt _ (by omega)
 have tw:(wh:Int).tmod 9=(w:Int):=by rw [Int.tmod_eq_emod_of_nonneg (by omega),hw];rfl
 have hw9:w<9:=by rw [hw];exact Nat.mod_lt _ (by decide)
 have ta:(at_:Int).tmod (hs.length:Int)=(A.length:Int):=by rw [Int.tmod_eq_emod_of_nonneg (by omega),<-hi];rfl
 have wa:IntKind.i64.wrap (at_:Int)=(at_:Int):=wrapL (by omega) (by omega)
 have wkk:IntKind.i64.wrap (kk:Int)=(kk:Int):=wrapL (by omega) (by omega)
 have c0:((hs.length:Int)==0)=false:=beq_eq_false_iff_ne.2 (by omega)
 have c1:((hs.length:Int) !=0)=true:=bne_iff_ne.2 (by omega)
 have c2:decide (0<=(A.length:Int)/\(A.length:Int)<(hs.length:Int))=true:=decide_eq_true (by omega)
 have hgb:=fun j=>grB j xg;have hgr:=fun ψ=>grR ψ xg;have rA:(rows Flt.Hf.l A).length=A.length*5:=rows_len Flt.Hf.len;have rB:(rows Flt.Hf.l B).length=B.length*5:=rows_len Flt.Hf.len;have hAB:hs.length=A.length+1+B.length:=by rw [<-hlen ⟨xk,xl,xs,xb,xg⟩];simp;omega
 -- the cells
 have stc: ∀V v:AV,(let X:=rows Flt.Hf.l A++[.i .i64 xk,.i .i64 xl,.i .i64 xs,.s xb,V]++rows Flt.Hf.l B
  List.take (A.length*5) X++[v]++List.drop (A.length*5+1) X=rows Flt.Hf.l A++[v,.i .i64 xl,.i .i64 xs,.s xb,V]++rows Flt.Hf.l B∧
  List.take (A.length*5+1) X++[v]++List.drop (A.length*5+1+1) X=rows Flt.Hf.l A++[.i .i64 xk,v,.i .i64 xs,.s xb,V]++rows Flt.Hf.l B∧
  List.take (A.length*5+2) X++[v]++List.drop (A.length*5+2+1) X=rows Flt.Hf.l A++[.i .i64 xk,.i .i64 xl,v,.s xb,V]++rows Flt.Hf.l B∧
  List.take (A.length*5+3) X++[v]++List.drop (A.length*5+3+1) X=rows Flt.Hf.l A++[.i .i64 xk,.i .i64 xl,.i .i64 xs,v,V]++rows Flt.Hf.l B∧
  List.take (A.length*5+4) X++[v]++List.drop (A.length*5+4+1) X=rows Flt.Hf.l A++[.i .i64 xk,.i .i64 xl,.i .i64 xs,.s xb,v]++rows Flt.Hf.l B∧
  List.take 5 (List.drop (A.length*5) X)=[.i .i64 xk,.i .i64 xl,.i .i64 xs,.s xb,V]/\X[A.length*5+3]? =some (.s xb)/\X[A.length*5+4]? =some V/\X.length=hs.length*5):=fun V v=>by
  dsimp only;have hXl:(rows Flt.Hf.l A++[AV.i .i64 xk,.i .i64 xl,.i .i64 xs,.s xb,V]++rows Flt.Hf.l B).length=hs.length*5:=by
   rw [List.length_append,List.length_append,rA,rB,hAB];simp only [List.length_cons,List.length_nil];omega
  rw [<-rA];generalize rows Flt.Hf.l A=X at*;generalize rows Flt.Hf.l B=Y at*;refine ⟨?_,?_,?_,?_,?_,?_,?_,?_,?_⟩
  ·exact mid_st X Y [] _ _ _
  ·exact mid_st X Y [_] _ _ _
  ·exact mid_st X Y [_,_] _ _ _
  ·exact mid_st X Y [_,_,_] _ _ _
  ·exact mid_st X Y [_,_,_,_] _ _ _
  ·rw [List.append_assoc,List.drop_left];rfl
  ·exact mid_at X Y [_,_,_] _ _
  ·exact mid_at X Y [_,_,_,_] _ _
  ·exact hXl
 have hAb:=fun j=>hrB j A;have hBb:=fun j=>hrB j B;have i2:w≠8->(if w=8 then (⟨nx,hs++[⟨xk,xl,xs,xb,xg⟩]⟩:Jn) else ⟨nx,A++[bnH w kk oc n ⟨xk,xl,xs,xb,xg⟩]++B⟩)=⟨nx,A++[bnH w kk oc n ⟨xk,xl,xs,xb,xg⟩]++B⟩:=fun h=>if_neg h
 have wc: ∀c:Nat,c<5->decide (A.length*5+c+1<=hs.length*5)=true:=fun c hc=>decide_eq_true (by omega)
 have wc0:decide (A.length*5+1<=hs.length*5)=true:=decide_eq_true (by omega)
 have wc1:=wc 1 (by decide)
 have wc2:=wc 2 (by decide)
 have wc3:=wc 3 (by decide)
 have wc4:=wc 4 (by decide)
 clear wc;by_cases hg:xg=[]
 ·subst hg;have e1:lvV []= .sl 4 0 0 0:=rfl;have e2:lvB []={cells:=[]}:=rfl;rw [e1,e2];have st:=fun v=>stc (.sl 4 0 0 0) v;dsimp only at st;generalize hX:rows Flt.Hf.l A++[AV.i .i64 xk,.i .i64 xl,.i .i64 xs,.s xb,.sl 4 0 0 0]++rows Flt.Hf.l B=X at*;have s0:=fun v=>(st v).1;have s1:=fun v=>(st v).2.1;have s2:=fun v=>(st v).2.2.1;have s3:=fun v=>(st v).2.2.2.1;have s4:=fun v=>(st v).2.2.2.2.1;have r0:=(st .np).2.2.2.2.2.1;have r3:=(st .np).2.2.2.2.2.2.1;have r4:=(st .np).2.2.2.2.2.2.2.1;have rl:=(st .np).2.2.2.2.2.2.2.2;clear st;refine Seam.part (F:=F20) Sound.nil mo ?_;dsimp only [F20];cases tz:((w:Int)==0);rotate_left
  ·exact absurd (by simpa using tz) hw0
  simp only [go_sem,tw,tz,c0,simprocAttr];refine Seam.part (F:=F20) Sound.nil mo ?_;dsimp only [F20];simp only [go_sem,ta,wa,c1,c2,simprocAttr];refine Seam.run (F:=F20) Sound.nil mo ?_;dsimp only [F20];obtain rfl|rfl|rfl|rfl|rfl|rfl|rfl|rfl:w=1\/w=2\/w=3\/w=4\/w=5\/w=6\/w=7\/w=8:=by omega
  ·rw [i2 (by decide)]
   simp only [go_sem,tw,s0,rl,wc0,AV.bel,belL,nblt,simprocAttr];exact fin_slm hlen rfl rfl (by decide)
  ·rw [i2 (by decide)]
   simp only [go_sem,tw,s1,rl,wc1,AV.bel,belL,nblt,simprocAttr];exact fin_slm hlen rfl rfl (by decide)
  ·rw [i2 (by decide)]
   simp only [go_sem,tw,s2,rl,wc2,AV.bel,belL,nblt,simprocAttr];exact fin_slm hlen rfl rfl (by decide)
  ·rw [i2 (by decide),show bnH 4 kk oc n ⟨xk,xl,xs,xb,[]⟩=(if xb=[] then ⟨xk,xl,xs,xb,[]⟩ else ⟨xk,xl,xs,xb.set (kk % xb.length) (UInt8.ofNat oc),[]⟩) from rfl]
   by_cases hb:xb=[]
   ·rw [if_pos hb];have lb:decide ((xb.length:Int)>0)=false:=by rw [hb];rfl
    simp only [go_sem,tw,r3,lb,AV.bel,belL,nblt,simprocAttr];subst hX;exact fin_slm hlen rfl rfl (by decide)
   ·rw [if_neg hb];have hbp:0<xb.length:=List.length_pos_iff.2 hb;have lb:decide ((xb.length:Int)>0)=true:=decide_eq_true (by omega)
    have nz:((xb.length:Int) !=0)=true:=bne_iff_ne.2 (by omega)
    have tk:(kk:Int).tmod (xb.length:Int)=((kk % xb.length:Nat):Int):=by rw [Int.tmod_eq_emod_of_nonneg (by omega)];rfl
    have hq:=Nat.mod_lt kk hbp;have hU:(xb.map fun b=>AV.i .u8 (b.toNat:Int))=u8m xb:=rfl;generalize kk % xb.length=q at*;have us:=u8m_st xb q (UInt8.ofNat oc) hq;rw [show ((UInt8.ofNat oc).toNat:Int)=(oc:Int) by simp;omega] at us
    have ul:decide (q+1<=(u8m xb).length)=true:=decide_eq_true (by rw [u8m_len];omega)
    have sl:(xb.set q (UInt8.ofNat oc)).length=xb.length:=List.length_set;have ub:bytesOf (List.take xb.length (u8m (xb.set q (UInt8.ofNat oc))))=some (xb.set q (UInt8.ofNat oc)):=by
     rw [List.take_of_length_le (by rw [u8m_len,sl];exact Nat.le_refl _)];exact u8m_bytes _
    have ue:decide ((xb.set q (UInt8.ofNat oc)).length=xb.length)=true:=decide_eq_true sl;have cq:decide (0<=(q:Int)/\(q:Int)<(xb.length:Int))=true:=decide_eq_true (by omega)
    generalize xb.set q (UInt8.ofNat oc)=bd2 at*;generalize u8m bd2=U2 at*;generalize u8m xb=U at*;simp only [go_sem,tw,r3,lb,nz,tk,wkk,hU,us,ul,ub,ue,cq,s3,rl,wc3,Nat.mul_one,List.drop_zero,AV.bel,belL,nblt,simprocAttr];exact fin_slm hlen rfl rfl (by decide)
  ·rw [i2 (by decide),show bnH 5 kk oc n ⟨xk,xl,xs,xb,[]⟩=⟨xk,xl,xs,xb,[]++[(n,IntKind.i64.wrap (n+1))]⟩ from rfl]
   have gm1:decide (16<=growMax)=true:=by decide
   simp only [go_sem,tw,r4,s4,rl,wc4,gm1,AV.bel,belL,nblt,simprocAttr];exact fin_sgm (g:=[(n,IntKind.i64.wrap (n+1))]) hlen rfl rfl rfl (by decide)
  ·rw [i2 (by decide)]
   simp only [go_sem,tw,r4,AV.bel,belL,nblt,simprocAttr];subst hX;exact fin_slm hlen rfl rfl (by decide)
  ·rw [i2 (by decide),show bnH 7 kk oc n ⟨xk,xl,xs,xb,[]⟩=⟨xk,xl,xs,xb,[]⟩ from rfl]
   simp only [go_sem,tw,s4,rl,wc4,AV.bel,belL,nblt,simprocAttr];exact fin_nsm hlen rfl
  ·rw [if_pos rfl];have e8:hs++[⟨xk,xl,xs,xb,[]⟩]=A++[⟨xk,xl,xs,xb,[]⟩]++B++[⟨xk,xl,xs,xb,[]⟩]:=congrArg (· ++[(⟨xk,xl,xs,xb,[]⟩:Flt.Hf)]) hhs;rw [e8];have gm8:decide (64*(hs.length+1)<=growMax)=true:=decide_eq_true (by simp only [growMax];omega)
   simp only [go_sem,tw,r0,rl,gm8,AV.bel,belL,nblt,hgb,simprocAttr];subst hX;exact fin_sl2m hlen rfl rfl (by decide)
 ·have hg0:xg.length≠0:=fun h=>hg (List.eq_nil_of_length_eq_zero h);have e1:lvV xg= .sg 4 0 xg.length:=if_neg hg;have e2:lvB xg={cells:=rows gp xg,gr:=some 2}:=if_neg hg;rw [e1,e2];have st:=fun v=>stc (.sg 4 0 xg.length) v;dsimp only at st;generalize hX:rows Flt.Hf.l A++[AV.i .i64 xk,.i .i64 xl,.i .i64 xs,.s xb,.sg 4 0 xg.length]++rows Flt.Hf.l B=X at*;have s0:=fun v=>(st v).1;have s1:=fun v=>(st v).2.1;have s2:=fun v=>(st v).2.2.1;have s3:=fun v=>(st v).2.2.2.1;have s4:=fun v=>(st v).2.2.2.2.1;have r0:=(st .np).2.2.2.2.2.1;have r3:=(st .np).2.2.2.2.2.2.1;have r4:=(st .np).2.2.2.2.2.2.2.1;have rl:=(st .np).2.2.2.2.2.2.2.2;clear st;refine Seam.part (F:=F20) Sound.nil mo ?_;dsimp only [F20];cases tz:((w:Int)==0);rotate_left
  ·exact absurd (by simpa using tz) hw0
  simp only [go_sem,tw,tz,c0,simprocAttr];refine Seam.part (F:=F20) Sound.nil mo ?_;dsimp only [F20];simp only [go_sem,ta,wa,c1,c2,simprocAttr];refine Seam.run (F:=F20) Sound.nil mo ?_;dsimp only [F20];obtain rfl|rfl|rfl|rfl|rfl|rfl|rfl|rfl:w=1\/w=2\/w=3\/w=4\/w=5\/w=6\/w=7\/w=8:=by omega
  ·rw [i2 (by decide)]
   simp only [go_sem,tw,s0,rl,wc0,AV.bel,belL,nblt,simprocAttr];exact fin_sgm hlen rfl rfl rfl (by decide)
  ·rw [i2 (by decide)]
   simp only [go_sem,tw,s1,rl,wc1,AV.bel,belL,nblt,simprocAttr];exact fin_sgm hlen rfl rfl rfl (by decide)
  ·rw [i2 (by decide)]
   simp only [go_sem,tw,s2,rl,wc2,AV.bel,belL,nblt,simprocAttr];exact fin_sgm hlen rfl rfl rfl (by decide)
  ·rw [i2 (by decide),show bnH 4 kk oc n ⟨xk,xl,xs,xb,xg⟩=(if xb=[] then ⟨xk,xl,xs,xb,xg⟩ else ⟨xk,xl,xs,xb.set (kk % xb.length) (UInt8.ofNat oc),xg⟩) from rfl]
   by_cases hb:xb=[]
   ·rw [if_pos hb];have lb:decide ((xb.length:Int)>0)=false:=by rw [hb];rfl
    simp only [go_sem,tw,r3,lb,AV.bel,belL,nblt,simprocAttr];subst hX;exact fin_sgm hlen rfl rfl rfl (by decide)
   ·rw [if_neg hb];have hbp:0<xb.length:=List.length_pos_iff.2 hb;have lb:decide ((xb.length:Int)>0)=true:=decide_eq_true (by omega)
    have nz:((xb.length:Int) !=0)=true:=bne_iff_ne.2 (by omega)
    have tk:(kk:Int).tmod (xb.length:Int)=((kk % xb.length:Nat):Int):=by rw [Int.tmod_eq_emod_of_nonneg (by omega)];rfl
    have hq:=Nat.mod_lt kk hbp;have hU:(xb.map fun b=>AV.i .u8 (b.toNat:Int))=u8m xb:=rfl;generalize kk % xb.length=q at*;have us:=u8m_st xb q (UInt8.ofNat oc) hq;rw [show ((UInt8.ofNat oc).toNat:Int)=(oc:Int) by simp;omega] at us
    have ul:decide (q+1<=(u8m xb).length)=true:=decide_eq_true (by rw [u8m_len];omega)
    have sl:(xb.set q (UInt8.ofNat oc)).length=xb.length:=List.length_set;have ub:bytesOf (List.take xb.length (u8m (xb.set q (UInt8.ofNat oc))))=some (xb.set q (UInt8.ofNat oc)):=by
     rw [List.take_of_length_le (by rw [u8m_len,sl];exact Nat.le_refl _)];exact u8m_bytes _
    have ue:decide ((xb.set q (UInt8.ofNat oc)).length=xb.length)=true:=decide_eq_true sl;have cq:decide (0<=(q:Int)/\(q:Int)<(xb.length:Int))=true:=decide_eq_true (by omega)
    generalize xb.set q (UInt8.ofNat oc)=bd2 at*;generalize u8m bd2=U2 at*;generalize u8m xb=U at*;simp only [go_sem,tw,r3,lb,nz,tk,wkk,hU,us,ul,ub,ue,cq,s3,rl,wc3,Nat.mul_one,List.drop_zero,AV.bel,belL,nblt,simprocAttr];exact fin_sgm hlen rfl rfl rfl (by decide)
  ·rw [i2 (by decide),show bnH 5 kk oc n ⟨xk,xl,xs,xb,xg⟩=⟨xk,xl,xs,xb,xg++[(n,IntKind.i64.wrap (n+1))]⟩ from rfl]
   have gm:decide (16*(xg.length+1)<=growMax)=true:=decide_eq_true (by simp only [growMax];omega)
   have hgl2:(rows gp xg).length=xg.length*2:=rows_len gp_len;simp only [go_sem,tw,r4,s4,rl,wc4,gm,hgl2,AV.bel,belL,nblt,hgb,simprocAttr];exact fin_sgm (g:=xg++[(n,IntKind.i64.wrap (n+1))]) hlen (by rw [List.length_append];rfl) (by rw [rows_append];rfl) rfl (by decide)
  ·rw [i2 (by decide)]
   have hgp:0<xg.length:=by omega
   have lb:decide ((xg.length:Int)>0)=true:=decide_eq_true (by omega)
   have nz:((xg.length:Int) !=0)=true:=bne_iff_ne.2 (by omega)
   have tk:(kk:Int).tmod (xg.length:Int)=((kk % xg.length:Nat):Int):=by rw [Int.tmod_eq_emod_of_nonneg (by omega)];rfl
   have toc:(oc:Int).tmod 2=((oc % 2:Nat):Int):=by rw [Int.tmod_eq_emod_of_nonneg (by omega)];rfl
   have hj:=Nat.mod_lt kk hgp;have hS6: ∀x,xg[kk % xg.length]? =some x->bnH 6 kk oc n ⟨xk,xl,xs,xb,xg⟩=⟨xk,xl,xs,xb,xg.take (kk % xg.length)++[pkG (oc % 2) n x]++xg.drop (kk % xg.length+1)⟩:=fun x hx=>by
    show (match xg[kk % xg.length]? with|none=>_|some x=>_)=_
    rw [hx]
   obtain ⟨x,hx⟩: ∃x,xg[kk % xg.length]? =some x:=⟨_,List.getElem?_eq_getElem hj⟩;rw [hS6 x hx];clear hS6;generalize kk % xg.length=j at*;have gs:=gp_st0 xg j n x hx;have cq:decide (0<=(j:Int)/\(j:Int)<(xg.length:Int))=true:=decide_eq_true (by omega)
   have hgl2:(rows gp xg).length=xg.length*2:=rows_len gp_len;have wl0:decide (j*2+1<=xg.length*2)=true:=decide_eq_true (by omega)
   have wl1:decide (j*2+1+1<=xg.length*2)=true:=decide_eq_true (by omega)
   have gl: ∀z,xg.length=(xg.take j++[pkG z n x]++xg.drop (j+1)).length:=fun z=>by simp;omega
   subst hX;rcases Nat.mod_two_eq_zero_or_one oc with h0|h0
   ·rw [h0] at toc ⊢;have gs:=gs.1;have gl:=gl 0;generalize xg.take j++[pkG 0 n x]++xg.drop (j+1)=g2 at*;simp only [go_sem,tw,r4,lb,nz,tk,wkk,toc,cq,gs,hgl2,wl0,AV.bel,belL,nblt,simprocAttr];exact fin_sgm hlen gl rfl rfl (by decide)
   ·rw [h0] at toc ⊢;have gs:=gs.2;have gl:=gl 1;generalize xg.take j++[pkG 1 n x]++xg.drop (j+1)=g2 at*;simp only [go_sem,tw,r4,lb,nz,tk,wkk,toc,cq,gs,hgl2,wl1,AV.bel,belL,nblt,simprocAttr];exact fin_sgm hlen gl rfl rfl (by decide)
  ·rw [i2 (by decide),show bnH 7 kk oc n ⟨xk,xl,xs,xb,xg⟩=⟨xk,xl,xs,xb,[]⟩ from rfl]
   simp only [go_sem,tw,s4,rl,wc4,AV.bel,belL,nblt,simprocAttr];exact fin_nsm hlen rfl
  ·rw [if_pos rfl];have e8:hs++[⟨xk,xl,xs,xb,xg⟩]=A++[⟨xk,xl,xs,xb,xg⟩]++B++[⟨xk,xl,xs,xb,xg⟩]:=congrArg (· ++[(⟨xk,xl,xs,xb,xg⟩:Flt.Hf)]) hhs;rw [e8];have gm8:decide (64*(hs.length+1)<=growMax)=true:=decide_eq_true (by simp only [growMax];omega)
   simp only [go_sem,tw,r0,rl,gm8,AV.bel,belL,nblt,hgb,simprocAttr];subst hX;exact fin_sg2m hlen rfl rfl rfl (by decide)
def bnA (wh at_ kk oc:Nat) (n:Int):List AV:=[.i .u8 (wh:Int),.i .u8 (at_:Int),.i .u8 (kk:Int),.i .i64 n,.i .u8 (oc:Int)]
theorem w20 (wh at_ kk oc:Nat) (n:Int) (hkk:kk<256) (hoc:oc<256) (hat:at_<256) (nx:Int) (hs:List Flt.Hf) (hl4:hs.length<=1000) (hgot: ∀x∈hs,x.got.length<=4000) (hbd: ∀x∈hs,x.bd.length<=9223372036854775807):
 FTL Tryz.prog 20 [.agg (bnA wh at_ kk oc n),.agg (Jn.a ⟨nx,hs⟩)] [] 0 (.agg (bnS wh at_ kk oc n ⟨nx,hs⟩).a) [] 0:=by
 have hb:=fun j=>hrB j hs;have hbr:=fun ψ=>hrR ψ hs;simp only [Jn.a,bnA];refine FTL.of_seamC (cx:=cxT []) Tryz.func20 i20_eq (by simp [i20]) ?_
 dsimp only [i20];refine Seam.cut (fun K hK=> ?_);refine Seam.part (F:=F20) Sound.nil mo ?_;dsimp only [F20];simp only [go_sem,AV.bel,belL,nblt,hb,simprocAttr];refine Seam.part (F:=F20) Sound.nil mo ?_;dsimp only [F20];simp only [go_sem,AV.bel,belL,nblt,hb,simprocAttr];have hB0:belL 0 [AV.i .u8 (wh:Int),.i .u8 (at_:Int),.i .u8 (kk:Int),.i .i64 n,.i .u8 (oc:Int)]=true:=rfl;refine Seam.ren (F:=F20) (n2:=4) (e2:=[(2,.p 0 0),(3,.p 1 0),(4,.p 2 0),(5,.p 3 0)]) (h2:=[(3,{cells:=[.i .i64 nx,.ns]}),(2,{cells:=[.i .i64 0,.ns]}),(1,{cells:=[.i .i64 nx,.fz (rows Flt.Hf.l hs) hs.length]}),(0,{cells:=[.i .u8 (wh:Int),.i .u8 (at_:Int),.i .u8 (kk:Int),.i .i64 n,.i .u8 (oc:Int)]})]) [] ?_ (by decide) (by decide) (by simp only [go_sem,AV.bel,belL,nblt,AV.ren,renL,simprocAttr]) (by simp only [go_sem,AV.bel,belL,nblt,AV.ren,renL,Blk.ren,hb,hbr,simprocAttr])
 subst hK;by_cases hw:wh % 9=0\/hs=[]
 ·refine of_loop _ _ nx _ hB0 hs hl4 hgot hs.length ⟨0,0,0,[],[]⟩ (fun x hx=> ?_) (of_nx wh at_ kk oc n nx hs hl4 hw);rw [List.getElem?_eq_none (Nat.le_refl _)] at hx;cases hx
 ·have hw0:wh % 9≠0:=fun h=>hw (.inl h);have hne:hs≠[]:=fun h=>hw (.inr h);have h0:hs.length≠0:=fun h=>hne (List.eq_nil_of_length_eq_zero h);have hlt:=Nat.mod_lt at_ (Nat.pos_of_ne_zero h0);obtain ⟨i0,hi0⟩: ∃i0,i0=at_ % hs.length:=⟨_,rfl⟩;rw [<-hi0] at hlt;obtain ⟨x,hx⟩: ∃x,hs[i0]? =some x:=⟨_,List.getElem?_eq_getElem hlt⟩;have hd:hs=hs.take i0++[x]++hs.drop (i0+1):=by
   rw [<-take_s hx,List.take_append_drop]
  have hA:(hs.take i0).length=i0:=by rw [List.length_take];omega
  refine of_loop _ _ nx _ hB0 hs hl4 hgot i0 x (fun y hy=>by rw [hx] at hy;exact (Option.some.inj hy).symm) ?_
  have e1:lst hs i0 x hs.length=[(5,{cells:=rows Flt.Hf.l (hs.take i0)++liveR x++rows Flt.Hf.l (hs.drop (i0+1)),gr:=some 5})]:=by
   unfold lst;rw [if_neg h0];unfold CC;rw [if_neg (by omega),List.take_length]
  have e2:xtr i0 x hs.length=[(4,lvB x.got)]:=if_neg (by omega)
  have e3:lsV hs.length= .sg 5 0 hs.length:=if_neg h0;rw [e1,e2,e3];have hm:=List.mem_of_getElem? hx;exact of_sw wh at_ kk oc n nx hkk hoc hat hs (hs.take i0) (hs.drop (i0+1)) x.kd x.ln x.sq x.bd x.got hl4 (hgot x hm) (hbd x hm) (wh % 9) rfl hw0 (by rw [hA];exact hi0.symm) h0 hd
def bn5:List AV->Option (Nat×Nat×Nat×Int×Nat)
 |[.i .u8 wh,.i .u8 a,.i .u8 k,.i .i64 n,.i .u8 oc]=>bif decide (0<=wh)&&(decide (0<=a/\a<256)&&(decide (0<=k/\k<256)&&decide (0<=oc/\oc<256))) then some (wh.toNat,a.toNat,k.toNat,n,oc.toNat) else none
 |_=>none
theorem bn5_eq {c:List AV} {wh a k oc:Nat} {n:Int} (h:bn5 c=some (wh,a,k,n,oc)):c=bnA wh a k oc n/\a<256/\k<256/\oc<256:=by
 unfold bn5 at h;split at h
 ·rename_i wh' a' k' n' oc';revert h;cases hc:decide (0<=wh')&&(decide (0<=a'/\a'<256)&&(decide (0<=k'/\k'<256)&&decide (0<=oc'/\oc'<256)))
  ·intro h;cases h
  ·intro h;rw [cond_true] at h;cases h;simp only [Bool.and_eq_true,decide_eq_true_eq] at hc;obtain ⟨h1,h2,h3,h4⟩:=hc;refine ⟨?_,by omega,by omega,by omega⟩
   unfold bnA;rw [Int.toNat_of_nonneg h1,Int.toNat_of_nonneg h2.1,Int.toNat_of_nonneg h3.1,Int.toNat_of_nonneg h4.1]
 ·cases h
theorem bn5_A {wh a k oc:Nat} {n:Int} (h1:a<256) (h2:k<256) (h3:oc<256):bn5 (bnA wh a k oc n)=some (wh,a,k,n,oc):=by
 unfold bn5 bnA;dsimp only;rw [decide_eq_true (by omega:(0:Int)<=(wh:Int)),decide_eq_true (by omega:(0:Int)<=(a:Int)/\(a:Int)<256),decide_eq_true (by omega:(0:Int)<=(k:Int)/\(k:Int)<256),decide_eq_true (by omega:(0:Int)<=(oc:Int)/\(oc:Int)<256)]
 rfl
def k20:Ct
 |[.agg b,.agg c],_,n=>(bn5 b).bind fun q=>(jnN c).bind fun j=>some (decide (j.hs.length<=1000)&&j.hs.all fun x=>decide (x.got.length<=4000)&&decide (x.bd.length<=9223372036854775807),{v:= .agg (bnS q.1 q.2.1 q.2.2.1 q.2.2.2.2 q.2.2.2.1 j).a,n})
 |_,_,_=>none
theorem s20:SoundAt Tryz.prog 20 k20:=fun args h n c E hc ht=>by
 unfold k20 at hc;split at hc
 ·rename_i b c;simp only [Option.bind_eq_some_iff] at hc;obtain ⟨⟨wh,a,k,m,oc⟩,hq,j,hj,he⟩:=hc;cases he;obtain ⟨rfl,h1,h2,h3⟩:=bn5_eq hq;simp only [Bool.and_eq_true,decide_eq_true_eq,List.all_eq_true] at ht;obtain ⟨g1,g2⟩:=jnN_wka hj;exact CallOK.pure (by kernel_rfl) (by simp only [belL,AV.bel,bnA,g2,Bool.and_self]) (by simp only [AV.bel,Jn.bel]) (FTL.wka (xs:=[.agg (bnA wh a k oc m),.agg c]) (ys:=[.agg (bnA wh a k oc m),.agg j.a]) ⟨Wka.refl _,g1,trivial⟩ (w20 wh a k oc m h2 h3 h1 j.nx j.hs ht.1 (fun x hx=>(ht.2 x hx).1) (fun x hx=>(ht.2 x hx).2))) _ _
 ·cases hc
end Go.Proofs.Flz
