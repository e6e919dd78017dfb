/- Texts laid as one: FlzK3 FlzI5 FlzK FlzK4. -/
import Derived.Test.YtlokbfkdgnopeaaGreatDoorX8
import Derived.Test.YtlokbfkdgnopeaaGreatDoorProg
set_option maxRecDepth 100000
set_option maxHeartbeats 4000000
set_option linter.unusedSimpArgs false
set_option linter.unusedVariables false
namespace Go.Proofs.Flz
open Go.Ab Go.Proofs.Flt
theorem e0 (h:Hp) (n:Nat):k10 [.agg [.i .i64 0,.i .i64 0,.s []],.i .i64 0] h n=some (true,{v:= .tup [.fz [] 0,.i .i64 2],n}):=by kernel_rfl
theorem e1 (h:Hp) (n:Nat):k10 [.agg [.i .i64 0,.i .i64 0,.s []],.i .i64 1101] h n=some (true,{v:= .tup [.fz [] 0,.i .i64 2],n}):=by kernel_rfl
theorem e2 (h:Hp) (n:Nat):k12 [.agg [.i .i64 256,.i .i64 0,.s []]] h n=some (true,{v:= .i .i64 190,n}):=by kernel_rfl
theorem e3 (h:Hp) (n:Nat):k12 [.agg [.i .i64 (-1),.i .i64 0,.s []]] h n=some (true,{v:= .i .i64 190,n}):=by kernel_rfl
theorem e4 (h:Hp) (n:Nat):k12 [.agg [.i .i64 0,.i .i64 65536,.s []]] h n=some (true,{v:= .i .i64 190,n}):=by kernel_rfl
theorem e5 (h:Hp) (n:Nat):k12 [.agg [.i .i64 0,.i .i64 (-1),.s []]] h n=some (true,{v:= .i .i64 190,n}):=by kernel_rfl
theorem e6 (h:Hp) (n:Nat):k38 [.s []] h n=some (true,{v:= .i .i64 7,n}):=by kernel_rfl
theorem e7 (h:Hp) (n:Nat):k39 [.i .u8 1,.i .u8 2,.i .u8 0,.i .u8 0,.s [97,98]] h n=some (true,{v:= .s [1,0,0,2,0,0,0,0,0,0,0,2,97,98],n}):=by kernel_rfl
theorem e8 (h:Hp) (n:Nat):k39 [.i .u8 1,.i .u8 2,.i .u8 0,.i .u8 1,.s [97,98]] h n=some (true,{v:= .s [1,0,0,2,0,0,0,0,1,0,0,2,97,98],n}):=by kernel_rfl
theorem e9 (h:Hp) (n:Nat):k39 [.i .u8 1,.i .u8 0,.i .u8 0,.i .u8 1,.s []] h n=some (true,{v:= .s [1,0,0,0,0,0,0,0,1,0,0,0],n}):=by kernel_rfl
theorem e10 (h:Hp) (n:Nat):k39 [.i .u8 1,.i .u8 2,.i .u8 0,.i .u8 2,.s []] h n=some (true,{v:= .s [1,0,0,2,0,0,0,0,2,0,0,0],n}):=by kernel_rfl
theorem e11 (h:Hp) (n:Nat):k38 [.s [1,0,0,2,0,0,0,0,0,0,0,2,97,98,99]] h n=some (true,{v:= .i .i64 5,n}):=by kernel_rfl
theorem e12 (h:Hp) (n:Nat):k38 [.s [1,0,0,2,0,0,0,0,0,0,0,2,97]] h n=some (true,{v:= .i .i64 7,n}):=by kernel_rfl
theorem e13 (h:Hp) (n:Nat):k38 [.s [1,0,0,2,0,0,0,0,1,0,0,2,97,98]] h n=some (true,{v:= .i .i64 5,n}):=by kernel_rfl
theorem e14 (h:Hp) (n:Nat):k38 [.s [1,0,0,0,0,0,0,0,1,0,0,0]] h n=some (true,{v:= .i .i64 5,n}):=by kernel_rfl
theorem e15 (h:Hp) (n:Nat):k38 [.s [1,0,0,2,0,0,0,0,2,0,0,0]] h n=some (true,{v:= .i .i64 5,n}):=by kernel_rfl
theorem e16 (h:Hp) (n:Nat):k38 [.s [1,0,15,161,0,0,0,0,0,0,0,1,120]] h n=some (true,{v:= .i .i64 5,n}):=by kernel_rfl
theorem e17 (h:Hp) (n:Nat):k39 [.i .u8 1,.i .u8 4,.i .u8 4,.i .u8 1,.s [98,99,100]] h n=some (true,{v:= .s [1,0,0,4,0,4,0,0,1,0,0,3,98,99,100],n}):=by kernel_rfl
theorem e18 (h:Hp) (n:Nat):k39 [.i .u8 1,.i .u8 4,.i .u8 4,.i .u8 1,.s [98,88]] h n=some (true,{v:= .s [1,0,0,4,0,4,0,0,1,0,0,2,98,88],n}):=by kernel_rfl
theorem e19 (h:Hp) (n:Nat):k39 [.i .u8 2,.i .u8 4,.i .u8 4,.i .u8 1,.s [98]] h n=some (true,{v:= .s [2,0,0,4,0,4,0,0,1,0,0,1,98],n}):=by kernel_rfl
theorem e20 (h:Hp) (n:Nat):k39 [.i .u8 1,.i .u8 5,.i .u8 4,.i .u8 1,.s [98]] h n=some (true,{v:= .s [1,0,0,5,0,4,0,0,1,0,0,1,98],n}):=by kernel_rfl
theorem e21 (h:Hp) (n:Nat):k39 [.i .u8 1,.i .u8 4,.i .u8 4,.i .u8 1,.s [88]] h n=some (true,{v:= .s [1,0,0,4,0,4,0,0,1,0,0,1,88],n}):=by kernel_rfl
theorem e22 (h:Hp) (n:Nat):k39 [.i .u8 9,.i .u8 9,.i .u8 2,.i .u8 0,.s [120]] h n=some (true,{v:= .s [9,0,0,9,0,2,0,0,0,0,0,1,120],n}):=by kernel_rfl
theorem e23 (h:Hp) (n:Nat):k39 [.i .u8 1,.i .u8 1,.i .u8 6,.i .u8 0,.s [120]] h n=some (true,{v:= .s [1,0,0,1,0,6,0,0,0,0,0,1,120],n}):=by kernel_rfl
theorem e24 (h:Hp) (n:Nat):k39 [.i .u8 1,.i .u8 1,.i .u8 7,.i .u8 0,.s [120]] h n=some (true,{v:= .s [1,0,0,1,0,7,0,0,0,0,0,1,120],n}):=by kernel_rfl
theorem e25 (h:Hp) (n:Nat):k23n [.agg [.i .i64 3,.fz [.i .i64 1,.i .i64 4,.i .i64 4,.s [97,0,99,0],.fz [.i .i64 0,.i .i64 1,.i .i64 2,.i .i64 3] 2] 1],.s [1,0,0,4,0,4,0,0,1,0,0,3,98,99,100]] h n=some (true,{v:= .tup [.agg [.i .i64 3,.fz [.i .i64 1,.i .i64 4,.i .i64 4,.s [97,98,99,100],.fz [.i .i64 0,.i .i64 4] 1] 1],.fz [] 0,.i .i64 0],n}):=by kernel_rfl
theorem e26 (h:Hp) (n:Nat):k40 [.agg [.i .i64 3,.fz [.i .i64 1,.i .i64 4,.i .i64 4,.s [97,0,99,0],.fz [.i .i64 0,.i .i64 1,.i .i64 2,.i .i64 3] 2] 1],.s [1,0,0,4,0,4,0,0,1,0,0,2,98,88]] h n=some (true,{v:= .i .i64 5,n}):=by kernel_rfl
theorem e27 (h:Hp) (n:Nat):k40 [.agg [.i .i64 3,.fz [.i .i64 1,.i .i64 4,.i .i64 4,.s [97,0,99,0],.fz [.i .i64 0,.i .i64 1,.i .i64 2,.i .i64 3] 2] 1],.s [2,0,0,4,0,4,0,0,1,0,0,1,98]] h n=some (true,{v:= .i .i64 5,n}):=by kernel_rfl
theorem e28 (h:Hp) (n:Nat):k40 [.agg [.i .i64 3,.fz [.i .i64 1,.i .i64 4,.i .i64 4,.s [97,0,99,0],.fz [.i .i64 0,.i .i64 1,.i .i64 2,.i .i64 3] 2] 1],.s [1,0,0,5,0,4,0,0,1,0,0,1,98]] h n=some (true,{v:= .i .i64 5,n}):=by kernel_rfl
theorem e29 (h:Hp) (n:Nat):k40 [.agg [.i .i64 3,.fz [.i .i64 1,.i .i64 4,.i .i64 4,.s [97,0,99,0],.fz [.i .i64 0,.i .i64 1,.i .i64 2,.i .i64 3] 2] 1],.s [1,0,0,4,0,4,0,0,1,0,0,1,88]] h n=some (true,{v:= .i .i64 0,n}):=by kernel_rfl
theorem e30 (h:Hp) (n:Nat):k40 [.agg [.i .i64 3,.fz [.i .i64 1,.i .i64 4,.i .i64 4,.s [97,0,99,0],.fz [.i .i64 0,.i .i64 1,.i .i64 2,.i .i64 3] 2] 1],.s [9,0,0,9,0,2,0,0,0,0,0,1,120]] h n=some (true,{v:= .i .i64 0,n}):=by kernel_rfl
theorem e31 (h:Hp) (n:Nat):k40 [.agg [.i .i64 3,.fz [.i .i64 1,.i .i64 4,.i .i64 4,.s [97,0,99,0],.fz [.i .i64 0,.i .i64 1,.i .i64 2,.i .i64 3] 2] 1],.s [1,0,0,1,0,6,0,0,0,0,0,1,120]] h n=some (true,{v:= .i .i64 0,n}):=by kernel_rfl
theorem e32 (h:Hp) (n:Nat):k40 [.agg [.i .i64 3,.fz [.i .i64 1,.i .i64 4,.i .i64 4,.s [97,0,99,0],.fz [.i .i64 0,.i .i64 1,.i .i64 2,.i .i64 3] 2] 1],.s [1,0,0,1,0,7,0,0,0,0,0,1,120]] h n=some (true,{v:= .i .i64 3,n}):=by kernel_rfl
theorem e33 (h:Hp) (n:Nat):k40 [.agg [.i .i64 3,.fz [.i .i64 1,.i .i64 4,.i .i64 4,.s [97,0,99,0],.fz [.i .i64 0,.i .i64 1,.i .i64 2,.i .i64 3] 2] 1],.s []] h n=some (true,{v:= .i .i64 7,n}):=by kernel_rfl
theorem e34 (h:Hp) (n:Nat):k40 [.agg [.i .i64 (-1),.ns],.s []] h n=some (true,{v:= .i .i64 191,n}):=by kernel_rfl
theorem e35 (h:Hp) (n:Nat):k23n [.agg [.i .i64 65535,.ns],.s [7,0,0,0,255,255,0,0,0,0,0,0]] h n=some (true,{v:= .tup [.agg [.i .i64 65536,.fz [] 0],.fz [.i .i64 7,.i .i64 65535,.s []] 1,.i .i64 0],n}):=by kernel_rfl
theorem e36 (h:Hp) (n:Nat):k39 [.i .u8 1,.i .u8 1,.i .u8 0,.i .u8 0,.s [120]] h n=some (true,{v:= .s [1,0,0,1,0,0,0,0,0,0,0,1,120],n}):=by kernel_rfl
theorem e37 (h:Hp) (n:Nat):k23n [.agg [.i .i64 65536,.fz [] 0],.s [1,0,0,1,0,0,0,0,0,0,0,1,120]] h n=some (true,{v:= .tup [.agg [.i .i64 65536,.fz [] 0],.fz [] 0,.i .i64 0],n}):=by kernel_rfl
theorem e38 (h:Hp) (n:Nat):k43 [.i .i64 (-1),.i .i64 0,.i .i64 0] h n=some (true,{v:= .b true,n}):=by kernel_rfl
theorem e39 (h:Hp) (n:Nat):k43 [.i .i64 (-1),.i .i64 400,.i .i64 1] h n=some (true,{v:= .b false,n}):=by kernel_rfl
theorem e40 (h:Hp) (n:Nat):k43 [.i .i64 0,.i .i64 0,.i .i64 0] h n=some (true,{v:= .b false,n}):=by kernel_rfl
theorem e41 (h:Hp) (n:Nat):k43 [.i .i64 0,.i .i64 400,.i .i64 1] h n=some (true,{v:= .b true,n}):=by kernel_rfl
theorem e42 (h:Hp) (n:Nat):k43 [.i .i64 0,.i .i64 400,.i .i64 2] h n=some (true,{v:= .b false,n}):=by kernel_rfl
theorem e43 (h:Hp) (n:Nat):k43 [.i .i64 0,.i .i64 6400,.i .i64 5] h n=some (true,{v:= .b true,n}):=by kernel_rfl
theorem e44 (h:Hp) (n:Nat):k43 [.i .i64 0,.i .i64 6400,.i .i64 8] h n=some (true,{v:= .b true,n}):=by kernel_rfl
theorem e45 (h:Hp) (n:Nat):k43 [.i .i64 0,.i .i64 6400,.i .i64 9] h n=some (true,{v:= .b false,n}):=by kernel_rfl
theorem e46 (h:Hp) (n:Nat):k43 [.i .i64 (-2),.i .i64 400,.i .i64 1] h n=some (true,{v:= .b false,n}):=by kernel_rfl
theorem e47 (h:Hp) (n:Nat):k29 [.i .i64 (-1)] h n=some (true,{v:= .tup [.agg [.i .i64 0,.i .i64 0,.i .i64 0],.i .i64 2],n}):=by kernel_rfl
theorem e48 (h:Hp) (n:Nat):k29 [.i .i64 1099511627776] h n=some (true,{v:= .tup [.agg [.i .i64 1099511628176,.i .i64 400,.i .i64 1],.i .i64 0],n}):=by kernel_rfl
theorem e49 (h:Hp) (n:Nat):k33 [.agg [.i .i64 1099511628176,.i .i64 400,.i .i64 1],.i .i64 1099511627776] h n=some (true,{v:= .tup [.b false,.i .i64 0],n}):=by kernel_rfl
theorem e50 (h:Hp) (n:Nat):k33 [.agg [.i .i64 1099511628176,.i .i64 400,.i .i64 1],.i .i64 1099511627777] h n=some (true,{v:= .tup [.b false,.i .i64 2],n}):=by kernel_rfl
theorem e51 (h:Hp) (n:Nat):k35 [.agg [.i .i64 (-1),.i .i64 0,.i .i64 0],.i .i64 5] h n=some (true,{v:= .tup [.agg [.i .i64 0,.i .i64 0,.i .i64 0],.i .i64 8],n}):=by kernel_rfl
theorem e52 (h:Hp) (n:Nat):k35 [.agg [.i .i64 0,.i .i64 0,.i .i64 0],.i .i64 (-1)] h n=some (true,{v:= .tup [.agg [.i .i64 0,.i .i64 0,.i .i64 0],.i .i64 192],n}):=by kernel_rfl
def X4:List UInt8:=List.replicate 4000 120
def X7:List UInt8:=List.replicate 700 120
def Y12:List UInt8:=List.replicate 1200 255
def Z12:List UInt8:=List.replicate 1201 0
def P0:List UInt8:=[255,0,15,160,255,255,0,0,0,0,4,76]++List.replicate 1100 120
def P1:List UInt8:=[255,0,15,160,255,255,0,4,76,0,4,76]++List.replicate 1100 120
def P2:List UInt8:=[255,0,15,160,255,255,0,8,152,0,4,76]++List.replicate 1100 120
def P3:List UInt8:=[255,0,15,160,255,255,0,12,228,0,2,188]++List.replicate 700 120
def XT:List UInt8:=List.replicate 1101 120
theorem fb0 (h:Hp) (n:Nat):k36 [.s [120],.i .i64 4000] h n=some (true,{v:= .s X4,n}):=by kernel_rfl
theorem fb1 (h:Hp) (n:Nat):k10 [.agg [.i .i64 255,.i .i64 65535,.s X4],.i .i64 1100] h n=some (true,{v:= .tup [.fz [.s P0,.s P1,.s P2,.s P3] 4,.i .i64 0],n}):=by kernel_rfl
theorem fb2 (h:Hp) (n:Nat):k10 [.agg [.i .i64 0,.i .i64 0,.s (X4++[120])],.i .i64 0] h n=some (true,{v:= .tup [.fz [] 0,.i .i64 190],n}):=by kernel_rfl
theorem fb3 (h:Hp) (n:Nat):k37 [.fz [.s P0,.s P1,.s P2,.s P3] 4] h n=some (true,{v:= .s P3,n}):=rfl
theorem fb4 (h:Hp) (n:Nat):k15 [.s P3] h n=some (true,{v:= .tup [.agg [.i .i64 255,.i .i64 4000,.i .i64 65535,.i .i64 3300,.s X7],.i .i64 0],n}):=by kernel_rfl
theorem fb5 (h:Hp) (n:Nat):k12 [.agg [.i .i64 255,.i .i64 65535,.s X4]] h n=some (true,{v:= .i .i64 0,n}):=by kernel_rfl
theorem fb6:X4.length=4000:=by kernel_rfl
theorem fb7:X7.length=700:=by kernel_rfl
theorem fb8 (h:Hp) (n:Nat):k38 [.s (1::0::15::160::0::0::0::0::0::0::4::77::XT)] h n=some (true,{v:= .i .i64 5,n}):=by kernel_rfl
theorem fb9 (h:Hp) (n:Nat):k36 [.s [255],.i .i64 1200] h n=some (true,{v:= .s Y12,n}):=by kernel_rfl
theorem fb10 (h:Hp) (n:Nat):k38 [.s Y12] h n=some (true,{v:= .i .i64 7,n}):=by kernel_rfl
theorem fb11 (h:Hp) (n:Nat):k36 [.s [0],.i .i64 1201] h n=some (true,{v:= .s Z12,n}):=by kernel_rfl
theorem fb12 (h:Hp) (n:Nat):k38 [.s Z12] h n=some (true,{v:= .i .i64 3,n}):=by kernel_rfl
theorem fb13:List.take 1101 X4=XT:=by kernel_rfl
theorem fb14:XT.length=1101:=by kernel_rfl
theorem d0 (h:Hp) (n c0 c1:Nat) (g0:hget h c0=some {cells:=[.i .i64 1,.i .i64 4,.i .i64 4,.s [97,98,99,100],.sl c1 0 1 1]}) (g1:hget h c1=some {cells:=[.i .i64 0,.i .i64 4]}):nvCt k25 [.agg [.i .i64 3,.fz [.i .i64 1,.i .i64 4,.i .i64 4,.s [97,98,99,100],.fz [.i .i64 0,.i .i64 4] 1] 1],.agg [.i .i64 3,.sl c0 0 1 1]] h n=some (true,{v:= .b true,n,rd:=[c0,c1]}):=by
 simp [nvCt,nvs,nv,cellsAt,AV.bel,belL,g0,g1]
 kernel_rfl
theorem d1 (h:Hp) (n  :Nat)  :nvCt k21 [.agg [.i .i64 3,.fz [.i .i64 1,.i .i64 4,.i .i64 4,.s [97,0,99,0],.fz [.i .i64 0,.i .i64 1,.i .i64 2,.i .i64 3] 2] 1]] h n=some (true,{v:= .i .i64 0,n,rd:=[]}):=by
 simp [nvCt,nvs,nv,cellsAt,AV.bel,belL]
 kernel_rfl
theorem d2 (h:Hp) (n  :Nat)  :nvCt k21 [.agg [.i .i64 65536,.ns]] h n=some (true,{v:= .i .i64 0,n,rd:=[]}):=by
 simp [nvCt,nvs,nv,cellsAt,AV.bel,belL]
 kernel_rfl
theorem d3 (h:Hp) (n  :Nat)  :nvCt k41 [.agg [.i .i64 65537,.ns]] h n=some (true,{v:= .b true,n,rd:=[]}):=by
 simp [nvCt,nvs,nv,cellsAt,AV.bel,belL]
 kernel_rfl
theorem d4 (h:Hp) (n c0:Nat) (g0:hget h c0=some {cells:=[.i .i64 0,.i .i64 0,.i .i64 0,.s [],.ns]}):nvCt k41 [.agg [.i .i64 0,.sl c0 0 1 1]] h n=some (true,{v:= .b true,n,rd:=[c0]}):=by
 simp [nvCt,nvs,nv,cellsAt,AV.bel,belL,g0]
 kernel_rfl
theorem d5 (h:Hp) (n c0:Nat) (g0:hget h c0=some {cells:=[.i .i64 0,.i .i64 0,.i .i64 1,.s [],.ns]}):nvCt k21 [.agg [.i .i64 0,.sl c0 0 1 1]] h n=some (true,{v:= .i .i64 0,n,rd:=[c0]}):=by
 simp [nvCt,nvs,nv,cellsAt,AV.bel,belL,g0]
 kernel_rfl
theorem d6 (h:Hp) (n c0:Nat) (g0:hget h c0=some {cells:=[.i .i64 0,.i .i64 0,.i .i64 4,.s [],.ns]}):nvCt k41 [.agg [.i .i64 0,.sl c0 0 1 1]] h n=some (true,{v:= .b true,n,rd:=[c0]}):=by
 simp [nvCt,nvs,nv,cellsAt,AV.bel,belL,g0]
 kernel_rfl
theorem d7 (h:Hp) (n c0:Nat) (g0:hget h c0=some {cells:=[.i .i64 0,.i .i64 1,.i .i64 1,.s [120],.ns]}):nvCt k41 [.agg [.i .i64 0,.sl c0 0 1 1]] h n=some (true,{v:= .b true,n,rd:=[c0]}):=by
 simp [nvCt,nvs,nv,cellsAt,AV.bel,belL,g0]
 kernel_rfl
theorem d8 (h:Hp) (n c0 c1:Nat) (g0:hget h c0=some {cells:=[.i .i64 0,.i .i64 2,.i .i64 1,.s [120,121],.sl c1 0 1 1]}) (g1:hget h c1=some {cells:=[.i .i64 0,.i .i64 1]}):nvCt k41 [.agg [.i .i64 0,.sl c0 0 1 1]] h n=some (true,{v:= .b true,n,rd:=[c0,c1]}):=by
 simp [nvCt,nvs,nv,cellsAt,AV.bel,belL,g0,g1]
 kernel_rfl
theorem d9 (h:Hp) (n c0 c1:Nat) (g0:hget h c0=some {cells:=[.i .i64 0,.i .i64 2,.i .i64 1,.s [120,121],.sl c1 0 2 2]}) (g1:hget h c1=some {cells:=[.i .i64 0,.i .i64 1,.i .i64 1,.i .i64 2]}):nvCt k41 [.agg [.i .i64 0,.sl c0 0 1 1]] h n=some (true,{v:= .b true,n,rd:=[c0,c1]}):=by
 simp [nvCt,nvs,nv,cellsAt,AV.bel,belL,g0,g1]
 kernel_rfl
theorem d10 (h:Hp) (n c0 c1:Nat) (g0:hget h c0=some {cells:=[.i .i64 0,.i .i64 2,.i .i64 1,.s [120,121],.sl c1 0 1 1]}) (g1:hget h c1=some {cells:=[.i .i64 0,.i .i64 3]}):nvCt k41 [.agg [.i .i64 0,.sl c0 0 1 1]] h n=some (true,{v:= .b true,n,rd:=[c0,c1]}):=by
 simp [nvCt,nvs,nv,cellsAt,AV.bel,belL,g0,g1]
 kernel_rfl
theorem d11 (h:Hp) (n c0 c1:Nat) (g0:hget h c0=some {cells:=[.i .i64 0,.i .i64 2,.i .i64 1,.s [120],.sl c1 0 1 1]}) (g1:hget h c1=some {cells:=[.i .i64 0,.i .i64 1]}):nvCt k41 [.agg [.i .i64 0,.sl c0 0 1 1]] h n=some (true,{v:= .b true,n,rd:=[c0,c1]}):=by
 simp [nvCt,nvs,nv,cellsAt,AV.bel,belL,g0,g1]
 kernel_rfl
theorem d12 (h:Hp) (n c0 c1:Nat) (g0:hget h c0=some {cells:=[.i .i64 0,.i .i64 1,.i .i64 0,.s [120],.sl c1 0 1 1]}) (g1:hget h c1=some {cells:=[.i .i64 0,.i .i64 1]}):nvCt k41 [.agg [.i .i64 0,.sl c0 0 1 1]] h n=some (true,{v:= .b true,n,rd:=[c0,c1]}):=by
 simp [nvCt,nvs,nv,cellsAt,AV.bel,belL,g0,g1]
 kernel_rfl
theorem d13 (h:Hp) (n c0:Nat) (g0:hget h c0=some {cells:=[.i .i64 0,.i .i64 0,.i .i64 2,.s [],.ns,.i .i64 0,.i .i64 0,.i .i64 1,.s [],.ns]}):nvCt k41 [.agg [.i .i64 0,.sl c0 0 2 2]] h n=some (true,{v:= .b true,n,rd:=[c0]}):=by
 simp [nvCt,nvs,nv,cellsAt,AV.bel,belL,g0]
 kernel_rfl
theorem d14 (h:Hp) (n c0:Nat) (g0:hget h c0=some {cells:=[.i .i64 0,.i .i64 0,.i .i64 65536,.s [],.ns]}):nvCt k41 [.agg [.i .i64 65534,.sl c0 0 1 1]] h n=some (true,{v:= .b true,n,rd:=[c0]}):=by
 simp [nvCt,nvs,nv,cellsAt,AV.bel,belL,g0]
 kernel_rfl
end Go.Proofs.Flz
namespace Go.Proofs.Flz
open Go.Ab
abbrev i17r0:List IOper:=[oo 0 (.mv (.c (.b false)))]
abbrev i17r1:List IOper:=[oo 36 (.build [.i .i64 0,.i .i64 0,.s []] [(0,1,.c (.i .i64 1)),(1,1,.c (.i .i64 2)),(2,1,.c (.s [97,98,99,100,101]))]),oo 1 (.new [.i .i64 0,.i .i64 0,.s []]),on_ (.st 3 (.t 1) (.t 36))]
abbrev i17r2:List IOper:=[oo 38 (.ld true 3 (.t 1)),oo 39 (.call (.c (.fn 10 [])) [.t 38,.c (.i .i64 2)]),oo 37 (.mv (.t 39)),oo 40 (.ext (.t 37) 0),oo 41 (.ext (.t 37) 1),oo 2 (.mv (.t 40)),oo 3 (.mv (.t 41))]
abbrev i17r3:List IOper:=[oo 43 (.build [.i .i64 0,.i .i64 0,.s []] [(0,1,.c (.i .i64 1)),(1,1,.c (.i .i64 2))]),oo 44 (.call (.c (.fn 10 [])) [.t 43,.c (.i .i64 9)]),oo 42 (.mv (.t 44)),oo 45 (.ext (.t 42) 0),oo 46 (.ext (.t 42) 1),oo 4 (.mv (.t 45)),oo 5 (.mv (.t 46))]
abbrev i17r4:List IOper:=[oo 47 (.mv (.t 3)),oo 48 (.bin .eql (.t 47) (.c (.i .i64 0))),ot 49 (.mv (.t 48)),og 50 (.mv (.t 2)) 49 true false,og 51 (.call (.c (.fn 39 [])) [.c (.i .u8 1),.c (.i .u8 5),.c (.i .u8 2),.c (.i .u8 0),.c (.s [97,98])]) 49 true false,og 52 (.call (.c (.fn 39 [])) [.c (.i .u8 1),.c (.i .u8 5),.c (.i .u8 2),.c (.i .u8 2),.c (.s [99,100])]) 49 true false,og 53 (.call (.c (.fn 39 [])) [.c (.i .u8 1),.c (.i .u8 5),.c (.i .u8 2),.c (.i .u8 4),.c (.s [101])]) 49 true false,og 54 (.bsl [.s [],.s [],.s []] 3 [(0,1,.t 51),(1,1,.t 52),(2,1,.t 53)]) 49 true false,og 55 (.call (.c (.fn 14 [])) [.t 50,.t 54]) 49 true false,oo 56 (.pick (.t 49) (.t 55) (.c (.b false))),ot 57 (.mv (.t 56)),og 58 (.mv (.t 5)) 57 true false,og 59 (.bin .eql (.t 58) (.c (.i .i64 0))) 57 true false,oo 60 (.pick (.t 57) (.t 59) (.c (.b false))),ot 61 (.mv (.t 60)),og 62 (.mv (.t 4)) 61 true false,og 63 (.call (.c (.fn 39 [])) [.c (.i .u8 1),.c (.i .u8 0),.c (.i .u8 2),.c (.i .u8 0),.c (.s [])]) 61 true false,og 64 (.bsl [.s []] 1 [(0,1,.t 63)]) 61 true false,og 65 (.call (.c (.fn 14 [])) [.t 62,.t 64]) 61 true false,oo 66 (.pick (.t 61) (.t 65) (.c (.b false))),oo 6 (.mv (.t 66))]
abbrev i17r5:List IOper:=[oo 68 (.build [.i .i64 0,.ns] []),oo 69 (.call (.c (.fn 39 [])) [.c (.i .u8 1),.c (.i .u8 2),.c (.i .u8 0),.c (.i .u8 1),.c (.s [98])]),oo 70 (.call (.c (.fn 23 [])) [.t 68,.t 69]),oo 67 (.mv (.t 70)),oo 71 (.ext (.t 67) 0),oo 72 (.ext (.t 67) 1),oo 73 (.ext (.t 67) 2),oo 7 (.new [.i .i64 0,.ns]),on_ (.st 2 (.t 7) (.t 71)),oo 8 (.mv (.t 72)),oo 9 (.mv (.t 73))]
abbrev i17r6:List (IOper×List Nat):=[(oo 75 (.ld true 2 (.t 7)),[]),(oo 76 (.call (.c (.fn 39 [])) [.c (.i .u8 2),.c (.i .u8 1),.c (.i .u8 1),.c (.i .u8 0),.c (.s [99])]),[0]),(oo 77 (.call (.c (.fn 23 [])) [.t 75,.t 76]),[]),(oo 74 (.mv (.t 77)),[]),(oo 78 (.ext (.t 74) 0),[]),(oo 79 (.ext (.t 74) 1),[4]),(oo 80 (.ext (.t 74) 2),[4,5]),(oo 10 (.new [.i .i64 0,.ns]),[0,1,2,3,4,5,6]),(on_ (.st 2 (.t 10) (.t 78)),[5,6]),(oo 11 (.mv (.t 79)),[6]),(oo 12 (.mv (.t 80)),[])]
abbrev i17r7:List (IOper×List Nat):=[(oo 82 (.ld true 2 (.t 10)),[]),(oo 83 (.call (.c (.fn 39 [])) [.c (.i .u8 1),.c (.i .u8 2),.c (.i .u8 0),.c (.i .u8 0),.c (.s [97])]),[0]),(oo 84 (.call (.c (.fn 23 [])) [.t 82,.t 83]),[]),(oo 81 (.mv (.t 84)),[]),(oo 85 (.ext (.t 81) 0),[]),(oo 86 (.ext (.t 81) 1),[4]),(oo 87 (.ext (.t 81) 2),[4,5]),(oo 13 (.new [.i .i64 0,.ns]),[0,1,2,3,4,5,6]),(on_ (.st 2 (.t 13) (.t 85)),[5,6]),(oo 14 (.mv (.t 86)),[6]),(oo 15 (.mv (.t 87)),[])]
abbrev i17r8:List IOper:=[oo 89 (.build [.i .i64 0,.ns] []),oo 90 (.call (.c (.fn 39 [])) [.c (.i .u8 1),.c (.i .u8 1),.c (.i .u8 4),.c (.i .u8 0),.c (.s [120])]),oo 91 (.call (.c (.fn 23 [])) [.t 89,.t 90]),oo 88 (.mv (.t 91)),oo 92 (.ext (.t 88) 0),oo 93 (.ext (.t 88) 1),oo 94 (.ext (.t 88) 2),oo 16 (.new [.i .i64 0,.ns]),on_ (.st 2 (.t 16) (.t 92)),oo 17 (.mv (.t 93)),oo 18 (.mv (.t 94))]
abbrev i17r9:List (IOper×List Nat):=[(oo 96 (.ld true 2 (.t 7)),[]),(oo 97 (.call (.c (.fn 39 [])) [.c (.i .u8 1),.c (.i .u8 3),.c (.i .u8 0),.c (.i .u8 0),.c (.s [97])]),[0]),(oo 98 (.call (.c (.fn 23 [])) [.t 96,.t 97]),[]),(oo 95 (.mv (.t 98)),[]),(oo 99 (.ext (.t 95) 0),[]),(oo 100 (.ext (.t 95) 1),[4]),(oo 101 (.ext (.t 95) 2),[4,5]),(oo 19 (.new [.i .i64 0,.ns]),[0,1,2,3,4,5,6]),(on_ (.st 2 (.t 19) (.t 99)),[5,6]),(oo 20 (.mv (.t 100)),[6]),(oo 21 (.mv (.t 101)),[])]
abbrev i17r10:List IOper:=[oo 102 (.mv (.t 9)),oo 103 (.bin .eql (.t 102) (.c (.i .i64 0))),ot 104 (.mv (.t 103)),og 105 (.mv (.t 8)) 104 true false,og 106 (.lenV (.t 105)) 104 true false,og 107 (.bin .eql (.t 106) (.c (.i .i64 0))) 104 true false,oo 108 (.pick (.t 104) (.t 107) (.c (.b false))),ot 109 (.mv (.t 108)),og 110 (.mv (.t 12)) 109 true false,og 111 (.bin .eql (.t 110) (.c (.i .i64 0))) 109 true false,oo 112 (.pick (.t 109) (.t 111) (.c (.b false))),ot 113 (.mv (.t 112)),og 114 (.mv (.t 11)) 113 true false,og 115 (.lenV (.t 114)) 113 true false,og 116 (.bin .eql (.t 115) (.c (.i .i64 0))) 113 true false,oo 117 (.pick (.t 113) (.t 116) (.c (.b false))),ot 118 (.mv (.t 117)),og 119 (.mv (.t 15)) 118 true false,og 120 (.bin .eql (.t 119) (.c (.i .i64 0))) 118 true false,oo 121 (.pick (.t 118) (.t 120) (.c (.b false))),ot 122 (.mv (.t 121)),og 123 (.mv (.t 14)) 122 true false,og 124 (.build [.i .i64 0,.i .i64 0,.s []] [(0,1,.c (.i .i64 1)),(2,1,.c (.s [97,98]))]) 122 true false,og 125 (.build [.i .i64 0,.i .i64 0,.s []] [(0,1,.c (.i .i64 2)),(1,1,.c (.i .i64 1)),(2,1,.c (.s [99]))]) 122 true false,og 126 (.bsl [.i .i64 0,.i .i64 0,.s [],.i .i64 0,.i .i64 0,.s []] 2 [(0,3,.t 124),(3,3,.t 125)]) 122 true false,og 127 (.call (.c (.fn 26 [])) [.t 123,.t 126]) 122 true false,oo 128 (.pick (.t 122) (.t 127) (.c (.b false))),ot 129 (.mv (.t 128)),og 130 (.ld true 2 (.t 13)) 129 true false,og 131 (.build [.i .i64 0,.ns] [(0,1,.c (.i .i64 2))]) 129 true false,og 132 (.call (.c (.fn 25 [])) [.t 130,.t 131]) 129 true false,oo 133 (.pick (.t 129) (.t 132) (.c (.b false))),ot 134 (.mv (.t 133)),og 135 (.mv (.t 18)) 134 true false,og 136 (.bin .eql (.t 135) (.c (.i .i64 3))) 134 true false,oo 137 (.pick (.t 134) (.t 136) (.c (.b false))),ot 138 (.mv (.t 137)),og 139 (.mv (.t 21)) 138 true false,og 140 (.bin .eql (.t 139) (.c (.i .i64 5))) 138 true false,oo 141 (.pick (.t 138) (.t 140) (.c (.b false))),oo 22 (.mv (.t 141))]
abbrev i17r11:List IOper:=[oo 143 (.call (.c (.fn 39 [])) [.c (.i .u8 1),.c (.i .u8 0),.c (.i .u8 0),.c (.i .u8 0),.c (.s [])]),oo 144 (.slS (.t 143) none (some (.c (.i .i64 11)))),oo 145 (.call (.c (.fn 15 [])) [.t 144]),oo 142 (.mv (.t 145)),oo 146 (.ext (.t 142) 0),oo 147 (.ext (.t 142) 1),oo 23 (.new [.i .i64 0,.i .i64 0,.i .i64 0,.i .i64 0,.s []]),on_ (.st 5 (.t 23) (.t 146)),oo 24 (.mv (.t 147))]
abbrev i17r12:List IOper:=[oo 149 (.call (.c (.fn 39 [])) [.c (.i .u8 1),.c (.i .u8 1),.c (.i .u8 0),.c (.i .u8 0),.c (.s [])]),oo 150 (.call (.c (.fn 15 [])) [.t 149]),oo 148 (.mv (.t 150)),oo 151 (.ext (.t 148) 0),oo 152 (.ext (.t 148) 1),oo 25 (.new [.i .i64 0,.i .i64 0,.i .i64 0,.i .i64 0,.s []]),on_ (.st 5 (.t 25) (.t 151)),oo 26 (.mv (.t 152))]
abbrev i17r13:List IOper:=[oo 154 (.call (.c (.fn 29 [])) [.c (.i .i64 1000)]),oo 153 (.mv (.t 154)),oo 155 (.ext (.t 153) 0),oo 156 (.ext (.t 153) 1),oo 27 (.new [.i .i64 0,.i .i64 0,.i .i64 0]),on_ (.st 3 (.t 27) (.t 155)),oo 28 (.mv (.t 156))]
abbrev i17r14:List IOper:=[oo 158 (.ld true 3 (.t 27)),oo 159 (.call (.c (.fn 33 [])) [.t 158,.c (.i .i64 1399)]),oo 157 (.mv (.t 159)),oo 160 (.ext (.t 157) 0),oo 161 (.ext (.t 157) 1),oo 29 (.mv (.t 160)),oo 30 (.mv (.t 161))]
abbrev i17r15:List IOper:=[oo 163 (.ld true 3 (.t 27)),oo 164 (.call (.c (.fn 35 [])) [.t 163,.c (.i .i64 1500)]),oo 162 (.mv (.t 164)),oo 165 (.ext (.t 162) 0),oo 166 (.ext (.t 162) 1),oo 31 (.new [.i .i64 0,.i .i64 0,.i .i64 0]),on_ (.st 3 (.t 31) (.t 165)),oo 32 (.mv (.t 166))]
abbrev i17r16:List IOper:=[oo 168 (.build [.i .i64 0,.i .i64 0,.i .i64 0] [(0,1,.c (.i .i64 9)),(1,1,.c (.i .i64 6400)),(2,1,.c (.i .i64 8))]),oo 169 (.call (.c (.fn 35 [])) [.t 168,.c (.i .i64 9)]),oo 167 (.mv (.t 169)),oo 170 (.ext (.t 167) 0),oo 171 (.ext (.t 167) 1),oo 33 (.new [.i .i64 0,.i .i64 0,.i .i64 0]),on_ (.st 3 (.t 33) (.t 170)),oo 34 (.mv (.t 171))]
abbrev i17r17:List IOper:=[oo 172 (.mv (.t 28)),oo 173 (.bin .eql (.t 172) (.c (.i .i64 0))),ot 174 (.mv (.t 173)),og 175 (.ld true 3 (.t 27)) 174 true false,og 176 (.build [.i .i64 0,.i .i64 0,.i .i64 0] [(0,1,.c (.i .i64 1400)),(1,1,.c (.i .i64 400)),(2,1,.c (.i .i64 1))]) 174 true false,og 177 (.eqk false true [.i,.i,.i] (.t 175) (.t 176)) 174 true false,oo 178 (.pick (.t 174) (.t 177) (.c (.b false))),ot 179 (.mv (.t 178)),og 180 (.mv (.t 29)) 179 true false,og 181 (.not (.t 180)) 179 true false,oo 182 (.pick (.t 179) (.t 181) (.c (.b false))),ot 183 (.mv (.t 182)),og 184 (.mv (.t 30)) 183 true false,og 185 (.bin .eql (.t 184) (.c (.i .i64 0))) 183 true false,oo 186 (.pick (.t 183) (.t 185) (.c (.b false))),ot 187 (.mv (.t 186)),og 188 (.mv (.t 32)) 187 true false,og 189 (.bin .eql (.t 188) (.c (.i .i64 0))) 187 true false,oo 190 (.pick (.t 187) (.t 189) (.c (.b false))),ot 191 (.mv (.t 190)),og 192 (.ld true 3 (.t 31)) 191 true false,og 193 (.build [.i .i64 0,.i .i64 0,.i .i64 0] [(0,1,.c (.i .i64 2300)),(1,1,.c (.i .i64 800)),(2,1,.c (.i .i64 2))]) 191 true false,og 194 (.eqk false true [.i,.i,.i] (.t 192) (.t 193)) 191 true false,oo 195 (.pick (.t 191) (.t 194) (.c (.b false))),ot 196 (.mv (.t 195)),og 197 (.mv (.t 34)) 196 true false,og 198 (.bin .eql (.t 197) (.c (.i .i64 4))) 196 true false,oo 199 (.pick (.t 196) (.t 198) (.c (.b false))),oo 35 (.mv (.t 199))]
abbrev i17r18:List IOper:=[oo 200 (.mv (.t 6)),ot 201 (.mv (.t 200)),og 202 (.mv (.t 22)) 201 true false,oo 203 (.pick (.t 201) (.t 202) (.c (.b false))),ot 204 (.mv (.t 203)),og 205 (.mv (.t 24)) 204 true false,og 206 (.bin .eql (.t 205) (.c (.i .i64 7))) 204 true false,oo 207 (.pick (.t 204) (.t 206) (.c (.b false))),ot 208 (.mv (.t 207)),og 209 (.mv (.t 26)) 208 true false,og 210 (.bin .eql (.t 209) (.c (.i .i64 5))) 208 true false,oo 211 (.pick (.t 208) (.t 210) (.c (.b false))),ot 212 (.mv (.t 211)),og 213 (.mv (.t 35)) 212 true false,oo 214 (.pick (.t 212) (.t 213) (.c (.b false))),oo 0 (.mv (.t 214))]
abbrev i17c:ICode:=(.seq (.reg i17r0) (.seq (.reg i17r1) (.seq (.reg i17r2) (.seq (.reg i17r3) (.seq (.reg i17r4) (.seq (.reg i17r5) (.seq (.dreg i17r6) (.seq (.dreg i17r7) (.seq (.reg i17r8) (.seq (.dreg i17r9) (.seq (.reg i17r10) (.seq (.reg i17r11) (.seq (.reg i17r12) (.seq (.reg i17r13) (.seq (.reg i17r14) (.seq (.reg i17r15) (.seq (.reg i17r16) (.seq (.reg i17r17) (.seq (.reg i17r18) .ret)))))))))))))))))))
def i17:IFn:={np:=0,N:=215,ct:=[],code:=i17c,res:=[.t 0]}
theorem i17_eq:compF Tryz.prog Tryz.f17=some i17:=by kernel_rfl
end Go.Proofs.Flz
namespace Go.Proofs.Flz
open Go.Ab Go.Proofs.Flt
/- value .b true; none; facts 28; ops 255 -/
theorem q0 (h:Hp) (n:Nat):k10 [.agg [.i .i64 1,.i .i64 2,.s [97,98,99,100,101]],.i .i64 2] h n=some (true,{v:= .tup [.fz [.s [1,0,0,5,0,2,0,0,0,0,0,2,97,98],.s [1,0,0,5,0,2,0,0,2,0,0,2,99,100],.s [1,0,0,5,0,2,0,0,4,0,0,1,101]] 3,.i .i64 0],n}):=by kernel_rfl
theorem q1 (h:Hp) (n:Nat):k10 [.agg [.i .i64 1,.i .i64 2,.s []],.i .i64 9] h n=some (true,{v:= .tup [.fz [.s [1,0,0,0,0,2,0,0,0,0,0,0]] 1,.i .i64 0],n}):=by kernel_rfl
theorem q2 (h:Hp) (n:Nat):k39 [.i .u8 1,.i .u8 5,.i .u8 2,.i .u8 0,.s [97,98]] h n=some (true,{v:= .s [1,0,0,5,0,2,0,0,0,0,0,2,97,98],n}):=by kernel_rfl
theorem q3 (h:Hp) (n:Nat):k39 [.i .u8 1,.i .u8 5,.i .u8 2,.i .u8 2,.s [99,100]] h n=some (true,{v:= .s [1,0,0,5,0,2,0,0,2,0,0,2,99,100],n}):=by kernel_rfl
theorem q4 (h:Hp) (n:Nat):k39 [.i .u8 1,.i .u8 5,.i .u8 2,.i .u8 4,.s [101]] h n=some (true,{v:= .s [1,0,0,5,0,2,0,0,4,0,0,1,101],n}):=by kernel_rfl
theorem q5 (h:Hp) (n b0:Nat) (hb0:hget h b0=some {cells:=[.s [1,0,0,5,0,2,0,0,0,0,0,2,97,98],.s [1,0,0,5,0,2,0,0,2,0,0,2,99,100],.s [1,0,0,5,0,2,0,0,4,0,0,1,101]]}):k14 [.fz [.s [1,0,0,5,0,2,0,0,0,0,0,2,97,98],.s [1,0,0,5,0,2,0,0,2,0,0,2,99,100],.s [1,0,0,5,0,2,0,0,4,0,0,1,101]] 3,.sl b0 0 3 3] h n=some (true,{v:= .b true,n,rd:=[b0]}):=by
 simp only [k14,vwK_s,vwK_g,hb0];rfl
theorem q6 (h:Hp) (n:Nat):k39 [.i .u8 1,.i .u8 0,.i .u8 2,.i .u8 0,.s []] h n=some (true,{v:= .s [1,0,0,0,0,2,0,0,0,0,0,0],n}):=by kernel_rfl
theorem q7 (h:Hp) (n b0:Nat) (hb0:hget h b0=some {cells:=[.s [1,0,0,0,0,2,0,0,0,0,0,0]]}):k14 [.fz [.s [1,0,0,0,0,2,0,0,0,0,0,0]] 1,.sl b0 0 1 1] h n=some (true,{v:= .b true,n,rd:=[b0]}):=by
 simp only [k14,vwK_s,vwK_g,hb0];rfl
theorem q8 (h:Hp) (n:Nat):k39 [.i .u8 1,.i .u8 2,.i .u8 0,.i .u8 1,.s [98]] h n=some (true,{v:= .s [1,0,0,2,0,0,0,0,1,0,0,1,98],n}):=by kernel_rfl
theorem q9 (h:Hp) (n:Nat):k23n [.agg [.i .i64 0,.ns],.s [1,0,0,2,0,0,0,0,1,0,0,1,98]] h n=some (true,{v:= .tup [.agg [.i .i64 0,.fz [.i .i64 1,.i .i64 2,.i .i64 0,.s [0,98],.fz [.i .i64 1,.i .i64 2] 1] 1],.fz [] 0,.i .i64 0],n}):=by kernel_rfl
theorem q10 (h:Hp) (n:Nat):k39 [.i .u8 2,.i .u8 1,.i .u8 1,.i .u8 0,.s [99]] h n=some (true,{v:= .s [2,0,0,1,0,1,0,0,0,0,0,1,99],n}):=by kernel_rfl
theorem q11 (h:Hp) (n:Nat):k23n [.agg [.i .i64 0,.fz [.i .i64 1,.i .i64 2,.i .i64 0,.s [0,98],.fz [.i .i64 1,.i .i64 2] 1] 1],.s [2,0,0,1,0,1,0,0,0,0,0,1,99]] h n=some (true,{v:= .tup [.agg [.i .i64 0,.fz [.i .i64 1,.i .i64 2,.i .i64 0,.s [0,98],.fz [.i .i64 1,.i .i64 2] 1,.i .i64 2,.i .i64 1,.i .i64 1,.s [99],.fz [.i .i64 0,.i .i64 1] 1] 2],.fz [] 0,.i .i64 0],n}):=by kernel_rfl
theorem q12 (h:Hp) (n:Nat):k39 [.i .u8 1,.i .u8 2,.i .u8 0,.i .u8 0,.s [97]] h n=some (true,{v:= .s [1,0,0,2,0,0,0,0,0,0,0,1,97],n}):=by kernel_rfl
theorem q13 (h:Hp) (n:Nat):k23n [.agg [.i .i64 0,.fz [.i .i64 1,.i .i64 2,.i .i64 0,.s [0,98],.fz [.i .i64 1,.i .i64 2] 1,.i .i64 2,.i .i64 1,.i .i64 1,.s [99],.fz [.i .i64 0,.i .i64 1] 1] 2],.s [1,0,0,2,0,0,0,0,0,0,0,1,97]] h n=some (true,{v:= .tup [.agg [.i .i64 2,.fz [] 0],.fz [.i .i64 1,.i .i64 0,.s [97,98],.i .i64 2,.i .i64 1,.s [99]] 2,.i .i64 0],n}):=by kernel_rfl
theorem q14 (h:Hp) (n:Nat):k39 [.i .u8 1,.i .u8 1,.i .u8 4,.i .u8 0,.s [120]] h n=some (true,{v:= .s [1,0,0,1,0,4,0,0,0,0,0,1,120],n}):=by kernel_rfl
theorem q15 (h:Hp) (n:Nat):k23n [.agg [.i .i64 0,.ns],.s [1,0,0,1,0,4,0,0,0,0,0,1,120]] h n=some (true,{v:= .tup [.agg [.i .i64 0,.fz [] 0],.fz [] 0,.i .i64 3],n}):=by kernel_rfl
theorem q16 (h:Hp) (n:Nat):k39 [.i .u8 1,.i .u8 3,.i .u8 0,.i .u8 0,.s [97]] h n=some (true,{v:= .s [1,0,0,3,0,0,0,0,0,0,0,1,97],n}):=by kernel_rfl
theorem q17 (h:Hp) (n:Nat):k23n [.agg [.i .i64 0,.fz [.i .i64 1,.i .i64 2,.i .i64 0,.s [0,98],.fz [.i .i64 1,.i .i64 2] 1] 1],.s [1,0,0,3,0,0,0,0,0,0,0,1,97]] h n=some (true,{v:= .tup [.agg [.i .i64 0,.fz [] 0],.fz [] 0,.i .i64 5],n}):=by kernel_rfl
theorem q18 (h:Hp) (n b0:Nat) (hb0:hget h b0=some {cells:=[.i .i64 1,.i .i64 0,.s [97,98],.i .i64 2,.i .i64 1,.s [99]]}):k26 [.fz [.i .i64 1,.i .i64 0,.s [97,98],.i .i64 2,.i .i64 1,.s [99]] 2,.sl b0 0 2 2] h n=some (true,{v:= .b true,n,rd:=[b0]}):=by
 simp only [k26,vwK_s,vwK_g,hb0];rfl
theorem q19 (h:Hp) (n:Nat):k25 [.agg [.i .i64 2,.fz [] 0],.agg [.i .i64 2,.ns]] h n=some (true,{v:= .b true,n}):=by kernel_rfl
theorem q20 (h:Hp) (n:Nat):k39 [.i .u8 1,.i .u8 0,.i .u8 0,.i .u8 0,.s []] h n=some (true,{v:= .s [1,0,0,0,0,0,0,0,0,0,0,0],n}):=by kernel_rfl
theorem q21 (h:Hp) (n:Nat):k15 [.s [1,0,0,0,0,0,0,0,0,0,0]] h n=some (true,{v:= .tup [.agg [.i .i64 0,.i .i64 0,.i .i64 0,.i .i64 0,.s []],.i .i64 7],n}):=by kernel_rfl
theorem q22 (h:Hp) (n:Nat):k39 [.i .u8 1,.i .u8 1,.i .u8 0,.i .u8 0,.s []] h n=some (true,{v:= .s [1,0,0,1,0,0,0,0,0,0,0,0],n}):=by kernel_rfl
theorem q23 (h:Hp) (n:Nat):k15 [.s [1,0,0,1,0,0,0,0,0,0,0,0]] h n=some (true,{v:= .tup [.agg [.i .i64 0,.i .i64 0,.i .i64 0,.i .i64 0,.s []],.i .i64 5],n}):=by kernel_rfl
theorem q24 (h:Hp) (n:Nat):k29 [.i .i64 1000] h n=some (true,{v:= .tup [.agg [.i .i64 1400,.i .i64 400,.i .i64 1],.i .i64 0],n}):=by kernel_rfl
theorem q25 (h:Hp) (n:Nat):k33 [.agg [.i .i64 1400,.i .i64 400,.i .i64 1],.i .i64 1399] h n=some (true,{v:= .tup [.b false,.i .i64 0],n}):=by kernel_rfl
theorem q26 (h:Hp) (n:Nat):k35 [.agg [.i .i64 1400,.i .i64 400,.i .i64 1],.i .i64 1500] h n=some (true,{v:= .tup [.agg [.i .i64 2300,.i .i64 800,.i .i64 2],.i .i64 0],n}):=by kernel_rfl
theorem q27 (h:Hp) (n:Nat):k35 [.agg [.i .i64 9,.i .i64 6400,.i .i64 8],.i .i64 9] h n=some (true,{v:= .tup [.agg [.i .i64 0,.i .i64 0,.i .i64 0],.i .i64 4],n}):=by kernel_rfl
def TW:List (Nat×Ct):=[(10,k10),(15,k15),(29,k29),(33,k33),(35,k35),(14,k14),(39,k39),(23,k23n),(26,k26),(25,k25)]
theorem hTW:Sound Tryz.prog (cxT TW):=Sound.cons s10<|Sound.cons s15<|Sound.cons s29<|Sound.cons s33<|Sound.cons s35<|Sound.cons s14<|Sound.cons s39<|Sound.cons s23n<|Sound.cons s26<|Sound.cons s25 Sound.nil
theorem w17:FTL Tryz.prog 17 [] [] 0 (.b true) [] 0:=by
 refine FTL.of_iw hTW mo Tryz.func17 i17_eq (by simp [i17]) (iw_of_jw ?_)
 dsimp only [i17,TW];simp only [go_sem,q0,q1,q2,q3,q4,q5,q6,q7,q8,q9,q10,q11,q12,q13,q14,q15,q16,q17,q18,q19,q20,q21,q22,q23,q24,q25,q26,q27,simprocAttr];exact Ends.pureE rfl rfl
def k17:Ct
 |[],_,n=>some (true,{v:= .b true,n})
 |_,_,_=>none
theorem s17:SoundAt Tryz.prog 17 k17:=fun args h n c E hc ht=>by
 unfold k17 at hc;split at hc
 ·cases hc;exact CallOK.pure (by kernel_rfl) rfl rfl w17 _ _
 ·cases hc
def T8:List (Nat×Ct):=[(17,k17),(36,k36),(10,k10),(37,k37),(15,k15),(12,k12),(38,k38),(39,k39),(40,k40),(23,k23n),(25,nvCt k25),(41,nvCt k41),(42,k42),(21,nvCt k21),(43,k43),(29,k29),(33,k33),(35,k35)]
theorem hT8:Sound Tryz.prog (cxT T8):=Sound.cons s17<|Sound.cons s36<|Sound.cons s10<|Sound.cons s37<|Sound.cons s15<|Sound.cons s12<|Sound.cons s38<|Sound.cons s39<|Sound.cons s40<|Sound.cons s23n<|Sound.cons s25.nv<|Sound.cons s41.nv<|Sound.cons s42<|Sound.cons s21.nv<|Sound.cons s43<|Sound.cons s29<|Sound.cons s33<|Sound.cons s35 Sound.nil
noncomputable abbrev F8:Fx:=⟨Tryz.prog,cxT T8,i8.ct,i8.N,0⟩
noncomputable abbrev K8:Kont:=retK [.t 0] fun v h n=>Go.Ab.Ends 0 v h n (.b true) [] 0
theorem o17 (h:Hp) (n:Nat):k17 [] h n=some (true,{v:= .b true,n}):=rfl
theorem o42n (h:Hp) (n:Nat) (a b c d:AV):k42 [.agg [a,b,c,d,.ns]] h n=some (belL 0 [a,b,c,d],{v:= .agg [.i .i64 0,.sl n 0 1 1],n:=n+1,nw:=[(n,{cells:=[a,b,c,d,.ns]})]}):=rfl
theorem o42s (h:Hp) (n:Nat) (a b c d:AV) (g m q:Nat):k42 [.agg [a,b,c,d,.sl g 0 m q]] h n=(hget h g).bind fun K=>some (belL 0 [a,b,c,d]&&(belL 0 K.cells&&decide (m=q)),{v:= .agg [.i .i64 0,.sl n 0 1 1],n:=n+1,rd:=[g],nw:=[(n,{cells:=[a,b,c,d,.sl g 0 m q]})]}):=rfl
theorem p24:Seam F8 (.seq (.reg i8r24) (.seq (.reg i8r25) (.seq (.reg i8r26) (.seq (.reg i8r27) (.seq (.reg i8r28) (.seq (.reg i8r29) (.seq (.reg i8r30) (.seq (.reg i8r31) (.seq (.reg i8r32) .ret))))))))) K8 [(12,.b true),(13,.b true),(16,.b true),(22,.b true),(25,.b true),(32,.b true)] [] 0:=by
 refine Seam.part (F:=F8) hT8 mo ?_;dsimp only [F8,T8];simp only [go_sem,e38,e39,e40,e41,e42,e43,e44,e45,e46,e47,e48,e49,e50,e51,e52,AV.bel,belL,nblt,simprocAttr];refine Seam.part (F:=F8) hT8 mo ?_;dsimp only [F8,T8];simp only [go_sem,e38,e39,e40,e41,e42,e43,e44,e45,e46,e47,e48,e49,e50,e51,e52,AV.bel,belL,nblt,simprocAttr];refine Seam.part (F:=F8) hT8 mo ?_;dsimp only [F8,T8];simp only [go_sem,e38,e39,e40,e41,e42,e43,e44,e45,e46,e47,e48,e49,e50,e51,e52,AV.bel,belL,nblt,simprocAttr];refine Seam.part (F:=F8) hT8 mo ?_;dsimp only [F8,T8];simp only [go_sem,e38,e39,e40,e41,e42,e43,e44,e45,e46,e47,e48,e49,e50,e51,e52,AV.bel,belL,nblt,simprocAttr];refine Seam.part (F:=F8) hT8 mo ?_;dsimp only [F8,T8];simp only [go_sem,e38,e39,e40,e41,e42,e43,e44,e45,e46,e47,e48,e49,e50,e51,e52,AV.bel,belL,nblt,simprocAttr];refine Seam.part (F:=F8) hT8 mo ?_;dsimp only [F8,T8];simp only [go_sem,e38,e39,e40,e41,e42,e43,e44,e45,e46,e47,e48,e49,e50,e51,e52,AV.bel,belL,nblt,simprocAttr];refine Seam.part (F:=F8) hT8 mo ?_;dsimp only [F8,T8];simp only [go_sem,e38,e39,e40,e41,e42,e43,e44,e45,e46,e47,e48,e49,e50,e51,e52,AV.bel,belL,nblt,simprocAttr];refine Seam.part (F:=F8) hT8 mo ?_;dsimp only [F8,T8];simp only [go_sem,e38,e39,e40,e41,e42,e43,e44,e45,e46,e47,e48,e49,e50,e51,e52,AV.bel,belL,nblt,simprocAttr];refine Seam.part (F:=F8) hT8 mo ?_;dsimp only [F8,T8];simp only [go_sem,simprocAttr];refine Seam.run (F:=F8) hT8 mo ?_;dsimp only [F8,T8];simp only [go_sem,simprocAttr];exact Ends.pureE rfl rfl
theorem p21:Seam F8 (.seq (.reg i8r21) (.seq (.dreg i8r22) (.seq (.reg i8r23) (.seq (.reg i8r24) (.seq (.reg i8r25) (.seq (.reg i8r26) (.seq (.reg i8r27) (.seq (.reg i8r28) (.seq (.reg i8r29) (.seq (.reg i8r30) (.seq (.reg i8r31) (.seq (.reg i8r32) .ret)))))))))))) K8 [(12,.b true),(13,.b true),(16,.b true),(22,.b true),(25,.b true)] [] 0:=by
 refine Seam.part (F:=F8) hT8 mo ?_;dsimp only [F8,T8];simp only [go_sem,e35,e36,e37,AV.bel,belL,nblt,simprocAttr];refine Seam.part (F:=F8) hT8 mo ?_;dsimp only [F8,T8];simp only [go_sem,e35,e36,e37,AV.bel,belL,nblt,simprocAttr];refine Seam.part (F:=F8) hT8 mo ?_;dsimp only [F8,T8];simp only [go_sem,e35,e36,e37,AV.bel,belL,nblt,simprocAttr];refine Seam.ren [] p24 (by decide) (by decide) (by simp only [go_sem,AV.ren,renL,Blk.ren,AV.bel,belL,nblt,simprocAttr]) (by simp only [go_sem,AV.ren,renL,Blk.ren,AV.bel,belL,nblt,simprocAttr])
theorem p18:Seam F8 (.seq (.reg i8r18) (.seq (.reg i8r19) (.seq (.reg i8r20) (.seq (.reg i8r21) (.seq (.dreg i8r22) (.seq (.reg i8r23) (.seq (.reg i8r24) (.seq (.reg i8r25) (.seq (.reg i8r26) (.seq (.reg i8r27) (.seq (.reg i8r28) (.seq (.reg i8r29) (.seq (.reg i8r30) (.seq (.reg i8r31) (.seq (.reg i8r32) .ret))))))))))))))) K8 [(12,.b true),(13,.b true),(16,.b true),(22,.b true),(18,.p 2 0)] [(2,{cells:=[.i .i64 3,.fz [.i .i64 1,.i .i64 4,.i .i64 4,.s [97,0,99,0],.fz [.i .i64 0,.i .i64 1,.i .i64 2,.i .i64 3] 2] 1]})] 3:=by
 have x8:=fun h n=>d8 h n 8 7;have x9:=fun h n=>d9 h n 10 9;have x10:=fun h n=>d10 h n 12 11;have x11:=fun h n=>d11 h n 14 13;have x12:=fun h n=>d12 h n 16 15;refine Seam.part (F:=F8) hT8 mo ?_;dsimp only [F8,T8];simp only [go_sem,o42n,o42s,d1,d2,d3,d4,d5,d6,d7,d13,d14,x8,x9,x10,x11,x12,AV.bel,belL,nblt,simprocAttr];refine Seam.part (F:=F8) hT8 mo ?_;dsimp only [F8,T8];simp only [go_sem,o42n,o42s,d1,d2,d3,d4,d5,d6,d7,d13,d14,x8,x9,x10,x11,x12,AV.bel,belL,nblt,simprocAttr];refine Seam.part (F:=F8) hT8 mo ?_;dsimp only [F8,T8];simp only [go_sem,o42n,o42s,d1,d2,d3,d4,d5,d6,d7,d13,d14,x8,x9,x10,x11,x12,AV.bel,belL,nblt,simprocAttr];refine Seam.ren [] p21 (by decide) (by decide) (by simp only [go_sem,AV.ren,renL,Blk.ren,AV.bel,belL,nblt,simprocAttr]) (by simp only [go_sem,AV.ren,renL,Blk.ren,AV.bel,belL,nblt,simprocAttr])
theorem p16:Seam F8 (.seq (.dreg i8r16) (.seq (.dreg i8r17) (.seq (.reg i8r18) (.seq (.reg i8r19) (.seq (.reg i8r20) (.seq (.reg i8r21) (.seq (.dreg i8r22) (.seq (.reg i8r23) (.seq (.reg i8r24) (.seq (.reg i8r25) (.seq (.reg i8r26) (.seq (.reg i8r27) (.seq (.reg i8r28) (.seq (.reg i8r29) (.seq (.reg i8r30) (.seq (.reg i8r31) (.seq (.reg i8r32) .ret))))))))))))))))) K8 [(12,.b true),(13,.b true),(16,.b true),(17,.fn 40 []),(18,.p 2 0)] [(2,{cells:=[.i .i64 3,.fz [.i .i64 1,.i .i64 4,.i .i64 4,.s [97,0,99,0],.fz [.i .i64 0,.i .i64 1,.i .i64 2,.i .i64 3] 2] 1]})] 3:=by
 have x0:=fun h n=>d0 h n 5 4;refine Seam.part (F:=F8) hT8 mo ?_;dsimp only [F8,T8];simp only [go_sem,x0,e17,e18,e19,e20,e21,e22,e23,e24,e25,e26,e27,e28,e29,e30,e31,e32,e33,e34,AV.bel,belL,nblt,simprocAttr];refine Seam.part (F:=F8) hT8 mo ?_;dsimp only [F8,T8];simp only [go_sem,x0,e17,e18,e19,e20,e21,e22,e23,e24,e25,e26,e27,e28,e29,e30,e31,e32,e33,e34,AV.bel,belL,nblt,simprocAttr];refine Seam.ren [] p18 (by decide) (by decide) (by simp only [go_sem,AV.ren,renL,Blk.ren,AV.bel,belL,nblt,simprocAttr]) (by simp only [go_sem,AV.ren,renL,Blk.ren,AV.bel,belL,nblt,simprocAttr])
theorem p16b:Seam F8 (.seq (.dreg i8r16) (.seq (.dreg i8r17) (.seq (.reg i8r18) (.seq (.reg i8r19) (.seq (.reg i8r20) (.seq (.reg i8r21) (.seq (.dreg i8r22) (.seq (.reg i8r23) (.seq (.reg i8r24) (.seq (.reg i8r25) (.seq (.reg i8r26) (.seq (.reg i8r27) (.seq (.reg i8r28) (.seq (.reg i8r29) (.seq (.reg i8r30) (.seq (.reg i8r31) (.seq (.reg i8r32) .ret))))))))))))))))) K8 [(12,.b true),(13,.b true),(16,.b true),(17,.fn 40 []),(18,.p 2 0)] [(2,{cells:=[.i .i64 3,.sl 1 0 1 1]}),(1,{cells:=[.i .i64 1,.i .i64 4,.i .i64 4,.s [97,0,99,0],.fz [.i .i64 0,.i .i64 1,.i .i64 2,.i .i64 3] 2]})] 3:=by
 exact Seam.frz (b:=1) (x:= .sl 1 0 1 1) (o:=0) (m:=1) (k:={cells:=[.i .i64 1,.i .i64 4,.i .i64 4,.s [97,0,99,0],.fz [.i .i64 0,.i .i64 1,.i .i64 2,.i .i64 3] 2]}) (cs:=[.i .i64 1,.i .i64 4,.i .i64 4,.s [97,0,99,0],.fz [.i .i64 0,.i .i64 1,.i .i64 2,.i .i64 3] 2]) p16 rfl rfl (.inl ⟨1,rfl,Nat.le_refl _⟩) (.inl rfl) ⟨⟨_,rfl,FzV.refl⟩,⟨_,rfl,FzV.refl⟩,⟨_,rfl,FzV.refl⟩,⟨_,rfl,FzV.refl⟩,⟨_,rfl,FzV.refl⟩,trivial⟩ ⟨⟨by decide,_,rfl,rfl,rfl,rfl,FzV.refl,FzV.hit,trivial⟩,trivial⟩
theorem p16a:Seam F8 (.seq (.dreg i8r16) (.seq (.dreg i8r17) (.seq (.reg i8r18) (.seq (.reg i8r19) (.seq (.reg i8r20) (.seq (.reg i8r21) (.seq (.dreg i8r22) (.seq (.reg i8r23) (.seq (.reg i8r24) (.seq (.reg i8r25) (.seq (.reg i8r26) (.seq (.reg i8r27) (.seq (.reg i8r28) (.seq (.reg i8r29) (.seq (.reg i8r30) (.seq (.reg i8r31) (.seq (.reg i8r32) .ret))))))))))))))))) K8 [(12,.b true),(13,.b true),(16,.b true),(17,.fn 40 []),(18,.p 2 0)] [(2,{cells:=[.i .i64 3,.sl 1 0 1 1]}),(1,{cells:=[.i .i64 1,.i .i64 4,.i .i64 4,.s [97,0,99,0],.sl 0 0 2 2]}),(0,{cells:=[.i .i64 0,.i .i64 1,.i .i64 2,.i .i64 3]})] 3:=by
 exact Seam.frz (b:=0) (x:= .sl 0 0 2 2) (o:=0) (m:=2) (k:={cells:=[.i .i64 0,.i .i64 1,.i .i64 2,.i .i64 3]}) (cs:=[.i .i64 0,.i .i64 1,.i .i64 2,.i .i64 3]) p16b rfl rfl (.inl ⟨2,rfl,Nat.le_refl _⟩) (.inl rfl) ⟨⟨_,rfl,FzV.refl⟩,⟨_,rfl,FzV.refl⟩,⟨_,rfl,FzV.refl⟩,⟨_,rfl,FzV.refl⟩,⟨_,rfl,FzV.refl⟩,trivial⟩ ⟨⟨by decide,_,rfl,rfl,rfl,rfl,FzV.refl,FzV.refl,trivial⟩,⟨by decide,_,rfl,rfl,rfl,rfl,FzV.refl,FzV.refl,FzV.refl,FzV.refl,FzV.hit,trivial⟩,trivial⟩
theorem p14:Seam F8 (.seq (.reg i8r14) (.seq (.reg i8r15) (.seq (.dreg i8r16) (.seq (.dreg i8r17) (.seq (.reg i8r18) (.seq (.reg i8r19) (.seq (.reg i8r20) (.seq (.reg i8r21) (.seq (.dreg i8r22) (.seq (.reg i8r23) (.seq (.reg i8r24) (.seq (.reg i8r25) (.seq (.reg i8r26) (.seq (.reg i8r27) (.seq (.reg i8r28) (.seq (.reg i8r29) (.seq (.reg i8r30) (.seq (.reg i8r31) (.seq (.reg i8r32) .ret))))))))))))))))))) K8 [(12,.b true),(13,.b true),(16,.b true)] [] 0:=by
 refine Seam.part (F:=F8) hT8 mo ?_;dsimp only [F8,T8];simp only [go_sem,AV.bel,belL,nblt,simprocAttr];refine Seam.part (F:=F8) hT8 mo ?_;dsimp only [F8,T8];simp only [go_sem,AV.bel,belL,nblt,simprocAttr];refine Seam.ren [] p16a (by decide) (by decide) (by simp only [go_sem,AV.ren,renL,Blk.ren,AV.bel,belL,nblt,simprocAttr]) (by simp only [go_sem,AV.ren,renL,Blk.ren,AV.bel,belL,nblt,simprocAttr])
theorem p11:Seam F8 (.seq (.reg i8r11) (.seq (.dreg i8r12) (.seq (.reg i8r13) (.seq (.reg i8r14) (.seq (.reg i8r15) (.seq (.dreg i8r16) (.seq (.dreg i8r17) (.seq (.reg i8r18) (.seq (.reg i8r19) (.seq (.reg i8r20) (.seq (.reg i8r21) (.seq (.dreg i8r22) (.seq (.reg i8r23) (.seq (.reg i8r24) (.seq (.reg i8r25) (.seq (.reg i8r26) (.seq (.reg i8r27) (.seq (.reg i8r28) (.seq (.reg i8r29) (.seq (.reg i8r30) (.seq (.reg i8r31) (.seq (.reg i8r32) .ret)))))))))))))))))))))) K8 [(12,.b true),(13,.b true),(1,.s X4)] [] 0:=by
 refine Seam.part (F:=F8) hT8 mo ?_;dsimp only [F8,T8];simp only [go_sem,e6,e7,e8,e9,e10,e11,e12,e13,e14,e15,e16,fb6,fb8,fb9,fb10,fb11,fb12,fb13,fb14,AV.bel,belL,nblt,simprocAttr];refine Seam.part (F:=F8) hT8 mo ?_;dsimp only [F8,T8];simp only [go_sem,e6,e7,e8,e9,e10,e11,e12,e13,e14,e15,e16,fb6,fb8,fb9,fb10,fb11,fb12,fb13,fb14,AV.bel,belL,nblt,simprocAttr];refine Seam.part (F:=F8) hT8 mo ?_;dsimp only [F8,T8];simp only [go_sem,e6,e7,e8,e9,e10,e11,e12,e13,e14,e15,e16,fb6,fb8,fb9,fb10,fb11,fb12,fb13,fb14,AV.bel,belL,nblt,simprocAttr];refine Seam.ren [] p14 (by decide) (by decide) (by simp only [go_sem,AV.ren,renL,Blk.ren,AV.bel,belL,nblt,simprocAttr]) (by simp only [go_sem,AV.ren,renL,Blk.ren,AV.bel,belL,nblt,simprocAttr])
theorem p3:Seam F8 (.seq (.reg i8r3) (.seq (.reg i8r4) (.seq (.reg i8r5) (.seq (.reg i8r6) (.seq (.reg i8r7) (.seq (.reg i8r8) (.seq (.reg i8r9) (.seq (.reg i8r10) (.seq (.reg i8r11) (.seq (.dreg i8r12) (.seq (.reg i8r13) (.seq (.reg i8r14) (.seq (.reg i8r15) (.seq (.dreg i8r16) (.seq (.dreg i8r17) (.seq (.reg i8r18) (.seq (.reg i8r19) (.seq (.reg i8r20) (.seq (.reg i8r21) (.seq (.dreg i8r22) (.seq (.reg i8r23) (.seq (.reg i8r24) (.seq (.reg i8r25) (.seq (.reg i8r26) (.seq (.reg i8r27) (.seq (.reg i8r28) (.seq (.reg i8r29) (.seq (.reg i8r30) (.seq (.reg i8r31) (.seq (.reg i8r32) .ret)))))))))))))))))))))))))))))) K8 [] [] 0:=by
 refine Seam.part (F:=F8) hT8 mo ?_;dsimp only [F8,T8];simp only [go_sem,e0,e1,e2,e3,e4,e5,fb0,fb1,fb2,fb3,fb4,fb5,fb6,fb7,AV.bel,belL,nblt,simprocAttr];refine Seam.part (F:=F8) hT8 mo ?_;dsimp only [F8,T8];simp only [go_sem,e0,e1,e2,e3,e4,e5,fb0,fb1,fb2,fb3,fb4,fb5,fb6,fb7,AV.bel,belL,nblt,simprocAttr];refine Seam.part (F:=F8) hT8 mo ?_;dsimp only [F8,T8];simp only [go_sem,e0,e1,e2,e3,e4,e5,fb0,fb1,fb2,fb3,fb4,fb5,fb6,fb7,AV.bel,belL,nblt,simprocAttr];refine Seam.part (F:=F8) hT8 mo ?_;dsimp only [F8,T8];simp only [go_sem,e0,e1,e2,e3,e4,e5,fb0,fb1,fb2,fb3,fb4,fb5,fb6,fb7,AV.bel,belL,nblt,simprocAttr];refine Seam.part (F:=F8) hT8 mo ?_;dsimp only [F8,T8];simp only [go_sem,e0,e1,e2,e3,e4,e5,fb0,fb1,fb2,fb3,fb4,fb5,fb6,fb7,AV.bel,belL,nblt,simprocAttr];refine Seam.part (F:=F8) hT8 mo ?_;dsimp only [F8,T8];simp only [go_sem,e0,e1,e2,e3,e4,e5,fb0,fb1,fb2,fb3,fb4,fb5,fb6,fb7,AV.bel,belL,nblt,simprocAttr];refine Seam.part (F:=F8) hT8 mo ?_;dsimp only [F8,T8];simp only [go_sem,e0,e1,e2,e3,e4,e5,fb0,fb1,fb2,fb3,fb4,fb5,fb6,fb7,AV.bel,belL,nblt,simprocAttr];refine Seam.part (F:=F8) hT8 mo ?_;dsimp only [F8,T8];simp only [go_sem,e0,e1,e2,e3,e4,e5,fb0,fb1,fb2,fb3,fb4,fb5,fb6,fb7,AV.bel,belL,nblt,simprocAttr];refine Seam.ren [] p11 (by decide) (by decide) (by simp only [go_sem,AV.ren,renL,Blk.ren,AV.bel,belL,nblt,simprocAttr]) (by simp only [go_sem,AV.ren,renL,Blk.ren,AV.bel,belL,nblt,simprocAttr])
theorem w8:FTL Tryz.prog 8 [] [] 0 (.b true) [] 0:=by
 refine FTL.of_seam (cx:=cxT T8) Tryz.func8 i8_eq (by simp [i8]) ?_
 show Seam F8 (.seq (.reg i8r0) (.seq (.seq (.reg i8r1) (.cond (.t 48) (.seq (.reg i8r2) .ret) .skip)) (.seq (.reg i8r3) (.seq (.reg i8r4) (.seq (.reg i8r5) (.seq (.reg i8r6) (.seq (.reg i8r7) (.seq (.reg i8r8) (.seq (.reg i8r9) (.seq (.reg i8r10) (.seq (.reg i8r11) (.seq (.dreg i8r12) (.seq (.reg i8r13) (.seq (.reg i8r14) (.seq (.reg i8r15) (.seq (.dreg i8r16) (.seq (.dreg i8r17) (.seq (.reg i8r18) (.seq (.reg i8r19) (.seq (.reg i8r20) (.seq (.reg i8r21) (.seq (.dreg i8r22) (.seq (.reg i8r23) (.seq (.reg i8r24) (.seq (.reg i8r25) (.seq (.reg i8r26) (.seq (.reg i8r27) (.seq (.reg i8r28) (.seq (.reg i8r29) (.seq (.reg i8r30) (.seq (.reg i8r31) (.seq (.reg i8r32) .ret)))))))))))))))))))))))))))))))) K8 (argEnv 0 []) [] 0;refine Seam.part (F:=F8) hT8 mo ?_;dsimp only [F8,T8];simp only [go_sem,simprocAttr];refine Seam.part (F:=F8) hT8 mo ?_;dsimp only [F8,T8];simp only [go_sem,o17,simprocAttr];refine Seam.ren [] p3 (by decide) (by decide) (by simp only [go_sem,AV.ren,renL,Blk.ren,AV.bel,belL,nblt,simprocAttr]) (by simp only [go_sem,AV.ren,renL,Blk.ren,AV.bel,belL,nblt,simprocAttr])
end Go.Proofs.Flz
