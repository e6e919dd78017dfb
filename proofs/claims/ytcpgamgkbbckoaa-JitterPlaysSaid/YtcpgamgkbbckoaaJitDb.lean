/- Texts laid as one: JitD4 JitD5 JitD6. -/
import Derived.Test.YtcpgamgkbbckoaaJitDa
section
/- Buffers made by steps. -/
namespace Go.Proofs.Jit
open Go.Ab
set_option maxRecDepth 100000
set_option maxHeartbeats 4000000
set_option linter.unusedSimpArgs false
set_option linter.unusedVariables false
def zMd : Md := ⟨false, 0, 0, 0, 0, [], [], 0, []⟩
def stepB (l : List Md) (b : Bf) (e : Ev) : Bf :=
 bif e.pt && decide (0 < l.length) then
  bif (putS b (b.ti + e.wt % 200) (l.getD (e.pk % (l.length : Int)).toNat zMd)).2 == 0 then (putS b (b.ti + e.wt % 200) (l.getD (e.pk % (l.length : Int)).toNat zMd)).1 else b
 else bif (tkS b (b.ti + e.wt % 200)).2.2 == 0 then (tkS b (b.ti + e.wt % 200)).1 else b
def bufN (b0 : Bf) (l : List Md) (ev : List Ev) : Nat → Bf
 | 0 => b0
 | i + 1 => match ev[i]? with
  | some e => stepB l (bufN b0 l ev i) e
  | none => bufN b0 l ev i
def DjOK (d : Dj) : Bool := inI 0 255 d.ck && (SmOK d.s && (d.ev.all (fun e => inI 0 65535 e.wt && inI 0 255 e.pk) && decide (d.ev.length ≤ 9223372036854775807)))
end Go.Proofs.Jit
end
section
/- Buffers with a field changed. -/
namespace Go.Proofs.Jit
open Go.Ab
set_option maxRecDepth 100000
set_option maxHeartbeats 16000000
set_option linter.unusedSimpArgs false
set_option linter.unusedVariables false
structure Bx where
 wh : Int
 at_ : Int
 n : Int
def Bx.a (b : Bx) : List AV := [.i .u8 b.wh, .i .u8 b.at_, .i .i64 b.n]
def nxq (q : Int) : Int := (IntKind.i64.wrap (q + 1)).tmod 65536
def Hd.nx (x : Hd) : Hd := ⟨{ x.p with sq := nxq x.p.sq }, x.st⟩
end Go.Proofs.Jit
end
section
/- The law's four buffers. -/
namespace Go.Proofs.Jit
open Go.Ab
set_option maxRecDepth 100000
set_option maxHeartbeats 4000000
set_option linter.unusedSimpArgs false
set_option linter.unusedVariables false
end Go.Proofs.Jit
end
