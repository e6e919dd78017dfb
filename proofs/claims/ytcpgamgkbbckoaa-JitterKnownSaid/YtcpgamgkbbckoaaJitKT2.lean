/- What JitterKnown reaches. -/
import Derived.Test.YtcpgamgkbbckoaaJitK
import Derived.Test.YtcpgamgkbbckoaaJitI8
namespace Go.Proofs.Jit
open Go.Ab
def o12 : List AV → Option AV
 | [.agg c] => (bfA (c.map nrm)).bind fun b => bif okBf b then some (.i .i64 (if goodB b then 0 else 260)) else none
 | _ => none
theorem f12 {a : List AV} {v : AV} (e : o12 a = some v) : FTL Try.prog 12 a [] 0 v [] 0 := by
 unfold o12 at e
 split at e
 · rename_i c
   simp only [Option.bind_eq_some_iff] at e
   obtain ⟨b, hb, e⟩ := e
   cases hd : okBf b
   · rw [hd] at e; cases e
   · rw [hd] at e
     cases e
     obtain ⟨h1, h2, h3⟩ := okBf_t hd
     refine FTL.wka (xs := [.agg c]) (ys := [.agg b.a]) ⟨?_, trivial⟩ (w12 b h1 h2 h3)
     rw [← bfA_eq hb]; exact Wka.agg (WkaL.nrm c)
 · cases e
def o20 : List AV → Option AV
 | [] => some (.b true)
 | _ => none
theorem f20 {a : List AV} {v : AV} (e : o20 a = some v) : FTL Try.prog 20 a [] 0 v [] 0 := by
 unfold o20 at e
 split at e
 · cases e; exact w20
 · cases e
def hc (j : Nat) : List AV := [.b false, .i .i64 0, .i .i64 (j : Int), .i .i64 0, .i .i64 0, .fz [] 0, .fz [] 0, .i .i64 0, .s [], .i .i64 1099511627776]
def fcR (m : Nat) : Nat → List AV
 | 0 => []
 | n + 1 => hc (m - (n + 1)) ++ fcR m n
def fc (n : Nat) : List AV := fcR n n
end Go.Proofs.Jit
