/- The table of the functions that works reaches; Put, New, Due and Take are known by their contracts. -/
import Derived.Test.YtcpgamgkbbckoaaJitNb
import Derived.Test.YtcpgamgkbbckoaaAbFast
import Derived.Test.YtcpgamgkbbckoaaAbShelf
import Derived.Test.YtcpgamgkbbckoaaAbWka
namespace Go.Proofs.Jit
open Go.Ab
set_option linter.unusedVariables false
def TK : List (Nat × IFn) := [(26, i26), (27, i27), (28, i28), (29, i29), (30, i30)]
theorem TK_valid : Valid Try.prog TK :=
 .cons Try.func26 i26_eq (by kernel_rfl) <|
 .cons Try.func27 i27_eq (by kernel_rfl) <|
 .cons Try.func28 i28_eq (by kernel_rfl) <|
 .cons Try.func29 i29_eq (by kernel_rfl) <|
 .cons Try.func30 i30_eq (by kernel_rfl) .nil
def nrm : AV → AV
 | .ns => .fz [] 0
 | .ze => .fz [] 0
 | x => x
theorem Wka.nrm (x : AV) : Wka x (Jit.nrm x) := by
 cases x with
 | ns => exact Wka.ns
 | ze => exact Wka.ze
 | _ => exact Wka.refl _
theorem WkaL.nrm : ∀ l : List AV, WkaL l (l.map Jit.nrm)
 | [] => trivial
 | a :: l => ⟨Wka.nrm a, WkaL.nrm l⟩
def okBf (b : Bf) : Bool := decide (b.l.length ≤ 9223372036854775807) && (finB b.l && b.rg)
theorem okBf_t {b : Bf} (h : okBf b = true) : b.l.length ≤ 9223372036854775807 ∧ finB b.l = true ∧ b.rg = true := by
 simp only [okBf, Bool.and_eq_true, decide_eq_true_eq] at h
 exact h
def o15 : List AV → Option AV
 | [.agg c, .i .i64 now, .agg q] => (bfA (c.map nrm)).bind fun b => (md9 (q.map nrm)).bind fun p => bif okBf b && p.fin then some (bfV (putS b now p)) else none
 | _ => none
theorem f15 {a : List AV} {v : AV} (e : o15 a = some v) : FTL Try.prog 15 a [] 0 v [] 0 := by
 unfold o15 at e
 split at e
 · rename_i c now q
   simp only [Option.bind_eq_some_iff] at e
   obtain ⟨b, hb, p, hp, e⟩ := e
   cases hd : okBf b && p.fin
   · rw [hd] at e; cases e
   · rw [hd] at e
     cases e
     simp only [Bool.and_eq_true] at hd
     obtain ⟨h1, h2, h3⟩ := okBf_t hd.1
     refine FTL.wka (xs := [.agg c, .i .i64 now, .agg q]) (ys := [.agg b.a, .i .i64 now, .agg p.l]) ⟨?_, Wka.refl _, ?_, trivial⟩ (w15 b now p h1 h2 h3 hd.2)
     · rw [← bfA_eq hb]; exact Wka.agg (WkaL.nrm c)
     · rw [← md9_eq hp]; exact Wka.agg (WkaL.nrm q)
 · cases e
def o18 : List AV → Option AV
 | [.i .i64 n] => some (bfV (newS n))
 | _ => none
theorem f18 {a : List AV} {v : AV} (e : o18 a = some v) : FTL Try.prog 18 a [] 0 v [] 0 := by
 unfold o18 at e
 split at e
 · cases e; exact w18 _
 · cases e
def o21 : List AV → Option AV
 | [.agg c] => (bfA (c.map nrm)).bind fun b => bif okBf b then some (.tup [.i .i64 (dueE b).1, .i .i64 (dueE b).2]) else none
 | _ => none
theorem f21 {a : List AV} {v : AV} (e : o21 a = some v) : FTL Try.prog 21 a [] 0 v [] 0 := by
 unfold o21 at e
 split at e
 · rename_i c
   simp only [Option.bind_eq_some_iff] at e
   obtain ⟨b, hb, e⟩ := e
   cases hd : okBf b
   · rw [hd] at e; cases e
   · rw [hd] at e
     cases e
     obtain ⟨h1, h2, h3⟩ := okBf_t hd
     refine FTL.wka (xs := [.agg c]) (ys := [.agg b.a]) ⟨?_, trivial⟩ (w21 b h1 h2 h3)
     rw [← bfA_eq hb]; exact Wka.agg (WkaL.nrm c)
 · cases e
def o23 : List AV → Option AV
 | [.agg c, .i .i64 now] => (bfA (c.map nrm)).bind fun b => bif okBf b then some (tkA (tkS b now)) else none
 | _ => none
theorem f23 {a : List AV} {v : AV} (e : o23 a = some v) : FTL Try.prog 23 a [] 0 v [] 0 := by
 unfold o23 at e
 split at e
 · rename_i c now
   simp only [Option.bind_eq_some_iff] at e
   obtain ⟨b, hb, e⟩ := e
   cases hd : okBf b
   · rw [hd] at e; cases e
   · rw [hd] at e
     cases e
     obtain ⟨h1, h2, h3⟩ := okBf_t hd
     refine FTL.wka (xs := [.agg c, .i .i64 now]) (ys := [.agg b.a, .i .i64 now]) ⟨?_, Wka.refl _, trivial⟩ (w23 b now h1 h2 h3)
     rw [← bfA_eq hb]; exact Wka.agg (WkaL.nrm c)
 · cases e
def k20 : Ct
 | [], _, n => some (true, { v := .b true, n })
 | _, _, _ => none
end Go.Proofs.Jit
