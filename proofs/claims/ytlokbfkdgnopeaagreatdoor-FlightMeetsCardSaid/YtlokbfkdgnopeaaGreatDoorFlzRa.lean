/- Texts laid as one: FlzR1 FlzR2. -/
import Derived.Test.YtlokbfkdgnopeaaGreatDoorFlzCc
import Derived.Test.YtlokbfkdgnopeaaGreatDoorFlzCa
import Derived.Test.YtlokbfkdgnopeaaGreatDoorFlzIc
import Derived.Test.YtlokbfkdgnopeaaGreatDoorFltPa
import Derived.Test.YtlokbfkdgnopeaaGreatDoorFlzCf
section
/- The reference's octets: put, get, Whole, Right, Check, Octets. -/
namespace Go.Proofs.Flz
open Go.Ab Go.Proofs.Flt
set_option maxRecDepth 100000
set_option maxHeartbeats 4000000
set_option linter.unusedSimpArgs false
set_option linter.unusedVariables false
theorem w8n (n : Nat) : UInt8.ofNat (IntKind.u8.wrap (n : Int)).toNat = UInt8.ofNat n := by
 have := b8 n 1 (by decide)
 simpa using this
theorem tdn (n : Nat) : Int.tdiv (n : Int) 256 = ((n / 256 : Nat) : Int) := by rw [Int.tdiv_eq_ediv_of_nonneg (by omega)]; rfl
theorem w96 (n k : Nat) (hk : 1 ≤ k ∧ k ≤ 3) (hn : n ≤ 9223372036854775807) : FTL Tryz.prog 96 [.i .i64 (n : Int), .i .i64 (k : Int)] [] 0 (.s (fld n k)) [] 0 := by
 have t1 := tdn n
 have t2 := tdn (n / 256)
 have t3 := tdn (n / 256 / 256)
 have a1 := w8n n
 have a2 := w8n (n / 256)
 have a3 := w8n (n / 256 / 256)
 have w1 : IntKind.i64.wrap ((n / 256 : Nat) : Int) = ((n / 256 : Nat) : Int) := wrapL (by omega) (by omega)
 have w2 : IntKind.i64.wrap ((n / 256 / 256 : Nat) : Int) = ((n / 256 / 256 : Nat) : Int) := wrapL (by omega) (by omega)
 have w3 : IntKind.i64.wrap ((n / 256 / 256 / 256 : Nat) : Int) = ((n / 256 / 256 / 256 : Nat) : Int) := wrapL (by omega) (by omega)
 obtain rfl | rfl | rfl : k = 1 ∨ k = 2 ∨ k = 3 := by omega
 all_goals
  refine FTL.of_iw (cx := cxT []) Sound.nil mo Tryz.func96 i96_eq (by simp [i96]) (iw_of_jw ?_)
  dsimp only [i96]
  simp (maxSteps := 400000) only [go_sem, simprocAttr]
  refine Loop.rounds (F := ⟨Tryz.prog, cxT [], [9], 21, 0⟩) 4 Sound.nil mo ?_
  simp (maxSteps := 400000) only [go_sem, t1, t2, t3, a1, a2, a3, w1, w2, w3, bytesOf, simprocAttr]
  exact Ends.pureE rfl rfl
def k96 : Ct
 | [.i .i64 n, .i .i64 k], _, m => some (decide (0 ≤ n ∧ n ≤ 9223372036854775807 ∧ 1 ≤ k ∧ k ≤ 3), { v := .s (fld n.toNat k.toNat), n := m })
 | _, _, _ => none
theorem s96 : SoundAt Tryz.prog 96 k96 := fun args h n c E hc ht => by
 unfold k96 at hc
 split at hc
 · rename_i a k
   cases hc
   obtain ⟨h0, h1, h2, h3⟩ := of_decide_eq_true ht
   have := w96 a.toNat k.toNat (by omega) (by omega)
   rw [Int.toNat_of_nonneg h0, Int.toNat_of_nonneg (by omega : 0 ≤ k)] at this
   exact CallOK.pure (by kernel_rfl) rfl rfl this _ _
 · cases hc
end Go.Proofs.Flz
end
section
/- The reference's Whole, Right, Check, Octets. -/
namespace Go.Proofs.Flz
open Go.Ab Go.Proofs.Flt
set_option maxRecDepth 100000
set_option maxHeartbeats 4000000
set_option linter.unusedSimpArgs false
set_option linter.unusedVariables false
def octB (p : Pc) : Bool := pcB p && (decide (p.kd ≤ 9223372036854775807) && (decide (p.ln ≤ 9223372036854775807) && (decide (p.sq ≤ 9223372036854775807) && decide (p.ofs ≤ 9223372036854775807))))
def TR2 : List (Nat × Ct) := [(96, k96)]
theorem hTR2 : Sound Tryz.prog (cxT TR2) := Sound.cons s96 Sound.nil
theorem w77 (p : Pc) (hp : octB p = true) : FTL Tryz.prog 77 [.agg p.l] [] 0 (.s (pcO p)) [] 0 := by
 simp only [octB, Bool.and_eq_true, decide_eq_true_eq] at hp
 obtain ⟨hp, g1, g2, g3, g4⟩ := hp
 obtain ⟨h1, h2, h3, h4, h5⟩ := pcB_t hp
 have kp : ∀ {a k : Int} (ha : 0 ≤ a) (hb : a ≤ 9223372036854775807) (hk : 1 ≤ k ∧ k ≤ 3) (h : Hp) (n : Nat), k96 [.i .i64 a, .i .i64 k] h n = some (true, { v := .s (fld a.toNat k.toNat), n }) := fun {a k} ha hb hk h n => by
  simp only [k96, decide_eq_true (show 0 ≤ a ∧ a ≤ 9223372036854775807 ∧ 1 ≤ k ∧ k ≤ 3 from ⟨ha, hb, hk⟩)]
 have f1 := fun h n => kp h1 g1 (k := 1) (by decide) h n
 have f2 := fun h n => kp h2 g2 (k := 3) (by decide) h n
 have f3 := fun h n => kp h3 g3 (k := 2) (by decide) h n
 have f4 := fun h n => kp h4 g4 (k := 3) (by decide) h n
 have f5 := fun h n => kp (a := (p.pt.length : Int)) (by omega) (by omega) (k := 3) (by decide) h n
 simp only [Int.reduceToNat, Int.toNat_natCast] at f1 f2 f3 f4 f5
 have hO : pcO p = fld p.kd.toNat 1 ++ fld p.ln.toNat 3 ++ fld p.sq.toNat 2 ++ fld p.ofs.toNat 3 ++ fld p.pt.length 3 ++ p.pt := rfl
 have L1 := fld_len p.kd.toNat 1
 have L2 := fld_len p.ln.toNat 3
 have L3 := fld_len p.sq.toNat 2
 have L4 := fld_len p.ofs.toNat 3
 have L5 := fld_len p.pt.length 3
 rw [hO]
 obtain ⟨kd, ln, sq, ofs, pt⟩ := p
 dsimp only at *
 have lp : decide (1 + 3 + 2 + 3 + 3 + pt.length ≤ 9223372036854775807) = true := decide_eq_true (by omega)
 have lp2 : decide (12 + pt.length ≤ 9223372036854775807) = true := decide_eq_true (by omega)
 generalize fld kd.toNat 1 = o1 at *
 generalize fld ln.toNat 3 = o2 at *
 generalize fld sq.toNat 2 = o3 at *
 generalize fld ofs.toNat 3 = o4 at *
 generalize fld pt.length 3 = o5 at *
 refine FTL.of_iw hTR2 mo Tryz.func77 i77_eq (by simp [i77]) (iw_of_jw ?_)
 dsimp only [i77, TR2]
 simp (maxSteps := 400000) only [go_sem, Pc.l, f1, f2, f3, f4, f5, L1, L2, L3, L4, L5, lp, lp2, List.length_append, simprocAttr]
 exact Ends.pureE rfl (by simp only [List.append_assoc])
def k77 : Ct
 | [.agg c], _, n => (pc5 c).bind fun p => some (octB p, { v := .s (pcO p), n })
 | _, _, _ => none
theorem s77 : SoundAt Tryz.prog 77 k77 := fun args h n c E hc ht => by
 unfold k77 at hc
 split at hc
 · simp only [Option.bind_eq_some_iff] at hc
   obtain ⟨p, hp, he⟩ := hc
   cases he
   rw [pc5_eq hp]
   exact CallOK.pure (by kernel_rfl) rfl rfl (w77 p ht) _ _
 · cases hc
end Go.Proofs.Flz
end
