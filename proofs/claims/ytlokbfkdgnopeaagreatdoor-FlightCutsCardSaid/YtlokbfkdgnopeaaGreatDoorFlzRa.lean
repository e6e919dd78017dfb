/- Texts laid as one: FlzR1 FlzR2. -/
import Derived.Test.YtlokbfkdgnopeaaGreatDoorFlzCc
import Derived.Test.YtlokbfkdgnopeaaGreatDoorFlzCa
import Derived.Test.YtlokbfkdgnopeaaGreatDoorFlzIc
import Derived.Test.YtlokbfkdgnopeaaGreatDoorFltPa
import Derived.Test.YtlokbfkdgnopeaaGreatDoorFlzCf
section
/- The reference's octets: put, get, Whole, Right, Check, Octets. -/
namespace Go.Proofs.Flz
open Go.Ab Go.Proofs.Flt
set_option maxRecDepth 100000
set_option maxHeartbeats 4000000
set_option linter.unusedSimpArgs false
set_option linter.unusedVariables false
theorem w8n (n : Nat) : UInt8.ofNat (IntKind.u8.wrap (n : Int)).toNat = UInt8.ofNat n := by
 have := b8 n 1 (by decide)
 simpa using this
theorem tdn (n : Nat) : Int.tdiv (n : Int) 256 = ((n / 256 : Nat) : Int) := by rw [Int.tdiv_eq_ediv_of_nonneg (by omega)]; rfl
theorem w96 (n k : Nat) (hk : 1 ≤ k ∧ k ≤ 3) (hn : n ≤ 9223372036854775807) : FTL Tryz.prog 96 [.i .i64 (n : Int), .i .i64 (k : Int)] [] 0 (.s (fld n k)) [] 0 := by
 have t1 := tdn n
 have t2 := tdn (n / 256)
 have t3 := tdn (n / 256 / 256)
 have a1 := w8n n
 have a2 := w8n (n / 256)
 have a3 := w8n (n / 256 / 256)
 have w1 : IntKind.i64.wrap ((n / 256 : Nat) : Int) = ((n / 256 : Nat) : Int) := wrapL (by omega) (by omega)
 have w2 : IntKind.i64.wrap ((n / 256 / 256 : Nat) : Int) = ((n / 256 / 256 : Nat) : Int) := wrapL (by omega) (by omega)
 have w3 : IntKind.i64.wrap ((n / 256 / 256 / 256 : Nat) : Int) = ((n / 256 / 256 / 256 : Nat) : Int) := wrapL (by omega) (by omega)
 obtain rfl | rfl | rfl : k = 1 ∨ k = 2 ∨ k = 3 := by omega
 all_goals
  refine FTL.of_iw (cx := cxT []) Sound.nil mo Tryz.func96 i96_eq (by simp [i96]) (iw_of_jw ?_)
  dsimp only [i96]
  simp (maxSteps := 400000) only [go_sem, simprocAttr]
  refine Loop.rounds (F := ⟨Tryz.prog, cxT [], [9], 21, 0⟩) 4 Sound.nil mo ?_
  simp (maxSteps := 400000) only [go_sem, t1, t2, t3, a1, a2, a3, w1, w2, w3, bytesOf, simprocAttr]
  exact Ends.pureE rfl rfl
def k96 : Ct
 | [.i .i64 n, .i .i64 k], _, m => some (decide (0 ≤ n ∧ n ≤ 9223372036854775807 ∧ 1 ≤ k ∧ k ≤ 3), { v := .s (fld n.toNat k.toNat), n := m })
 | _, _, _ => none
theorem s96 : SoundAt Tryz.prog 96 k96 := fun args h n c E hc ht => by
 unfold k96 at hc
 split at hc
 · rename_i a k
   cases hc
   obtain ⟨h0, h1, h2, h3⟩ := of_decide_eq_true ht
   have := w96 a.toNat k.toNat (by omega) (by omega)
   rw [Int.toNat_of_nonneg h0, Int.toNat_of_nonneg (by omega : 0 ≤ k)] at this
   exact CallOK.pure (by kernel_rfl) rfl rfl this _ _
 · cases hc
theorem w51 (s : List UInt8) (hs : s.length ≤ 3) : FTL Tryz.prog 51 [.s s] [] 0 (.i .i64 (num s)) [] 0 := by
 refine FTL.of_iw (cx := cxT []) Sound.nil mo Tryz.func51 i51_eq (by simp [i51]) (iw_of_jw ?_)
 dsimp only [i51]
 simp (maxSteps := 400000) only [go_sem, simprocAttr]
 refine Loop.countI (F := ⟨Tryz.prog, cxT [], [8], 19, 0⟩) Sound.nil mo s.length (fun _ => True) (fun i => [(0, .s s), (3, .i .i64 (num (s.take i))), (4, .i .i64 (i : Int))]) (fun _ => []) 0 (by decide) trivial ?_ ?_ (fun i hi _ => ?_)
 · have : num (s.take 0) = 0 := rfl
   simp (maxSteps := 400000) only [go_sem, this, AV.bel, belL, nblt, simprocAttr]
 · simp (maxSteps := 400000) only [go_sem, AV.bel, belL, nblt, simprocAttr]
 by_cases hlt : i < s.length
 rotate_left
 · have hi' : i = s.length := by omega
   subst hi'
   have c1 : decide ((s.length : Int) < (s.length : Int)) = false := decide_eq_false (by omega)
   have c2 : s.take s.length = s := List.take_length
   simp (maxSteps := 400000) only [go_sem, c1, c2, simprocAttr]
   exact Ends.pureE rfl rfl
 have c1 : decide ((i : Int) < (s.length : Int)) = true := decide_eq_true (by omega)
 have c2 : decide (0 ≤ (i : Int) ∧ (i : Int) < (s.length : Int)) = true := decide_eq_true (by omega)
 obtain ⟨b, hb⟩ : ∃ b, s[i]? = some b := ⟨_, List.getElem?_eq_getElem hlt⟩
 have hgd : (s[i]?).getD 0 = b := by rw [hb]; rfl
 have htk : s.take (i + 1) = s.take i ++ [b] := by
  rw [List.take_succ_eq_append_getElem hlt]
  rw [List.getElem?_eq_getElem hlt] at hb
  rw [Option.some.inj hb]
 have hnum : num (s.take (i + 1)) = num (s.take i) * 256 + (b.toNat : Int) := by rw [htk, num_snoc]
 obtain ⟨m, hm, hm2⟩ := num_lt (s.take i)
 have hm3 : m < 65536 := by
  have h1 : (s.take i).length ≤ 2 := by rw [List.length_take]; omega
  have h2 : 256 ^ (s.take i).length ≤ 256 ^ 2 := Nat.pow_le_pow_right (by decide) h1
  omega
 have hbl : b.toNat < 256 := UInt8.toNat_lt b
 rw [hnum]
 generalize num (s.take i) = N at *
 have w0 : IntKind.i64.wrap (b.toNat : Int) = (b.toNat : Int) := wrapL (by omega) (by omega)
 have w1 : IntKind.i64.wrap (256 * N) = N * 256 := by rw [wrapL (by omega) (by omega)]; omega
 have w2 : IntKind.i64.wrap (N * 256 + (b.toNat : Int)) = N * 256 + (b.toNat : Int) := wrapL (by omega) (by omega)
 have wk : IntKind.i64.wrap ((i : Int) + 1) = ((i + 1 : Nat) : Int) := by rw [wrapL (by omega) (by omega)]; omega
 simp (maxSteps := 400000) only [go_sem, c1, c2, hgd, hb, w0, w1, w2, wk, Option.getD_some, AV.bel, belL, nblt, simprocAttr]
 exact hlt
def k51 : Ct
 | [.s s], _, n => some (decide (s.length ≤ 3), { v := .i .i64 (num s), n })
 | _, _, _ => none
theorem s51 : SoundAt Tryz.prog 51 k51 := fun args h n c E hc ht => by
 unfold k51 at hc
 split at hc
 · cases hc; exact CallOK.pure (by kernel_rfl) rfl rfl (w51 _ (of_decide_eq_true ht)) _ _
 · cases hc
end Go.Proofs.Flz
end
section
/- The reference's Whole, Right, Check, Octets. -/
namespace Go.Proofs.Flz
open Go.Ab Go.Proofs.Flt
set_option maxRecDepth 100000
set_option maxHeartbeats 4000000
set_option linter.unusedSimpArgs false
set_option linter.unusedVariables false
def refW (p : Pc) : Bool := decide (p.kd ≥ 0) && (decide (p.kd ≤ 255) && (decide (p.ln ≥ 0) && (decide (p.ln ≤ 4000) && (decide (p.sq ≥ 0) && (decide (p.sq < 65536) && (decide (p.ofs ≥ 0) && (decide ((p.pt.length : Int) ≤ 1100) && (decide (p.ofs ≤ p.ln) && (decide (p.ofs + (p.pt.length : Int) ≤ p.ln) && (((p.pt.length : Int) == 0) == (p.ln == 0)))))))))))
theorem refW_eq {p : Pc} (h : 0 ≤ p.kd ∧ p.kd ≤ 255 ∧ 0 ≤ p.ln ∧ 0 ≤ p.sq ∧ p.sq < 65536 ∧ 0 ≤ p.ofs) : refW p = wholeB p := by
 have e : (p.pt.length == 0) = ((p.pt.length : Int) == 0) := by rw [Bool.eq_iff_iff]; simp
 unfold refW wholeB
 rw [e]
 generalize (((p.pt.length : Int) == 0) == (p.ln == 0)) = B
 rw [Bool.eq_iff_iff]
 simp only [Bool.and_eq_true, decide_eq_true_eq]
 constructor
 · rintro ⟨_, _, _, h4, _, _, _, h8, _, h10, hB⟩
   exact ⟨h4, by omega, h10, hB⟩
 · rintro ⟨h4, h8, h10, hB⟩
   refine ⟨by omega, by omega, by omega, h4, by omega, by omega, by omega, by omega, by omega, h10, hB⟩
theorem w52 (p : Pc) : FTL Tryz.prog 52 [.agg p.l] [] 0 (.b (refW p)) [] 0 := by
 obtain ⟨kd, ln, sq, ofs, pt⟩ := p
 unfold refW
 simp only [Pc.l]
 refine FTL.of_iw (cx := cxT []) Sound.nil mo Tryz.func52 i52_eq (by simp [i52]) (iw_of_jw ?_)
 dsimp only [i52]
 cases a0 : decide (kd ≥ 0)
 · simp (maxSteps := 400000) only [go_sem, Bool.false_and, Bool.true_and, a0, simprocAttr]
   exact Ends.pureE rfl rfl
 cases a1 : decide (kd ≤ 255)
 · simp (maxSteps := 400000) only [go_sem, Bool.false_and, Bool.true_and, a0, a1, simprocAttr]
   exact Ends.pureE rfl rfl
 cases a2 : decide (ln ≥ 0)
 · simp (maxSteps := 400000) only [go_sem, Bool.false_and, Bool.true_and, a0, a1, a2, simprocAttr]
   exact Ends.pureE rfl rfl
 cases a3 : decide (ln ≤ 4000)
 · simp (maxSteps := 400000) only [go_sem, Bool.false_and, Bool.true_and, a0, a1, a2, a3, simprocAttr]
   exact Ends.pureE rfl rfl
 cases a4 : decide (sq ≥ 0)
 · simp (maxSteps := 400000) only [go_sem, Bool.false_and, Bool.true_and, a0, a1, a2, a3, a4, simprocAttr]
   exact Ends.pureE rfl rfl
 cases a5 : decide (sq < 65536)
 · simp (maxSteps := 400000) only [go_sem, Bool.false_and, Bool.true_and, a0, a1, a2, a3, a4, a5, simprocAttr]
   exact Ends.pureE rfl rfl
 cases a6 : decide (ofs ≥ 0)
 · simp (maxSteps := 400000) only [go_sem, Bool.false_and, Bool.true_and, a0, a1, a2, a3, a4, a5, a6, simprocAttr]
   exact Ends.pureE rfl rfl
 cases a7 : decide ((pt.length : Int) ≤ 1100)
 · simp (maxSteps := 400000) only [go_sem, Bool.false_and, Bool.true_and, a0, a1, a2, a3, a4, a5, a6, a7, simprocAttr]
   exact Ends.pureE rfl rfl
 cases a8 : decide (ofs ≤ ln)
 · simp (maxSteps := 400000) only [go_sem, Bool.false_and, Bool.true_and, a0, a1, a2, a3, a4, a5, a6, a7, a8, simprocAttr]
   exact Ends.pureE rfl rfl
 have w1 : IntKind.i64.wrap (ofs + (pt.length : Int)) = ofs + (pt.length : Int) := by
  have := of_decide_eq_true a6; have := of_decide_eq_true a7; have := of_decide_eq_true a8; have := of_decide_eq_true a3
  exact wrapL (by omega) (by omega)
 cases a9 : decide (ofs + (pt.length : Int) ≤ ln)
 · simp (maxSteps := 400000) only [go_sem, w1, Bool.false_and, Bool.true_and, a0, a1, a2, a3, a4, a5, a6, a7, a8, a9, simprocAttr]
   exact Ends.pureE rfl rfl
 simp (maxSteps := 400000) only [go_sem, w1, Bool.false_and, Bool.true_and, a0, a1, a2, a3, a4, a5, a6, a7, a8, a9, simprocAttr]
 exact Ends.pureE rfl rfl
def k52 : Ct
 | [.agg c], _, n => (pc5 c).bind fun p => some (true, { v := .b (refW p), n })
 | _, _, _ => none
theorem s52 : SoundAt Tryz.prog 52 k52 := fun args h n c E hc ht => by
 unfold k52 at hc
 split at hc
 · simp only [Option.bind_eq_some_iff] at hc
   obtain ⟨p, hp, he⟩ := hc
   cases he
   rw [pc5_eq hp]
   exact CallOK.pure (by kernel_rfl) rfl rfl (w52 p) _ _
 · cases hc
theorem note_eq (kd sq : Int) (bd : List UInt8) : noteB ⟨kd, sq, bd⟩ = (decide (kd ≥ 0) && (decide (kd ≤ 255) && (decide (sq ≥ 0) && (decide (sq < 65536) && decide ((bd.length : Int) ≤ 4000))))) := by
 have e1 : decide (sq < 65536) = decide (sq ≤ 65535) := by rw [decide_eq_decide]; omega
 have e2 : decide ((bd.length : Int) ≤ 4000) = decide (bd.length ≤ 4000) := by rw [decide_eq_decide]; omega
 unfold noteB inW
 rw [e1, e2, Bool.and_assoc, Bool.and_assoc]
theorem w46 (x : Nt) : FTL Tryz.prog 46 [.agg x.l] [] 0 (.b (noteB x)) [] 0 := by
 obtain ⟨kd, sq, bd⟩ := x
 rw [note_eq]
 simp only [Nt.l]
 refine FTL.of_iw (cx := cxT []) Sound.nil mo Tryz.func46 i46_eq (by simp [i46]) (iw_of_jw ?_)
 dsimp only [i46]
 cases a0 : decide (kd ≥ 0)
 · simp (maxSteps := 400000) only [go_sem, Bool.false_and, Bool.true_and, a0, simprocAttr]
   exact Ends.pureE rfl rfl
 cases a1 : decide (kd ≤ 255)
 · simp (maxSteps := 400000) only [go_sem, Bool.false_and, Bool.true_and, a0, a1, simprocAttr]
   exact Ends.pureE rfl rfl
 cases a2 : decide (sq ≥ 0)
 · simp (maxSteps := 400000) only [go_sem, Bool.false_and, Bool.true_and, a0, a1, a2, simprocAttr]
   exact Ends.pureE rfl rfl
 cases a3 : decide (sq < 65536)
 · simp (maxSteps := 400000) only [go_sem, Bool.false_and, Bool.true_and, a0, a1, a2, a3, simprocAttr]
   exact Ends.pureE rfl rfl
 simp (maxSteps := 400000) only [go_sem, Bool.false_and, Bool.true_and, a0, a1, a2, a3, simprocAttr]
 exact Ends.pureE rfl rfl
def k46 : Ct
 | [.agg c], _, n => (nt3 c).bind fun x => some (true, { v := .b (noteB x), n })
 | _, _, _ => none
theorem s46 : SoundAt Tryz.prog 46 k46 := fun args h n c E hc ht => by
 unfold k46 at hc
 split at hc
 · simp only [Option.bind_eq_some_iff] at hc
   obtain ⟨x, hx, he⟩ := hc
   cases he
   rw [nt3_eq hx]
   exact CallOK.pure (by kernel_rfl) rfl rfl (w46 x) _ _
 · cases hc
def TR1 : List (Nat × Ct) := [(46, k46)]
theorem hTR1 : Sound Tryz.prog (cxT TR1) := Sound.cons s46 Sound.nil
theorem w13 (x : Nt) : FTL Tryz.prog 13 [.agg x.l] [] 0 (.i .i64 (bif noteB x then 0 else 190)) [] 0 := by
 have q : ∀ (h : Hp) n, k46 [.agg x.l] h n = some (true, { v := .b (noteB x), n }) := fun h n => by simp only [k46, nt3_l, Option.bind_some]
 obtain ⟨kd, sq, bd⟩ := x
 simp only [Nt.l] at q ⊢
 generalize noteB ⟨kd, sq, bd⟩ = B at *
 refine FTL.of_iw hTR1 mo Tryz.func13 i13_eq (by simp [i13]) (iw_of_jw ?_)
 dsimp only [i13, TR1]
 cases B
 · simp (maxSteps := 400000) only [go_sem, q, simprocAttr]
   exact Ends.pureE rfl rfl
 · simp (maxSteps := 400000) only [go_sem, q, simprocAttr]
   exact Ends.pureE rfl rfl
def k13 : Ct
 | [.agg c], _, n => (nt3 c).bind fun x => some (true, { v := .i .i64 (bif noteB x then 0 else 190), n })
 | _, _, _ => none
theorem s13 : SoundAt Tryz.prog 13 k13 := fun args h n c E hc ht => by
 unfold k13 at hc
 split at hc
 · simp only [Option.bind_eq_some_iff] at hc
   obtain ⟨x, hx, he⟩ := hc
   cases he
   rw [nt3_eq hx]
   exact CallOK.pure (by kernel_rfl) rfl rfl (w13 x) _ _
 · cases hc
def octB (p : Pc) : Bool := pcB p && (decide (p.kd ≤ 9223372036854775807) && (decide (p.ln ≤ 9223372036854775807) && (decide (p.sq ≤ 9223372036854775807) && decide (p.ofs ≤ 9223372036854775807))))
def TR2 : List (Nat × Ct) := [(96, k96)]
theorem hTR2 : Sound Tryz.prog (cxT TR2) := Sound.cons s96 Sound.nil
theorem w77 (p : Pc) (hp : octB p = true) : FTL Tryz.prog 77 [.agg p.l] [] 0 (.s (pcO p)) [] 0 := by
 simp only [octB, Bool.and_eq_true, decide_eq_true_eq] at hp
 obtain ⟨hp, g1, g2, g3, g4⟩ := hp
 obtain ⟨h1, h2, h3, h4, h5⟩ := pcB_t hp
 have kp : ∀ {a k : Int} (ha : 0 ≤ a) (hb : a ≤ 9223372036854775807) (hk : 1 ≤ k ∧ k ≤ 3) (h : Hp) (n : Nat), k96 [.i .i64 a, .i .i64 k] h n = some (true, { v := .s (fld a.toNat k.toNat), n }) := fun {a k} ha hb hk h n => by
  simp only [k96, decide_eq_true (show 0 ≤ a ∧ a ≤ 9223372036854775807 ∧ 1 ≤ k ∧ k ≤ 3 from ⟨ha, hb, hk⟩)]
 have f1 := fun h n => kp h1 g1 (k := 1) (by decide) h n
 have f2 := fun h n => kp h2 g2 (k := 3) (by decide) h n
 have f3 := fun h n => kp h3 g3 (k := 2) (by decide) h n
 have f4 := fun h n => kp h4 g4 (k := 3) (by decide) h n
 have f5 := fun h n => kp (a := (p.pt.length : Int)) (by omega) (by omega) (k := 3) (by decide) h n
 simp only [Int.reduceToNat, Int.toNat_natCast] at f1 f2 f3 f4 f5
 have hO : pcO p = fld p.kd.toNat 1 ++ fld p.ln.toNat 3 ++ fld p.sq.toNat 2 ++ fld p.ofs.toNat 3 ++ fld p.pt.length 3 ++ p.pt := rfl
 have L1 := fld_len p.kd.toNat 1
 have L2 := fld_len p.ln.toNat 3
 have L3 := fld_len p.sq.toNat 2
 have L4 := fld_len p.ofs.toNat 3
 have L5 := fld_len p.pt.length 3
 rw [hO]
 obtain ⟨kd, ln, sq, ofs, pt⟩ := p
 dsimp only at *
 have lp : decide (1 + 3 + 2 + 3 + 3 + pt.length ≤ 9223372036854775807) = true := decide_eq_true (by omega)
 have lp2 : decide (12 + pt.length ≤ 9223372036854775807) = true := decide_eq_true (by omega)
 generalize fld kd.toNat 1 = o1 at *
 generalize fld ln.toNat 3 = o2 at *
 generalize fld sq.toNat 2 = o3 at *
 generalize fld ofs.toNat 3 = o4 at *
 generalize fld pt.length 3 = o5 at *
 refine FTL.of_iw hTR2 mo Tryz.func77 i77_eq (by simp [i77]) (iw_of_jw ?_)
 dsimp only [i77, TR2]
 simp (maxSteps := 400000) only [go_sem, Pc.l, f1, f2, f3, f4, f5, L1, L2, L3, L4, L5, lp, lp2, List.length_append, simprocAttr]
 exact Ends.pureE rfl (by simp only [List.append_assoc])
def k77 : Ct
 | [.agg c], _, n => (pc5 c).bind fun p => some (octB p, { v := .s (pcO p), n })
 | _, _, _ => none
theorem s77 : SoundAt Tryz.prog 77 k77 := fun args h n c E hc ht => by
 unfold k77 at hc
 split at hc
 · simp only [Option.bind_eq_some_iff] at hc
   obtain ⟨p, hp, he⟩ := hc
   cases he
   rw [pc5_eq hp]
   exact CallOK.pure (by kernel_rfl) rfl rfl (w77 p ht) _ _
 · cases hc
end Go.Proofs.Flz
end
