/- Contracts of 'fits' and media.Check. -/
import Derived.Test.YtndbgcmgjnjnhaaPicIRW
import Derived.Test.YtndbgcmgjnjnhaaPicC4
import Derived.Test.YtndbgcmgjnjnhaaAbFzs
namespace Go.Proofs.Pic
open Go.Ab
set_option maxRecDepth 100000
set_option maxHeartbeats 4000000
set_option linter.unusedSimpArgs false
set_option linter.unusedVariables false
theorem w82 (n bits : Int) (hb : 0 ≤ bits ∧ bits ≤ 63) : FTL Try.prog 82 [.i .i64 n, .fp [.i .i64 bits] 0] [] 0 (.b !(fitB bits n)) [] 0 := by
 refine FTL.of_iw Sound.nil mo Try.func82 i82_eq (by simp [i82]) (iw_of_jw ?_)
 dsimp only [i82]
 have c1 : decide (0 ≤ bits) = true := decide_eq_true hb.1
 cases h1 : decide (n < 0)
 · have h1' : decide (0 ≤ n) = true := decide_eq_true (by simpa using h1)
   simp (maxSteps := 400000) only [go_sem, h1, c1, simprocAttr]
   have hm : Nat.min bits.toNat 64 = bits.toNat := Nat.min_eq_left (by omega)
   have hi : bits ≤ 64 := by omega
   exact Ends.pureE rfl (by simp [fitB, h1', bne, hm, hi])
 · have h1' : decide (0 ≤ n) = false := decide_eq_false (by simpa using h1)
   simp (maxSteps := 400000) only [go_sem, h1, c1, simprocAttr]
   exact Ends.pureE rfl (by simp [fitB, h1'])
theorem w86 (l : List Int) (bits : Int) (hb : 0 ≤ bits ∧ bits ≤ 63) (hl : l.length ≤ 9223372036854775807) : FTL Try.prog 86 [.fz (rows int1 l) l.length, .fn 82 [.fp [.i .i64 bits] 0]] [] 0 (.i .i64 (ixf (fun n => !fitB bits n) l 0)) [] 0 :=
 ixf_fz1 (el := fun n => .i .i64 n) mo Try.func86 i86_eq (by kernel_rfl) (fun _ => rfl) rfl (fun _ => rfl) (fun a b h => by cases h; rfl) l hl (fun n _ => w82 n bits hb)
theorem w81 (l : List Int) (bits : Int) (hb : 0 ≤ bits ∧ bits ≤ 63) (hl : l.length ≤ 9223372036854775807) : FTL Try.prog 81 [.fz (rows int1 l) l.length, .fn 82 [.fp [.i .i64 bits] 0]] [] 0 (.b (l.any fun n => !fitB bits n)) [] 0 :=
 cof_fz mo Try.func81 i81_eq (by kernel_rfl) (rows_bel int1_bel) rfl (w86 l bits hb hl) (ixf_neg _ l 0 (by omega))
def k81 : Ct
 | [x, .fn 82 [.p b 0]], h, n => vwK h 1 x fun rd m cs ok => (hget h b).bind fun kb => (oneB kb).bind fun bits => (unrows 1 intV m cs).bind fun l =>
  some (ok && decide (0 ≤ bits ∧ bits ≤ 63) && decide (m ≤ 9223372036854775807), { v := .b (l.any fun n => !fitB bits n), n, rd := b :: rd })
 | _, _, _ => none
theorem s81 : SoundAt Try.prog 81 k81 := fun args h n c E hc ht => by
 unfold k81 at hc
 split at hc
 · rename_i x b
   rw [vwK_eq] at hc
   simp only [Option.bind_eq_some_iff] at hc
   obtain ⟨⟨rd, m, cs, ok⟩, hv, kb, hkb, bits, hbits, l, hl, he⟩ := hc
   cases he
   simp only [Bool.and_eq_true, decide_eq_true_eq] at ht
   obtain ⟨⟨rfl, hb⟩, hm⟩ := ht
   obtain ⟨rfl, hlm⟩ := unrows_eq (f := int1) intV_eq hl
   subst hlm
   refine CallOK.viewG (by kernel_rfl) (argsF := [.fz (rows int1 l) l.length, .fn 82 [.fp kb.cells 0]]) ⟨vwK_sub hv (rows_bel int1_bel) (fun c hc => by rw [inl_cons]; split; rfl; exact hc), VwV.fn ⟨VwV.p (by simp only [only, inl_cons, if_true, cond_true]; exact hkb) ?_, trivial⟩, trivial⟩ rfl ?_
   · rw [oneB_eq hbits]; rfl
   · rw [oneB_eq hbits]; exact w81 l bits hb hm
 · cases hc
def TM1 : List (Nat × Ct) := [(81, k81)]
theorem hTM1 : Sound Try.prog (cxT TM1) := Sound.cons s81 Sound.nil
theorem w73 (l : List Int) (bits : Int) (hb : 0 ≤ bits ∧ bits ≤ 63) (hl : l.length ≤ 9223372036854775807) : FTL Try.prog 73 [.i .i64 bits, .fz (rows int1 l) l.length] [] 0 (.b (l.all (fitB bits))) [] 0 := by
 refine FTL.of_iw hTM1 mo Try.func73 i73_eq (by simp [i73]) (iw_of_jw ?_)
 dsimp only [i73, TM1]
 have hu : unrows 1 intV l.length (rows int1 l) = some l := unrows_rows int1_len (fun _ => rfl) l
 have c1 : decide (0 ≤ bits ∧ bits ≤ 63) = true := decide_eq_true hb
 have c2 : decide (l.length ≤ 9223372036854775807) = true := decide_eq_true hl
 have hvw : ∀ (h : Hp) (k : List Nat → Nat → List AV → Bool → Option (Bool × Eff)), vwK h 1 (.fz (rows int1 l) l.length) k = k [] l.length (rows int1 l) true := fun h k => vwK_rows int1_len
 simp (maxSteps := 400000) only [go_sem, k81, hvw, hu, c1, c2, oneB, simprocAttr]
 refine Ends.pureE rfl (congrArg _ ?_)
 rw [List.any_eq_not_all_not]
 simp
def k73 : Ct
 | [.i .i64 bits, x], h, n => vwK h 1 x fun rd m cs ok => (unrows 1 intV m cs).bind fun l => some (ok && decide (0 ≤ bits ∧ bits ≤ 63) && decide (m ≤ 9223372036854775807), { v := .b (l.all (fitB bits)), n, rd })
 | _, _, _ => none
theorem s73 : SoundAt Try.prog 73 k73 := fun args h n c E hc ht => by
 unfold k73 at hc
 split at hc
 · rename_i bits x
   rw [vwK_eq] at hc
   simp only [Option.bind_eq_some_iff] at hc
   obtain ⟨⟨rd, m, cs, ok⟩, hv, l, hl, he⟩ := hc
   cases he
   simp only [Bool.and_eq_true, decide_eq_true_eq] at ht
   obtain ⟨⟨rfl, hb⟩, hm⟩ := ht
   obtain ⟨rfl, hlm⟩ := unrows_eq (f := int1) intV_eq hl
   subst hlm
   exact CallOK.viewG (by kernel_rfl) (argsF := [.i .i64 bits, .fz (rows int1 l) l.length]) ⟨VwV.same rfl, vwK_sub hv (rows_bel int1_bel) (fun c hc => hc), trivial⟩ rfl (w73 l bits hb hm)
 · cases hc
def TM2 : List (Nat × Ct) := [(73, k73)]
theorem hTM2 : Sound Try.prog (cxT TM2) := Sound.cons s73 Sound.nil
end Go.Proofs.Pic
