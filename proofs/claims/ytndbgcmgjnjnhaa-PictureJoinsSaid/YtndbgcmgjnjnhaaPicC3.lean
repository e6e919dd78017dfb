/- Contracts of chapter 40: Decode, Put and Edit.Of. -/
import Derived.Test.YtndbgcmgjnjnhaaPicC2
namespace Go.Proofs.Pic
open Go.Ab
set_option maxRecDepth 100000
set_option maxHeartbeats 2000000
set_option linter.unusedSimpArgs false
set_option linter.unusedVariables false
def shOf (a b c d e : UInt8) : Sh where
 st := (a.toNat : Int) / 64 % 2 == 1
 ky := (a.toNat : Int) / 32 % 2 == 1
 sy := (a.toNat : Int) / 16 % 2 == 1
 la := (a.toNat : Int) / 8 % 2 == 1
 id := 256 * ((b.toNat : Int) % 128) + c.toNat
 ba := d.toNat
 te := (e.toNat : Int) / 64
 sp := (e.toNat : Int) / 16 % 4
def fine (a b c d e : UInt8) : Bool := decide (a.toNat / 128 = 1 ∧ a.toNat % 8 = 0) && (decide (b.toNat ≥ 128) && (decide (e.toNat % 16 = 0) && (shOf a b c d e).good))
def zSh : Sh := ⟨false, false, false, false, 0, 0, 0, 0⟩
def dec : List UInt8 → Sh × List UInt8 × Int
 | a :: b :: c :: d :: e :: r => if fine a b c d e then (shOf a b c d e, r, 0) else (zSh, [], 5)
 | _ => (zSh, [], 7)
def decV (x : Sh × List UInt8 × Int) : AV := .tup [.agg x.1.l, .s x.2.1, .i .i64 x.2.2]
def P256 (p : Nat → Bool) : Bool := (List.range 256).all p
theorem p256 {p : Nat → Bool} (h : P256 p = true) (a : UInt8) : p a.toNat = true := by
 simp only [P256, List.all_eq_true, List.mem_range] at h
 exact h _ a.toNat_lt
theorem b64 (a : UInt8) : (andI .u8 (a.toNat : Int) 64 != 0) = ((a.toNat : Int) / 64 % 2 == 1) := by
 simpa using p256 (p := fun n => (andI .u8 (n : Int) 64 != 0) == ((n : Int) / 64 % 2 == 1)) (by decide +kernel) a
theorem b32 (a : UInt8) : (andI .u8 (a.toNat : Int) 32 != 0) = ((a.toNat : Int) / 32 % 2 == 1) := by
 simpa using p256 (p := fun n => (andI .u8 (n : Int) 32 != 0) == ((n : Int) / 32 % 2 == 1)) (by decide +kernel) a
theorem b16 (a : UInt8) : (andI .u8 (a.toNat : Int) 16 != 0) = ((a.toNat : Int) / 16 % 2 == 1) := by
 simpa using p256 (p := fun n => (andI .u8 (n : Int) 16 != 0) == ((n : Int) / 16 % 2 == 1)) (by decide +kernel) a
theorem b8 (a : UInt8) : (andI .u8 (a.toNat : Int) 8 != 0) = ((a.toNat : Int) / 8 % 2 == 1) := by
 simpa using p256 (p := fun n => (andI .u8 (n : Int) 8 != 0) == ((n : Int) / 8 % 2 == 1)) (by decide +kernel) a
theorem b127 (a : UInt8) : IntKind.i64.wrap (andI .u8 (a.toNat : Int) 127) = (a.toNat : Int) % 128 := by
 simpa using p256 (p := fun n => IntKind.i64.wrap (andI .u8 (n : Int) 127) == (n : Int) % 128) (by decide +kernel) a
theorem b135 (a : UInt8) : (andI .u8 (a.toNat : Int) 135 != 128) = !decide (a.toNat / 128 = 1 ∧ a.toNat % 8 = 0) := by
 simpa using p256 (p := fun n => (andI .u8 (n : Int) 135 != 128) == !decide (n / 128 = 1 ∧ n % 8 = 0)) (by decide +kernel) a
theorem b15 (a : UInt8) : (andI .u8 (a.toNat : Int) 15 != 0) = !decide (a.toNat % 16 = 0) := by
 simpa using p256 (p := fun n => (andI .u8 (n : Int) 15 != 0) == !decide (n % 16 = 0)) (by decide +kernel) a
theorem s6 (a : UInt8) : IntKind.i64.wrap ((a.toNat : Int).fdiv 64) = (a.toNat : Int) / 64 := by
 simpa using p256 (p := fun n => IntKind.i64.wrap ((n : Int).fdiv 64) == (n : Int) / 64) (by decide +kernel) a
theorem s4 (a : UInt8) : IntKind.i64.wrap (andI .u8 ((a.toNat : Int).fdiv 16) 3) = (a.toNat : Int) / 16 % 4 := by
 simpa using p256 (p := fun n => IntKind.i64.wrap (andI .u8 ((n : Int).fdiv 16) 3) == (n : Int) / 16 % 4) (by decide +kernel) a
theorem wu8 (a : UInt8) : IntKind.i64.wrap (a.toNat : Int) = (a.toNat : Int) := by
 have := a.toNat_lt
 exact wrap64 _ (by omega) (by omega)
theorem or8 : ∀ (h : Nat) (l : Nat), h < 128 → l < 256 → orI .i64 (IntKind.i64.wrap ((h : Int) * 256)) (l : Int) = 256 * (h : Int) + l := by
 intro h l hh hl
 have e1 : IntKind.i64.wrap ((h : Int) * 256) = ((h * 256 : Nat) : Int) := by rw [wrap64 _ (by omega) (by omega)]; omega
 rw [e1]
 unfold orI
 have e2 : (BitVec.ofInt IntKind.i64.bits ((h * 256 : Nat) : Int) ||| BitVec.ofInt IntKind.i64.bits (l : Int)).toNat = h * 256 + l := by
  show (BitVec.ofInt 64 ((h * 256 : Nat) : Int) ||| BitVec.ofInt 64 (l : Int)).toNat = h * 256 + l
  simp only [BitVec.toNat_or, BitVec.ofInt_natCast, BitVec.toNat_ofNat]
  rw [Nat.mod_eq_of_lt (by omega), Nat.mod_eq_of_lt (by omega)]
  have := Nat.two_pow_add_eq_or_of_lt (i := 8) (b := l) (by omega) h
  rw [Nat.mul_comm h 256]
  exact this.symm
 rw [e2, wrap64 _ (by omega) (by omega)]
 omega
theorem or8' (b c : UInt8) : orI .i64 (IntKind.i64.wrap ((b.toNat : Int) % 128 * 256)) (c.toNat : Int) = 256 * ((b.toNat : Int) % 128) + c.toNat := by
 have h := or8 (b.toNat % 128) c.toNat (by omega) c.toNat_lt
 have e : ((b.toNat % 128 : Nat) : Int) = (b.toNat : Int) % 128 := by omega
 rw [e] at h
 exact h
theorem dec_short {l : List UInt8} (h : l.length < 5) : dec l = (zSh, [], 7) := by
 match l, h with
 | [], _ => rfl
 | [_], _ => rfl
 | [_, _], _ => rfl
 | [_, _, _], _ => rfl
 | [_, _, _, _], _ => rfl
 | _ :: _ :: _ :: _ :: _ :: _, h => exact absurd h (by simp)
theorem five {l : List UInt8} (h : ¬ l.length < 5) : ∃ a b c d e r, l = a :: b :: c :: d :: e :: r := by
 match l, h with
 | a :: b :: c :: d :: e :: r, _ => exact ⟨a, b, c, d, e, r, rfl⟩
 | [], h => exact absurd (by simp) h
 | [_], h => exact absurd (by simp) h
 | [_, _], h => exact absurd (by simp) h
 | [_, _, _], h => exact absurd (by simp) h
 | [_, _, _, _], h => exact absurd (by simp) h
theorem w20 (l : List UInt8) : FTL Try.prog 20 [.s l] [] 0 (decV (dec l)) [] 0 := by
 refine FTL.of_iw hT2 mo Try.func20 i20_eq (by simp [i20]) (iw_of_jw ?_)
 dsimp only [i20, T2]
 by_cases hl : l.length < 5
 · have hl' : (l.length : Int) < 5 := by omega
   simp only [go_sem, hl', ↓reduceIte, beq_self_eq_true, bne_self_eq_false, Int.reduceAdd, Int.reduceSub, Int.reduceMul, Int.reduceNeg, Int.reduceEq, Int.reduceNe, Int.cast_ofNat_Int, Int.lt_irrefl, Int.le_refl, Nat.reduceEqDiff, Nat.reduceLeDiff, Nat.reduceLT, Int.reducePow, IntKind.bits, Nat.reduceAdd, Nat.reduceMul, Nat.reduceSub, Int.reduceBNe, Int.reduceBEq, Int.reduceLE, Int.reduceLT, Int.reduceToNat, reduceCtorEq, Nat.zero_ne_one, Nat.one_ne_zero, and_self, and_true, true_and, Option.getD_some, Option.isSome_some]
   rw [dec_short hl]
   exact Ends.pure rfl
 · obtain ⟨a, b, c, d, e, r, rfl⟩ := five hl
   have n5 : ((r.length + 1 + 1 + 1 + 1 + 1 : Nat) : Int) = (r.length : Int) + 5 := by omega
   have c0 : decide ((0 : Int) < (r.length : Int) + 5) = true := decide_eq_true (by omega)
   have c1 : decide ((1 : Int) < (r.length : Int) + 5) = true := decide_eq_true (by omega)
   have c2 : decide ((2 : Int) < (r.length : Int) + 5) = true := decide_eq_true (by omega)
   have c3 : decide ((3 : Int) < (r.length : Int) + 5) = true := decide_eq_true (by omega)
   have c4 : decide ((4 : Int) < (r.length : Int) + 5) = true := decide_eq_true (by omega)
   have c5 : decide ((r.length : Int) + 5 < 5) = false := decide_eq_false (by omega)
   have ho := or8' b c
   simp only [go_sem, k14, b64, b32, b16, b8, b127, b135, b15, s6, s4, wu8, n5, c0, c1, c2, c3, c4, c5, ho, List.drop_zero, List.drop_succ_cons, ↓reduceIte, beq_self_eq_true, bne_self_eq_false, Int.reduceAdd, Int.reduceSub, Int.reduceMul, Int.reduceNeg, Int.reduceEq, Int.reduceNe, Int.cast_ofNat_Int, Int.lt_irrefl, Int.le_refl, Nat.reduceEqDiff, Nat.reduceLeDiff, Nat.reduceLT, Int.reducePow, IntKind.bits, Nat.reduceAdd, Nat.reduceMul, Nat.reduceSub, Int.reduceBNe, Int.reduceBEq, Int.reduceLE, Int.reduceLT, Int.reduceToNat, reduceCtorEq, Nat.zero_ne_one, Nat.one_ne_zero, and_self, and_true, true_and, Option.getD_some, Option.isSome_some]
   have hid : ∀ x : Prop, (x ↔ fine a b c d e = true) → (x → dec (a :: b :: c :: d :: e :: r) = (shOf a b c d e, r, 0)) ∧ (¬ x → dec (a :: b :: c :: d :: e :: r) = (zSh, [], 5)) := fun x hx => by
    simp only [dec]
    constructor
    · intro h; rw [if_pos (hx.1 h)]
    · intro h; rw [if_neg (fun h' => h (hx.2 h'))]
   repeat' (first | refine spB_i (fun _ => ?_) (fun _ => ?_) | refine andB_i ?_ ?_)
   all_goals first
    | (refine Ends.pureE rfl ?_
       rw [(hid (fine a b c d e = true) Iff.rfl).2 (by simp only [fine, shOf]; grind)]
       rfl)
    | (refine Ends.pureE rfl ?_
       rw [(hid (fine a b c d e = true) Iff.rfl).1 (by simp only [fine, shOf]; grind)]
       rfl)
    | grind
theorem ofNat_eq {n : Nat} {a : UInt8} : UInt8.ofNat n = a ↔ n % 256 = a.toNat := by
 rw [← UInt8.toNat_inj]; simp
theorem enc_shOf (a b c d e : UInt8) : ((shOf a b c d e).enc == [a, b, c, d, e]) = (decide (a.toNat / 128 = 1 ∧ a.toNat % 8 = 0) && (decide (b.toNat ≥ 128) && decide (e.toNat % 16 = 0))) := by
 have h1 : (UInt8.ofNat (bits4 (shOf a b c d e).st (shOf a b c d e).ky (shOf a b c d e).sy (shOf a b c d e).la).toNat = a) ↔ (a.toNat / 128 = 1 ∧ a.toNat % 8 = 0) := by
  rw [ofNat_eq]
  have := p256 (p := fun n => (decide ((bits4 ((n : Int) / 64 % 2 == 1) ((n : Int) / 32 % 2 == 1) ((n : Int) / 16 % 2 == 1) ((n : Int) / 8 % 2 == 1)).toNat % 256 = n)) == decide (n / 128 = 1 ∧ n % 8 = 0)) (by decide +kernel) a
  simp only [beq_iff_eq, decide_eq_decide] at this
  exact this
 have hb := b.toNat_lt
 have hc := c.toNat_lt
 have hd := d.toNat_lt
 have he := e.toNat_lt
 have h2 : (UInt8.ofNat (128 + (shOf a b c d e).id / 256).toNat = b) ↔ b.toNat ≥ 128 := by
  rw [ofNat_eq]; simp only [shOf]; omega
 have h3 : (UInt8.ofNat ((shOf a b c d e).id % 256).toNat = c) := by
  rw [ofNat_eq]; simp only [shOf]; omega
 have h4 : (UInt8.ofNat ((shOf a b c d e).ba).toNat = d) := by
  rw [ofNat_eq]; simp only [shOf]; omega
 have h5 : (UInt8.ofNat (64 * (shOf a b c d e).te + 16 * (shOf a b c d e).sp).toNat = e) ↔ e.toNat % 16 = 0 := by
  rw [ofNat_eq]; simp only [shOf]; omega
 rw [Bool.eq_iff_iff]
 simp only [Sh.enc, beq_iff_eq, List.cons.injEq, and_true, Bool.and_eq_true, decide_eq_true_eq]
 rw [h1, h2, h5]
 simp [h3, h4]
def T4 : List (Nat × Ct) := [(16, k16), (17, k45)]
theorem hT4 : Sound Try.prog (cxT T4) := Sound.cons s16 (Sound.cons s17 Sound.nil)
theorem r64 (a : UInt8) : (IntKind.wrap .u8 ((a.toNat : Int).tdiv 64)).tmod 2 = (a.toNat : Int) / 64 % 2 := by
 simpa using p256 (p := fun n => (IntKind.wrap .u8 ((n : Int).tdiv 64)).tmod 2 == (n : Int) / 64 % 2) (by decide +kernel) a
theorem r32 (a : UInt8) : (IntKind.wrap .u8 ((a.toNat : Int).tdiv 32)).tmod 2 = (a.toNat : Int) / 32 % 2 := by
 simpa using p256 (p := fun n => (IntKind.wrap .u8 ((n : Int).tdiv 32)).tmod 2 == (n : Int) / 32 % 2) (by decide +kernel) a
theorem r16 (a : UInt8) : (IntKind.wrap .u8 ((a.toNat : Int).tdiv 16)).tmod 2 = (a.toNat : Int) / 16 % 2 := by
 simpa using p256 (p := fun n => (IntKind.wrap .u8 ((n : Int).tdiv 16)).tmod 2 == (n : Int) / 16 % 2) (by decide +kernel) a
theorem r8 (a : UInt8) : (IntKind.wrap .u8 ((a.toNat : Int).tdiv 8)).tmod 2 = (a.toNat : Int) / 8 % 2 := by
 simpa using p256 (p := fun n => (IntKind.wrap .u8 ((n : Int).tdiv 8)).tmod 2 == (n : Int) / 8 % 2) (by decide +kernel) a
theorem rid (b c : UInt8) : IntKind.i64.wrap (IntKind.i64.wrap (256 * IntKind.i64.wrap ((b.toNat : Int).tmod 128)) + (c.toNat : Int)) = 256 * ((b.toNat : Int) % 128) + c.toNat := by
 have h1 := b.toNat_lt
 have h2 := c.toNat_lt
 rw [Int.tmod_eq_emod_of_nonneg (by omega), wrap64 ((b.toNat : Int) % 128) (by omega) (by omega), wrap64 (256 * ((b.toNat : Int) % 128)) (by omega) (by omega), wrap64 _ (by omega) (by omega)]
theorem rte (a : UInt8) : IntKind.i64.wrap (IntKind.wrap .u8 ((a.toNat : Int).tdiv 64)) = (a.toNat : Int) / 64 := by
 simpa using p256 (p := fun n => IntKind.i64.wrap (IntKind.wrap .u8 ((n : Int).tdiv 64)) == (n : Int) / 64) (by decide +kernel) a
theorem rsp (a : UInt8) : IntKind.i64.wrap ((IntKind.wrap .u8 ((a.toNat : Int).tdiv 16)).tmod 4) = (a.toNat : Int) / 16 % 4 := by
 simpa using p256 (p := fun n => IntKind.i64.wrap ((IntKind.wrap .u8 ((n : Int).tdiv 16)).tmod 4) == (n : Int) / 16 % 4) (by decide +kernel) a
attribute [local congr] spB_congrC andB_congrC in
theorem w21 (l : List UInt8) : FTL Try.prog 21 [.s l] [] 0 (decV (dec l)) [] 0 := by
 refine FTL.of_iw hT4 mo Try.func21 i21_eq (by simp [i21]) (iw_of_jw ?_)
 dsimp only [i21, T4]
 by_cases hl : l.length < 5
 · have hl' : (l.length : Int) < 5 := by omega
   simp only [go_sem, hl', ↓reduceIte, beq_self_eq_true, bne_self_eq_false, Int.reduceAdd, Int.reduceSub, Int.reduceMul, Int.reduceNeg, Int.reduceEq, Int.reduceNe, Int.cast_ofNat_Int, Int.lt_irrefl, Int.le_refl, Nat.reduceEqDiff, Nat.reduceLeDiff, Nat.reduceLT, Int.reducePow, IntKind.bits, Nat.reduceAdd, Nat.reduceMul, Nat.reduceSub, Int.reduceBNe, Int.reduceBEq, Int.reduceLE, Int.reduceLT, Int.reduceToNat, reduceCtorEq, Nat.zero_ne_one, Nat.one_ne_zero, and_self, and_true, true_and, Option.getD_some, Option.isSome_some]
   rw [dec_short hl]
   exact Ends.pure rfl
 · obtain ⟨a, b, c, d, e, r, rfl⟩ := five hl
   have n5 : ((r.length + 1 + 1 + 1 + 1 + 1 : Nat) : Int) = (r.length : Int) + 5 := by omega
   have c0 : decide ((0 : Int) < (r.length : Int) + 5) = true := decide_eq_true (by omega)
   have c1 : decide ((1 : Int) < (r.length : Int) + 5) = true := decide_eq_true (by omega)
   have c2 : decide ((2 : Int) < (r.length : Int) + 5) = true := decide_eq_true (by omega)
   have c3 : decide ((3 : Int) < (r.length : Int) + 5) = true := decide_eq_true (by omega)
   have c4 : decide ((4 : Int) < (r.length : Int) + 5) = true := decide_eq_true (by omega)
   have c5 : decide ((r.length : Int) + 5 < 5) = false := decide_eq_false (by omega)
   have hs : Sh.mk ((a.toNat : Int) / 64 % 2 == 1) ((a.toNat : Int) / 32 % 2 == 1) ((a.toNat : Int) / 16 % 2 == 1) ((a.toNat : Int) / 8 % 2 == 1) (256 * ((b.toNat : Int) % 128) + c.toNat) d.toNat ((e.toNat : Int) / 64) ((e.toNat : Int) / 16 % 4) = shOf a b c d e := rfl
   have c6 : decide ((5 : Int) ≤ (r.length : Int) + 5 ∧ (0 : Int) ≤ (r.length : Int) + 5) = true := decide_eq_true (by omega)
   simp only [go_sem, k16, k45, r64, r32, r16, r8, rid, rte, rsp, wu8, n5, c0, c1, c2, c3, c4, c5, c6, List.drop_zero, List.drop_succ_cons, hs, List.take_zero, enc_shOf, ↓reduceIte, beq_self_eq_true, bne_self_eq_false, Int.reduceAdd, Int.reduceSub, Int.reduceMul, Int.reduceNeg, Int.reduceEq, Int.reduceNe, Int.cast_ofNat_Int, Int.lt_irrefl, Int.le_refl, Nat.reduceEqDiff, Nat.reduceLeDiff, Nat.reduceLT, Int.reducePow, IntKind.bits, Nat.reduceAdd, Nat.reduceMul, Nat.reduceSub, Int.reduceBNe, Int.reduceBEq, Int.reduceLE, Int.reduceLT, Int.reduceToNat, reduceCtorEq, Nat.zero_ne_one, Nat.one_ne_zero, and_self, and_true, true_and, Option.getD_some, Option.isSome_some]
   have h1 : fine a b c d e = true → dec (a :: b :: c :: d :: e :: r) = (shOf a b c d e, r, 0) := fun h => by simp only [dec]; rw [if_pos h]
   have h2 : ¬ fine a b c d e = true → dec (a :: b :: c :: d :: e :: r) = (zSh, [], 5) := fun h => by simp only [dec]; rw [if_neg h]
   repeat' (first | refine spB_i (fun _ => ?_) (fun _ => ?_) | refine andB_i ?_ ?_)
   all_goals first
    | assumption
    | (refine Ends.pureE rfl ?_
       rw [h2 (by simp only [fine]; grind)]
       rfl)
    | (refine Ends.pureE rfl ?_
       rw [h1 (by simp only [fine]; grind)]
       rfl)
    | grind
def k20 : Ct
 | [.s l], _, n => some (true, { v := decV (dec l), n })
 | _, _, _ => none
theorem s20 : SoundAt Try.prog 20 k20 := fun args h n c E hc ht => by
 unfold k20 at hc
 split at hc
 · cases hc; exact CallOK.pure (by kernel_rfl) rfl rfl (w20 _) _ _
 · cases hc
theorem s21 : SoundAt Try.prog 21 k20 := fun args h n c E hc ht => by
 unfold k20 at hc
 split at hc
 · cases hc; exact CallOK.pure (by kernel_rfl) rfl rfl (w21 _) _ _
 · cases hc
end Go.Proofs.Pic
