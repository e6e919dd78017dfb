/- Texts laid as one: LysQ1 LysQ2. -/
import Derived.Test.YtkpiibllomjeaaaLysCa
import Derived.Test.YtkpiibllomjeaaaAbExecs
section
/- Contracts of chapter 40's functions (as chapter 41 reaches them): shapes, Encode, Decode, Put. -/
namespace Go.Proofs.Lys
open Go.Ab
set_option maxRecDepth 100000
set_option maxHeartbeats 2000000
set_option linter.unusedSimpArgs false
set_option linter.unusedVariables false
structure Sh where
 st : Bool
 ky : Bool
 sy : Bool
 la : Bool
 id : Int
 ba : Int
 te : Int
 sp : Int
def Sh.l (s : Sh) : List AV := [.b s.st, .b s.ky, .b s.sy, .b s.la, .i .i64 s.id, .i .i64 s.ba, .i .i64 s.te, .i .i64 s.sp]
def Sh.good (s : Sh) : Bool := decide (0 ≤ s.id) && decide (s.id ≤ 32767) && decide (0 ≤ s.ba) && decide (s.ba ≤ 255) && decide (0 ≤ s.te) && decide (s.te ≤ 3) && decide (0 ≤ s.sp) && decide (s.sp ≤ 2) && !(s.ky && decide (s.te > 0)) && !(s.sy && (s.te == 0))
theorem w85 (a b : Int) : FTL Try.prog 85 [.i .i64 a, .i .i64 b] [] 0 (.b (decide (0 ≤ b) && decide (b ≤ a))) [] 0 := by
 refine FTL.of_iw Sound.nil mo Try.func85 i85_eq (by simp [i85]) (iw_of_jw ?_)
 dsimp only [i85]
 simp (maxSteps := 400000) only [go_sem, simprocAttr]
 repeat' (first | refine spB_i (fun _ => ?_) (fun _ => ?_) | refine andB_i ?_ ?_)
 all_goals (refine Ends.pureE rfl (congrArg _ ?_); simp at *; omega)
def k85 : Ct
 | [.i .i64 a, .i .i64 b], _, n => some (true, { v := .b (decide (0 ≤ b) && decide (b ≤ a)), n })
 | _, _, _ => none
theorem s85 : SoundAt Try.prog 85 k85 := fun args h n c E hc _ => by
 unfold k85 at hc
 split at hc
 · cases hc; exact CallOK.pure (by kernel_rfl) rfl rfl (w85 _ _) _ _
 · cases hc
def TP1 : List (Nat × Ct) := [(85, k85)]
theorem hTP1 : Sound Try.prog (cxT TP1) := Sound.cons s85 Sound.nil
theorem w68 (st ky sy la : Bool) (id ba te sp : Int) : FTL Try.prog 68 [.agg [.b st, .b ky, .b sy, .b la, .i .i64 id, .i .i64 ba, .i .i64 te, .i .i64 sp]] [] 0
 (.i .i64 (if (Sh.mk st ky sy la id ba te sp).good then 0 else 400)) [] 0 := by
 refine FTL.of_iw hTP1 mo Try.func68 i68_eq (by simp [i68]) (iw_of_jw ?_)
 dsimp only [i68, TP1]
 simp (maxSteps := 400000) only [go_sem, k85, simprocAttr]
 repeat' (first | refine spB_i (fun _ => ?_) (fun _ => ?_) | refine andB_i ?_ ?_)
 all_goals (refine Ends.pureE rfl (congrArg _ ?_); simp only [Sh.good]; grind)
def k68 : Ct
 | [.agg [.b st, .b ky, .b sy, .b la, .i .i64 id, .i .i64 ba, .i .i64 te, .i .i64 sp]], _, n => some (true, { v := .i .i64 (if (Sh.mk st ky sy la id ba te sp).good then 0 else 400), n })
 | _, _, _ => none
theorem s68 : SoundAt Try.prog 68 k68 := fun args h n c E hc _ => by
 unfold k68 at hc
 split at hc
 · cases hc; exact CallOK.pure (by kernel_rfl) rfl rfl (w68 _ _ _ _ _ _ _ _) _ _
 · cases hc
def bits4 (a b c d : Bool) : Int := 128 + (if a then 64 else 0) + (if b then 32 else 0) + (if c then 16 else 0) + (if d then 8 else 0)
def bitsB : Blk → Option Int
 | ⟨[.b true, .b a, .b b, .b c, .b d, .b false, .b false, .b false], false, none, none⟩ => some (bits4 a b c d)
 | _ => none
def k103 : Ct
 | [.sl b 0 8 8], h, n => (hget h b).bind fun k => (bitsB k).bind fun m => some (true, { v := .i .u8 m, n, rd := [b] })
 | _, _, _ => none
theorem w103 (a b c d : Bool) : FTL Try.prog 103 [.sl 0 0 8 8] [(0, { cells := [.b true, .b a, .b b, .b c, .b d, .b false, .b false, .b false] })] 1 (.i .u8 (bits4 a b c d)) [(0, { cells := [.b true, .b a, .b b, .b c, .b d, .b false, .b false, .b false] })] 1 := by
 refine FTL.of_iw Sound.nil mo Try.func103 i103_eq (by simp [i103]) (iw_of_jw ?_)
 dsimp only [i103]
 cases a <;> cases b <;> cases c <;> cases d
 all_goals (
  simp (maxSteps := 400000) only [go_sem, simprocAttr]
  refine Loop.rounds (F := ⟨Try.prog, cxT [], [9, 14], 19, 1⟩) 9 Sound.nil mo ?_
  simp (maxSteps := 400000) only [go_sem, lp, simprocAttr]
  exact Ends.keep1 rfl rfl rfl (congrArg _ (by decide)) rfl)
theorem s103 : SoundAt Try.prog 103 k103 := fun args h n c E hc _ => by
 unfold k103 at hc
 split at hc
 · rename_i b
   simp only [Option.bind_eq_some_iff] at hc
   obtain ⟨k, hk, m, hm, he⟩ := hc
   cases he
   unfold bitsB at hm
   split at hm
   · cases hm
     exact CallOK.read1 (argsL := [.sl 0 0 8 8]) (by kernel_rfl) rfl rfl rfl hk (w103 _ _ _ _)
   · cases hm
 · cases hc
def TP2 : List (Nat × Ct) := [(85, k85), (68, k68), (103, k103)]
theorem hTP2 : Sound Try.prog (cxT TP2) := Sound.cons s85 (Sound.cons s68 (Sound.cons s103 Sound.nil))
def Sh.enc (s : Sh) : List UInt8 := [UInt8.ofNat (bits4 s.st s.ky s.sy s.la).toNat, UInt8.ofNat (128 + s.id / 256).toNat, UInt8.ofNat (s.id % 256).toNat, UInt8.ofNat s.ba.toNat, UInt8.ofNat (64 * s.te + 16 * s.sp).toNat]
theorem Sh.good_iff (s : Sh) : s.good = true ↔ (0 ≤ s.id ∧ s.id ≤ 32767 ∧ 0 ≤ s.ba ∧ s.ba ≤ 255 ∧ 0 ≤ s.te ∧ s.te ≤ 3 ∧ 0 ≤ s.sp ∧ s.sp ≤ 2 ∧ (s.ky = true → s.te = 0) ∧ (s.sy = true → s.te ≠ 0)) := by
 unfold Sh.good
 simp
 grind
theorem or128 : ∀ d : Fin 128, orI .u8 128 ((d.val : Nat) : Int) = 128 + ((d.val : Nat) : Int) := by decide +kernel
theorem orL : ∀ (t : Fin 4) (p : Fin 3), IntKind.u8.wrap (orI .i64 (IntKind.i64.wrap (((t.val : Nat) : Int) * 64)) (IntKind.i64.wrap (((p.val : Nat) : Int) * 16))) = 64 * ((t.val : Nat) : Int) + 16 * ((p.val : Nat) : Int) := by decide +kernel
theorem wrapId (n : Int) : IntKind.u8.wrap n = n % 256 := by
 simp [IntKind.wrap, IntKind.bits, IntKind.signed]
theorem w84 (st ky sy la : Bool) (id ba te sp : Int) (hg : (Sh.mk st ky sy la id ba te sp).good = true) : FTL Try.prog 84 [.agg [.b st, .b ky, .b sy, .b la, .i .i64 id, .i .i64 ba, .i .i64 te, .i .i64 sp]] [] 0 (.s (Sh.mk st ky sy la id ba te sp).enc) [] 0 := by
 rw [Sh.good_iff] at hg
 simp only at hg
 obtain ⟨h1, h2, h3, h4, h5, h6, h7, h8, -⟩ := hg
 refine FTL.of_iw hTP2 mo Try.func84 i84_eq (by simp [i84]) (iw_of_jw ?_)
 dsimp only [i84, TP2]
 simp (maxSteps := 400000) only [go_sem, k85, k103, bitsB, simprocAttr]
 refine Ends.pureE rfl (congrArg _ ?_)
 have e1 := or128 ⟨(id / 256).toNat, by omega⟩
 have e2 := orL ⟨te.toNat, by omega⟩ ⟨sp.toNat, by omega⟩
 have f1 : id.fdiv 256 = (((id / 256).toNat : Nat) : Int) := by rw [Int.fdiv_eq_ediv_of_nonneg _ (by omega)]; omega
 have f2 : te = ((te.toNat : Nat) : Int) := by omega
 have f3 : sp = ((sp.toNat : Nat) : Int) := by omega
 simp only at e1 e2
 rw [← f1] at e1
 rw [← f2, ← f3] at e2
 have f4 : IntKind.u8.wrap (id.fdiv 256) = id.fdiv 256 := by rw [wrapId, f1]; omega
 simp only [Sh.enc]
 rw [f4, e1, e2, wrapId, wrapId, Int.fdiv_eq_ediv_of_nonneg _ (by omega), Int.emod_eq_of_lt h3 (by omega)]
theorem wrap64 (n : Int) (h : -9223372036854775808 ≤ n) (h' : n ≤ 9223372036854775807) : IntKind.i64.wrap n = n := by
 simp only [IntKind.wrap, IntKind.bits, IntKind.signed]
 simp
 split <;> omega
theorem w81 (st ky sy la : Bool) (id ba te sp : Int) (hg : (Sh.mk st ky sy la id ba te sp).good = true) : FTL Try.prog 81 [.agg [.b st, .b ky, .b sy, .b la, .i .i64 id, .i .i64 ba, .i .i64 te, .i .i64 sp]] [] 0 (.s (Sh.mk st ky sy la id ba te sp).enc) [] 0 := by
 rw [Sh.good_iff] at hg
 simp only at hg
 obtain ⟨h1, h2, h3, h4, h5, h6, h7, h8, -⟩ := hg
 refine FTL.of_iw hTP2 mo Try.func81 i81_eq (by simp [i81]) (iw_of_jw ?_)
 dsimp only [i81, TP2]
 simp (maxSteps := 400000) only [go_sem, k85, k103, bitsB, simprocAttr]
 repeat' (first | refine spB_i (fun _ => ?_) (fun _ => ?_) | refine andB_i ?_ ?_)
 all_goals (
  refine Ends.pureE rfl (congrArg _ ?_)
  simp only [Sh.enc, *]
  rw [Int.tdiv_eq_ediv_of_nonneg h1, wrap64 (id / 256) (by omega) (by omega), wrap64 (128 + id / 256) (by omega) (by omega), wrap64 (64 * te) (by omega) (by omega), wrap64 (16 * sp) (by omega) (by omega), wrap64 (64 * te + 16 * sp) (by omega) (by omega)]
  simp only [wrapId]
  rw [Int.emod_eq_of_lt h3 (by omega), Int.tmod_eq_emod_of_nonneg h1, Int.emod_eq_of_lt (a := 128 + id / 256) (by omega) (by omega), Int.emod_eq_of_lt (a := 64 * te + 16 * sp) (by omega) (by omega), Int.emod_emod]
  rfl)
def k84 : Ct
 | [.agg [.b st, .b ky, .b sy, .b la, .i .i64 id, .i .i64 ba, .i .i64 te, .i .i64 sp]], _, n => some ((Sh.mk st ky sy la id ba te sp).good, { v := .s (Sh.mk st ky sy la id ba te sp).enc, n })
 | _, _, _ => none
theorem s84 : SoundAt Try.prog 84 k84 := fun args h n c E hc ht => by
 unfold k84 at hc
 split at hc
 · cases hc; exact CallOK.pure (by kernel_rfl) rfl rfl (w84 _ _ _ _ _ _ _ _ ht) _ _
 · cases hc
theorem s81 : SoundAt Try.prog 81 k84 := fun args h n c E hc ht => by
 unfold k84 at hc
 split at hc
 · cases hc; exact CallOK.pure (by kernel_rfl) rfl rfl (w81 _ _ _ _ _ _ _ _ ht) _ _
 · cases hc
theorem Sh.eta (s : Sh) : Sh.mk s.st s.ky s.sy s.la s.id s.ba s.te s.sp = s := rfl
def TP3 : List (Nat × Ct) := [(68, k68), (84, k84)]
theorem hTP3 : Sound Try.prog (cxT TP3) := Sound.cons s68 (Sound.cons s84 Sound.nil)
attribute [local congr] spB_congrC andB_congrC
theorem w65 (st ky sy la : Bool) (id ba te sp : Int) : FTL Try.prog 65 [.agg [.b st, .b ky, .b sy, .b la, .i .i64 id, .i .i64 ba, .i .i64 te, .i .i64 sp]] [] 0
 (.tup [.s (if (Sh.mk st ky sy la id ba te sp).good then (Sh.mk st ky sy la id ba te sp).enc else []), .i .i64 (if (Sh.mk st ky sy la id ba te sp).good then 0 else 400)]) [] 0 := by
 refine FTL.of_iw hTP3 mo Try.func65 i65_eq (by simp [i65]) (iw_of_jw ?_)
 dsimp only [i65, TP3]
 cases hg : (Sh.mk st ky sy la id ba te sp).good
 · simp (maxSteps := 400000) only [go_sem, k68, k84, hg, Bool.false_eq_true, simprocAttr]
   exact Ends.pureE rfl rfl
 · simp (maxSteps := 400000) only [go_sem, k68, k84, hg, simprocAttr]
   exact Ends.pureE rfl rfl
def k65 : Ct
 | [.agg [.b st, .b ky, .b sy, .b la, .i .i64 id, .i .i64 ba, .i .i64 te, .i .i64 sp]], _, n => some (true, { v := .tup [.s (if (Sh.mk st ky sy la id ba te sp).good then (Sh.mk st ky sy la id ba te sp).enc else []), .i .i64 (if (Sh.mk st ky sy la id ba te sp).good then 0 else 400)], n })
 | _, _, _ => none
theorem s65 : SoundAt Try.prog 65 k65 := fun args h n c E hc ht => by
 unfold k65 at hc
 split at hc
 · cases hc; exact CallOK.pure (by kernel_rfl) rfl rfl (w65 _ _ _ _ _ _ _ _) _ _
 · cases hc
end Go.Proofs.Lys
end
section
/- Contracts of chapter 40's functions: Decode and Put. -/
namespace Go.Proofs.Lys
open Go.Ab
set_option maxRecDepth 100000
set_option maxHeartbeats 2000000
set_option linter.unusedSimpArgs false
set_option linter.unusedVariables false
def shOf (a b c d e : UInt8) : Sh where
 st := (a.toNat : Int) / 64 % 2 == 1
 ky := (a.toNat : Int) / 32 % 2 == 1
 sy := (a.toNat : Int) / 16 % 2 == 1
 la := (a.toNat : Int) / 8 % 2 == 1
 id := 256 * ((b.toNat : Int) % 128) + c.toNat
 ba := d.toNat
 te := (e.toNat : Int) / 64
 sp := (e.toNat : Int) / 16 % 4
def fine (a b c d e : UInt8) : Bool := decide (a.toNat / 128 = 1 ∧ a.toNat % 8 = 0) && (decide (b.toNat ≥ 128) && (decide (e.toNat % 16 = 0) && (shOf a b c d e).good))
def zSh : Sh := ⟨false, false, false, false, 0, 0, 0, 0⟩
def dec : List UInt8 → Sh × List UInt8 × Int
 | a :: b :: c :: d :: e :: r => if fine a b c d e then (shOf a b c d e, r, 0) else (zSh, [], 5)
 | _ => (zSh, [], 7)
def decV (x : Sh × List UInt8 × Int) : AV := .tup [.agg x.1.l, .s x.2.1, .i .i64 x.2.2]
def P256 (p : Nat → Bool) : Bool := (List.range 256).all p
theorem p256 {p : Nat → Bool} (h : P256 p = true) (a : UInt8) : p a.toNat = true := by
 simp only [P256, List.all_eq_true, List.mem_range] at h
 exact h _ a.toNat_lt
theorem b64 (a : UInt8) : (andI .u8 (a.toNat : Int) 64 != 0) = ((a.toNat : Int) / 64 % 2 == 1) := by
 simpa using p256 (p := fun n => (andI .u8 (n : Int) 64 != 0) == ((n : Int) / 64 % 2 == 1)) (by decide +kernel) a
theorem b32 (a : UInt8) : (andI .u8 (a.toNat : Int) 32 != 0) = ((a.toNat : Int) / 32 % 2 == 1) := by
 simpa using p256 (p := fun n => (andI .u8 (n : Int) 32 != 0) == ((n : Int) / 32 % 2 == 1)) (by decide +kernel) a
theorem b16 (a : UInt8) : (andI .u8 (a.toNat : Int) 16 != 0) = ((a.toNat : Int) / 16 % 2 == 1) := by
 simpa using p256 (p := fun n => (andI .u8 (n : Int) 16 != 0) == ((n : Int) / 16 % 2 == 1)) (by decide +kernel) a
theorem b8 (a : UInt8) : (andI .u8 (a.toNat : Int) 8 != 0) = ((a.toNat : Int) / 8 % 2 == 1) := by
 simpa using p256 (p := fun n => (andI .u8 (n : Int) 8 != 0) == ((n : Int) / 8 % 2 == 1)) (by decide +kernel) a
theorem b127 (a : UInt8) : IntKind.i64.wrap (andI .u8 (a.toNat : Int) 127) = (a.toNat : Int) % 128 := by
 simpa using p256 (p := fun n => IntKind.i64.wrap (andI .u8 (n : Int) 127) == (n : Int) % 128) (by decide +kernel) a
theorem b135 (a : UInt8) : (andI .u8 (a.toNat : Int) 135 != 128) = !decide (a.toNat / 128 = 1 ∧ a.toNat % 8 = 0) := by
 simpa using p256 (p := fun n => (andI .u8 (n : Int) 135 != 128) == !decide (n / 128 = 1 ∧ n % 8 = 0)) (by decide +kernel) a
theorem b15 (a : UInt8) : (andI .u8 (a.toNat : Int) 15 != 0) = !decide (a.toNat % 16 = 0) := by
 simpa using p256 (p := fun n => (andI .u8 (n : Int) 15 != 0) == !decide (n % 16 = 0)) (by decide +kernel) a
theorem s6 (a : UInt8) : IntKind.i64.wrap ((a.toNat : Int).fdiv 64) = (a.toNat : Int) / 64 := by
 simpa using p256 (p := fun n => IntKind.i64.wrap ((n : Int).fdiv 64) == (n : Int) / 64) (by decide +kernel) a
theorem s4 (a : UInt8) : IntKind.i64.wrap (andI .u8 ((a.toNat : Int).fdiv 16) 3) = (a.toNat : Int) / 16 % 4 := by
 simpa using p256 (p := fun n => IntKind.i64.wrap (andI .u8 ((n : Int).fdiv 16) 3) == (n : Int) / 16 % 4) (by decide +kernel) a
theorem wu8 (a : UInt8) : IntKind.i64.wrap (a.toNat : Int) = (a.toNat : Int) := by
 have := a.toNat_lt
 exact wrap64 _ (by omega) (by omega)
theorem or8 : ∀ (h : Nat) (l : Nat), h < 128 → l < 256 → orI .i64 (IntKind.i64.wrap ((h : Int) * 256)) (l : Int) = 256 * (h : Int) + l := by
 intro h l hh hl
 have e1 : IntKind.i64.wrap ((h : Int) * 256) = ((h * 256 : Nat) : Int) := by rw [wrap64 _ (by omega) (by omega)]; omega
 rw [e1]
 unfold orI
 have e2 : (BitVec.ofInt IntKind.i64.bits ((h * 256 : Nat) : Int) ||| BitVec.ofInt IntKind.i64.bits (l : Int)).toNat = h * 256 + l := by
  show (BitVec.ofInt 64 ((h * 256 : Nat) : Int) ||| BitVec.ofInt 64 (l : Int)).toNat = h * 256 + l
  simp only [BitVec.toNat_or, BitVec.ofInt_natCast, BitVec.toNat_ofNat]
  rw [Nat.mod_eq_of_lt (by omega), Nat.mod_eq_of_lt (by omega)]
  have := Nat.two_pow_add_eq_or_of_lt (i := 8) (b := l) (by omega) h
  rw [Nat.mul_comm h 256]
  exact this.symm
 rw [e2, wrap64 _ (by omega) (by omega)]
 omega
theorem or8' (b c : UInt8) : orI .i64 (IntKind.i64.wrap ((b.toNat : Int) % 128 * 256)) (c.toNat : Int) = 256 * ((b.toNat : Int) % 128) + c.toNat := by
 have h := or8 (b.toNat % 128) c.toNat (by omega) c.toNat_lt
 have e : ((b.toNat % 128 : Nat) : Int) = (b.toNat : Int) % 128 := by omega
 rw [e] at h
 exact h
theorem dec_short {l : List UInt8} (h : l.length < 5) : dec l = (zSh, [], 7) := by
 match l, h with
 | [], _ => rfl
 | [_], _ => rfl
 | [_, _], _ => rfl
 | [_, _, _], _ => rfl
 | [_, _, _, _], _ => rfl
 | _ :: _ :: _ :: _ :: _ :: _, h => exact absurd h (by simp)
theorem five {l : List UInt8} (h : ¬ l.length < 5) : ∃ a b c d e r, l = a :: b :: c :: d :: e :: r := by
 match l, h with
 | a :: b :: c :: d :: e :: r, _ => exact ⟨a, b, c, d, e, r, rfl⟩
 | [], h => exact absurd (by simp) h
 | [_], h => exact absurd (by simp) h
 | [_, _], h => exact absurd (by simp) h
 | [_, _, _], h => exact absurd (by simp) h
 | [_, _, _, _], h => exact absurd (by simp) h
theorem w46 (l : List UInt8) : FTL Try.prog 46 [.s l] [] 0 (decV (dec l)) [] 0 := by
 refine FTL.of_iw hTP2 mo Try.func46 i46_eq (by simp [i46]) (iw_of_jw ?_)
 dsimp only [i46, TP2]
 by_cases hl : l.length < 5
 · have hl' : (l.length : Int) < 5 := by omega
   simp (maxSteps := 400000) only [go_sem, hl', simprocAttr]
   rw [dec_short hl]
   exact Ends.pure rfl
 · obtain ⟨a, b, c, d, e, r, rfl⟩ := five hl
   have n5 : ((r.length + 1 + 1 + 1 + 1 + 1 : Nat) : Int) = (r.length : Int) + 5 := by omega
   have c0 : decide ((0 : Int) < (r.length : Int) + 5) = true := decide_eq_true (by omega)
   have c1 : decide ((1 : Int) < (r.length : Int) + 5) = true := decide_eq_true (by omega)
   have c2 : decide ((2 : Int) < (r.length : Int) + 5) = true := decide_eq_true (by omega)
   have c3 : decide ((3 : Int) < (r.length : Int) + 5) = true := decide_eq_true (by omega)
   have c4 : decide ((4 : Int) < (r.length : Int) + 5) = true := decide_eq_true (by omega)
   have c5 : decide ((r.length : Int) + 5 < 5) = false := decide_eq_false (by omega)
   have ho := or8' b c
   simp (maxSteps := 400000) only [go_sem, k68, b64, b32, b16, b8, b127, b135, b15, s6, s4, wu8, n5, c0, c1, c2, c3, c4, c5, ho, List.drop_zero, List.drop_succ_cons, simprocAttr]
   have hid : ∀ x : Prop, (x ↔ fine a b c d e = true) → (x → dec (a :: b :: c :: d :: e :: r) = (shOf a b c d e, r, 0)) ∧ (¬ x → dec (a :: b :: c :: d :: e :: r) = (zSh, [], 5)) := fun x hx => by
    simp only [dec]
    constructor
    · intro h; rw [if_pos (hx.1 h)]
    · intro h; rw [if_neg (fun h' => h (hx.2 h'))]
   repeat' (first | refine spB_i (fun _ => ?_) (fun _ => ?_) | refine andB_i ?_ ?_)
   all_goals first
    | (refine Ends.pureE rfl ?_
       rw [(hid (fine a b c d e = true) Iff.rfl).2 (by simp only [fine, shOf]; grind)]
       rfl)
    | (refine Ends.pureE rfl ?_
       rw [(hid (fine a b c d e = true) Iff.rfl).1 (by simp only [fine, shOf]; grind)]
       rfl)
    | grind
attribute [local congr] spB_congrC andB_congrC in
def k46 : Ct
 | [.s l], _, n => some (true, { v := decV (dec l), n })
 | _, _, _ => none
theorem s46 : SoundAt Try.prog 46 k46 := fun args h n c E hc ht => by
 unfold k46 at hc
 split at hc
 · cases hc; exact CallOK.pure (by kernel_rfl) rfl rfl (w46 _) _ _
 · cases hc
def TP5 : List (Nat × Ct) := [(46, k46), (85, k85), (84, k84)]
theorem hTP5 : Sound Try.prog (cxT TP5) := Sound.cons s46 <| Sound.cons s85 <| Sound.cons s84 Sound.nil
def inR (i b : Int) : Bool := decide (0 ≤ i) && decide (i ≤ 32767) && (decide (0 ≤ b) && decide (b ≤ 255))
def putS (l : List UInt8) (i b : Int) : List UInt8 × Int :=
 if (dec l).2.2 != 0 then ([], (dec l).2.2) else if inR i b then ({ (dec l).1 with id := i, ba := b : Sh }.enc ++ (dec l).2.1, 0) else ([], 2)
theorem dec_ok {l : List UInt8} (h : (dec l).2.2 = 0) : (dec l).1.good = true ∧ (dec l).2.1.length ≤ l.length := by
 unfold dec at h ⊢
 split at h
 · split at h
   · rename_i hf
     simp only [fine, Bool.and_eq_true] at hf
     rw [if_pos (by simp only [fine, Bool.and_eq_true]; exact hf)]
     exact ⟨hf.2.2.2, by simp; omega⟩
   · cases h
 · cases h
theorem put_good {s : Sh} {i b : Int} (hs : s.good = true) (h : inR i b = true) : ({ s with id := i, ba := b : Sh }).good = true := by
 simp only [inR, Bool.and_eq_true, decide_eq_true_eq] at h
 rw [Sh.good_iff] at hs ⊢
 exact ⟨h.1.1, h.1.2, h.2.1, h.2.2, hs.2.2.2.2⟩
theorem enc_len {s : Sh} : s.enc.length = 5 := rfl
theorem w100 (l : List UInt8) (i b : Int) (hl : l.length ≤ 1000000000) : FTL Try.prog 100 [.s l, .i .i64 i, .i .i64 b] [] 0 (.tup [.s (putS l i b).1, .i .i64 (putS l i b).2]) [] 0 := by
 refine FTL.of_iw hTP5 mo Try.func100 i100_eq (by simp [i100]) (iw_of_jw ?_)
 dsimp only [i100, TP5]
 have hd := @dec_ok l
 have hg := @put_good (dec l).1 i b
 simp (maxSteps := 400000) only [go_sem, k46, k85, k84, decV, Sh.l, simprocAttr]
 repeat' (first | refine spB_i (fun _ => ?_) (fun _ => ?_) | refine andB_i ?_ ?_)
 all_goals first
  | (refine Ends.pureE rfl ?_
     simp only [putS, inR]
     grind)
  | (simp only [inR, Sh.eta, enc_len] at *
     grind)
def k100 : Ct
 | [.s l, .i .i64 i, .i .i64 b], _, n => some (decide (l.length ≤ 1000000000), { v := .tup [.s (putS l i b).1, .i .i64 (putS l i b).2], n })
 | _, _, _ => none
theorem s100 : SoundAt Try.prog 100 k100 := fun args h n c E hc ht => by
 unfold k100 at hc
 split at hc
 · cases hc
   exact CallOK.pure (by kernel_rfl) rfl rfl (w100 _ _ _ (of_decide_eq_true ht)) _ _
 · cases hc
end Go.Proofs.Lys
end
