/- Texts laid as one: FlzC1 FlzC2 FlzC3 FlzC4. -/
import Derived.Test.YtlokbfkdgnopeaaGreatDoorFlzIR
import Derived.Test.YtlokbfkdgnopeaaGreatDoorFltA
import Derived.Test.YtlokbfkdgnopeaaGreatDoorAbWkS
import Derived.Test.YtlokbfkdgnopeaaGreatDoorAbDfrs
section
/- Contracts: within, need, number, field, Check. -/
namespace Go.Proofs.Flz
open Go.Ab Go.Proofs.Flt
set_option maxRecDepth 100000
set_option maxHeartbeats 4000000
set_option linter.unusedSimpArgs false
set_option linter.unusedVariables false
theorem mo : Tryz.prog.follows .mixedOrders = true := by kernel_rfl
theorem w48 (n m : Int) : FTL Tryz.prog 48 [.i .i64 n, .i .i64 m] [] 0 (.b (inW n m)) [] 0 := by
 refine FTL.of_iw Sound.nil mo Tryz.func48 i48_eq (by simp [i48]) (iw_of_jw ?_)
 dsimp only [i48]
 simp (maxSteps := 400000) only [go_sem, simprocAttr]
 repeat' (first | refine spB_i (fun _ => ?_) (fun _ => ?_) | refine andB_i ?_ ?_)
 all_goals (refine Ends.pureE rfl (congrArg _ ?_); simp [inW] at *; try omega)
def k48 : Ct
 | [.i .i64 n, .i .i64 m], _, n' => some (true, { v := .b (inW n m), n := n' })
 | _, _, _ => none
theorem s48 : SoundAt Tryz.prog 48 k48 := fun args h n c E hc ht => by
 unfold k48 at hc
 split at hc
 · cases hc; exact CallOK.pure (by kernel_rfl) rfl rfl (w48 _ _) _ _
 · cases hc
/-! need: the panic -/
def refV (e : Int) : Value := .iface 94 (.agg #[.int .i64 e])
theorem w59t (e : Int) : FTL Tryz.prog 59 [.b true, .i .i64 e] [] 0 (.tup []) [] 0 := by
 refine FTL.of_iw Sound.nil mo Tryz.func59 i59_eq (by simp [i59]) (iw_of_jw ?_)
 dsimp only [i59]
 simp (maxSteps := 400000) only [go_sem, simprocAttr]
 exact Ends.pureE rfl rfl
theorem w59f (e : Int) : FTLx Tryz.prog 59 [.b false, .i .i64 e] [] 0 (some (refV e)) (.tup []) [] 0 := by
 refine FTLx.of_iw Sound.nil mo Tryz.func59 i59_eq (by simp [i59]) (iw_of_jw ?_)
 dsimp only [i59]
 simp (maxSteps := 400000) only [go_sem, fills, simprocAttr]
 exact ⟨rfl, Ends.pureE rfl rfl⟩
theorem CallOK.pureX {P : Program} {f : FuncId} {args : List AV} {pn : Option Value} {v : AV} (hc : Go.Ab.callable P f = true) (ha : belL 0 args = true) (hv : v.bel 0 = true) (hf : FTLx P f args [] 0 pn v [] 0) (h : Hp) (n : Nat) : CallOK P f args h n { v, n, pn } := by
 refine CallOK.of_FTLx (ψ := fun b => b) hc hf rfl (Nat.le_refl _) ha (fun b hb => absurd hb (by omega)) (fun b kk hb => by simp [hget] at hb) (renL_fix0 _ ha).symm (fun b kk hb => by simp [hget] at hb) (fun b1 b2 k1 k2 hb => by simp [hget] at hb) (by simp) (ren_fix0 _ hv).symm
  (fun b r hb => by simp [mget] at hb) (fun b kk hb => by simp [hget] at hb) (fun c kk hc => ?_)
 simp [Eff.app, mget, hget, only, inl] at hc
def k59 : Ct
 | [.b c, .i .i64 e], _, n => some (true, { v := .tup [], n, pn := bif c then none else some (refV e) })
 | _, _, _ => none
theorem s59 : SoundAt Tryz.prog 59 k59 := fun args h n c E hc ht => by
 unfold k59 at hc
 split at hc
 · rename_i b e
   cases hc
   cases b
   · exact CallOK.pureX (by kernel_rfl) rfl rfl (w59f e) _ _
   · exact CallOK.pureX (pn := none) (by kernel_rfl) rfl rfl (w59t e) _ _
 · cases hc
/-! Check -/
def TC1 : List (Nat × Ct) := [(48, k48)]
theorem hTC1 : Sound Tryz.prog (cxT TC1) := Sound.cons s48 Sound.nil
theorem w12 (x : Nt) : FTL Tryz.prog 12 [.agg x.l] [] 0 (.i .i64 (if noteB x then 0 else 190)) [] 0 := by
 obtain ⟨kd, sq, bd⟩ := x
 refine FTL.of_iw hTC1 mo Tryz.func12 i12_eq (by simp [i12]) (iw_of_jw ?_)
 dsimp only [i12, TC1]
 cases h1 : inW kd 255
 · have : noteB ⟨kd, sq, bd⟩ = false := by simp [noteB, h1]
   rw [this]
   simp (maxSteps := 400000) only [go_sem, k48, h1, Nt.l, simprocAttr]
   exact Ends.pureE rfl rfl
 cases h2 : inW sq 65535
 · have : noteB ⟨kd, sq, bd⟩ = false := by simp [noteB, h2]
   rw [this]
   simp (maxSteps := 400000) only [go_sem, k48, h1, h2, Nt.l, simprocAttr]
   exact Ends.pureE rfl rfl
 cases h3 : decide ((bd.length : Int) > 4000)
 · have : noteB ⟨kd, sq, bd⟩ = true := by have := of_decide_eq_false h3; simp [noteB, h1, h2]; omega
   rw [this]
   simp (maxSteps := 400000) only [go_sem, k48, h1, h2, h3, Nt.l, simprocAttr]
   exact Ends.pureE rfl rfl
 · have : noteB ⟨kd, sq, bd⟩ = false := by have := of_decide_eq_true h3; simp [noteB]; omega
   rw [this]
   simp (maxSteps := 400000) only [go_sem, k48, h1, h2, h3, Nt.l, simprocAttr]
   exact Ends.pureE rfl rfl
def nt3 : List AV → Option Nt
 | [.i .i64 a, .i .i64 b, .s c] => some ⟨a, b, c⟩
 | _ => none
theorem nt3_l (x : Nt) : nt3 x.l = some x := rfl
theorem nt3_eq {c : List AV} {x : Nt} (h : nt3 c = some x) : c = x.l := by
 unfold nt3 at h
 split at h
 · cases h; rfl
 · cases h
def k12 : Ct
 | [.agg c], _, n => (nt3 c).bind fun x => some (true, { v := .i .i64 (if noteB x then 0 else 190), n })
 | _, _, _ => none
theorem s12 : SoundAt Tryz.prog 12 k12 := fun args h n c E hc ht => by
 unfold k12 at hc
 split at hc
 · simp only [Option.bind_eq_some_iff] at hc
   obtain ⟨x, hx, he⟩ := hc
   cases he
   rw [nt3_eq hx]
   exact CallOK.pure (by kernel_rfl) rfl rfl (w12 x) _ _
 · cases hc
end Go.Proofs.Flz
end
section
/- Contracts: number, field. -/
namespace Go.Proofs.Flz
open Go.Ab Go.Proofs.Flt
set_option maxRecDepth 100000
set_option maxHeartbeats 4000000
set_option linter.unusedSimpArgs false
set_option linter.unusedVariables false
theorem or8 (h : Nat) (l : Nat) (hh : h < 1048576) (hl : l < 256) : orI .i64 (IntKind.i64.wrap ((h : Int) * 256)) (l : Int) = (h : Int) * 256 + l := by
 have e1 : IntKind.i64.wrap ((h : Int) * 256) = (h : Int) * 256 := wrapL (by omega) (by omega)
 rw [e1]
 unfold orI
 have key : BitVec.ofInt 64 ((h : Int) * 256) ||| BitVec.ofInt 64 (l : Int) = BitVec.ofNat 64 (h * 256 + l) := by
  have a1 : BitVec.ofInt 64 ((h : Int) * 256) = BitVec.ofNat 64 (h * 256) := by rw [← BitVec.ofInt_natCast]; simp
  have a2 : BitVec.ofInt 64 (l : Int) = BitVec.ofNat 64 l := BitVec.ofInt_natCast 64 l
  rw [a1, a2]
  apply BitVec.eq_of_toNat_eq
  rw [BitVec.toNat_or, BitVec.toNat_ofNat, BitVec.toNat_ofNat, BitVec.toNat_ofNat, Nat.mod_eq_of_lt (by omega), Nat.mod_eq_of_lt (by omega), Nat.mod_eq_of_lt (by omega)]
  have := Nat.shiftLeft_add_eq_or_of_lt (i := 8) (b := l) hl h
  rw [Nat.shiftLeft_eq] at this
  exact this.symm
 show IntKind.i64.wrap ((BitVec.ofInt 64 ((h : Int) * 256) ||| BitVec.ofInt 64 (l : Int)).toNat : Int) = _
 rw [key, BitVec.toNat_ofNat, Nat.mod_eq_of_lt (by omega), wrapL (by omega) (by omega)]
 omega
theorem num_snoc (l : List UInt8) (b : UInt8) : num (l ++ [b]) = num l * 256 + (b.toNat : Int) := by simp [num, List.foldl_append]
theorem num_lt : ∀ (l : List UInt8), ∃ n : Nat, num l = (n : Int) ∧ n < 256 ^ l.length := fun l => by
 have : ∀ (r : List UInt8), ∃ n : Nat, num r.reverse = (n : Int) ∧ n < 256 ^ r.length := fun r => by
  induction r with
  | nil => exact ⟨0, rfl, by decide⟩
  | cons b r ih =>
   obtain ⟨n, h1, h2⟩ := ih
   refine ⟨n * 256 + b.toNat, ?_, ?_⟩
   · rw [List.reverse_cons, num_snoc, h1]; omega
   · have := b.toNat_lt
     rw [List.length_cons, Nat.pow_succ]; omega
 have h := this l.reverse
 rw [List.reverse_reverse, List.length_reverse] at h
 exact h
theorem part_s {s : List UInt8} {a k : Nat} (h : a + k < s.length) : (s.drop a).take (k + 1) = (s.drop a).take k ++ [s[a + k]] := by
 rw [List.take_add_one, List.getElem?_drop, List.getElem?_eq_getElem h]; rfl
theorem w78 (s : List UInt8) (a m : Nat) (hm : m ≤ 3) (hs : a + m ≤ s.length) (hl : s.length ≤ 1000000) : FTL Tryz.prog 78 [.s s, .i .i64 (a : Int), .i .i64 ((a + m : Nat) : Int)] [] 0 (.i .i64 (partS s a (a + m))) [] 0 := by
 refine FTL.of_iw (cx := cxT []) Sound.nil mo Tryz.func78 i78_eq (by simp [i78]) (iw_of_jw ?_)
 dsimp only [i78]
 simp (maxSteps := 400000) only [go_sem, simprocAttr]
 refine Loop.countI (F := ⟨Tryz.prog, cxT [], [12], 23, 0⟩) Sound.nil mo m (fun _ => True)
  (fun k => [(0, .s s), (2, .i .i64 ((a + m : Nat) : Int)), (7, .i .i64 (num ((s.drop a).take k))), (8, .i .i64 ((a + k : Nat) : Int))])
  (fun k => []) 0 (Nat.le_refl 0) trivial ?_ ?_ (fun k hk _ => ?_)
 · have z1 : num ((s.drop a).take 0) = 0 := rfl
   simp (maxSteps := 400000) only [go_sem, z1, Nat.add_zero, AV.bel, belL, simprocAttr]
 · simp (maxSteps := 400000) only [go_sem, simprocAttr]
 by_cases hlt : k < m
 · have c1 : decide (((a + k : Nat) : Int) < ((a + m : Nat) : Int)) = true := decide_eq_true (by omega)
   have c2 : decide (0 ≤ ((a + k : Nat) : Int) ∧ ((a + k : Nat) : Int) < (s.length : Int)) = true := decide_eq_true (by omega)
   have hw : IntKind.i64.wrap (((a + k : Nat) : Int) + 1) = ((a + (k + 1) : Nat) : Int) := by rw [wrapL (by omega) (by omega)]; omega
   have hg : s[a + k]? = some s[a + k] := List.getElem?_eq_getElem (by omega)
   have e1 : num ((s.drop a).take (k + 1)) = num ((s.drop a).take k) * 256 + (s[a + k].toNat : Int) := by rw [part_s (by omega), num_snoc]
   obtain ⟨n, hn, hb⟩ := num_lt ((s.drop a).take k)
   have hb2 : n < 1048576 := by
    have h1 : ((s.drop a).take k).length = k := by rw [List.length_take, List.length_drop]; omega
    rw [h1] at hb
    have : 256 ^ k ≤ 256 ^ 2 := Nat.pow_le_pow_right (by decide) (by omega)
    omega
   have ho := or8 n s[a + k].toNat hb2 s[a + k].toNat_lt
   rw [e1, hn]
   have p8 : (2 : Int) ^ (Nat.min (Int.toNat 8) 64) = 256 := by decide
   have w8 : IntKind.i64.wrap (s[a + k].toNat : Int) = (s[a + k].toNat : Int) := by have := s[a + k].toNat_lt; exact wrapL (by omega) (by omega)
   generalize s[a + k] = b at *
   generalize ((n : Int) * 256 + (b.toNat : Int)) = R at *
   simp (maxSteps := 400000) only [go_sem, c1, c2, hw, hg, ho, p8, w8, hlt, AV.bel, belL, simprocAttr]
 · have c1 : decide (((a + k : Nat) : Int) < ((a + m : Nat) : Int)) = false := decide_eq_false (by omega)
   obtain rfl : k = m := by omega
   simp (maxSteps := 400000) only [go_sem, c1, simprocAttr]
   refine Ends.pureE rfl ?_
   rw [partS, Nat.add_sub_cancel_left]
def k78 : Ct
 | [.s s, .i .i64 a, .i .i64 b], _, n => some (decide (0 ≤ a ∧ a ≤ b ∧ b ≤ a + 3 ∧ b ≤ s.length ∧ s.length ≤ 1000000), { v := .i .i64 (partS s a.toNat b.toNat), n })
 | _, _, _ => none
theorem s78 : SoundAt Tryz.prog 78 k78 := fun args h n c E hc ht => by
 unfold k78 at hc
 split at hc
 · rename_i s a b
   cases hc
   have ht := of_decide_eq_true ht
   have := w78 s a.toNat (b.toNat - a.toNat) (by omega) (by omega) (by omega)
   rw [show a.toNat + (b.toNat - a.toNat) = b.toNat by omega, Int.toNat_of_nonneg ht.1, Int.toNat_of_nonneg (by omega)] at this
   exact CallOK.pure (by kernel_rfl) rfl rfl this _ _
 · cases hc
end Go.Proofs.Flz
end
section
/- Contracts: read and Read. -/
namespace Go.Proofs.Flz
open Go.Ab Go.Proofs.Flt
set_option maxRecDepth 100000
set_option maxHeartbeats 4000000
set_option linter.unusedSimpArgs false
set_option linter.unusedVariables false
def TC3 : List (Nat × Ct) := [(59, k59), (78, k78)]
theorem hTC3 : Sound Tryz.prog (cxT TC3) := Sound.cons s59 (Sound.cons s78 Sound.nil)
def rdV (r : Pc × Int) : AV := bif r.2 == 0 then .agg r.1.l else .tup []
def rdP (r : Pc × Int) : Option Value := bif r.2 == 0 then none else some (refV r.2)
theorem part_nat (s : List UInt8) (a b : Nat) (h : b - a ≤ 3) : ∃ n : Nat, partS s a b = (n : Int) ∧ n < 16777216 := by
 obtain ⟨n, h1, h2⟩ := num_lt ((s.drop a).take (b - a))
 refine ⟨n, h1, Nat.lt_of_lt_of_le h2 ?_⟩
 have : ((s.drop a).take (b - a)).length ≤ 3 := by rw [List.length_take]; omega
 exact Nat.le_trans (Nat.pow_le_pow_right (by decide) this) (by decide)
theorem w50 (s : List UInt8) (hl : s.length ≤ 9223372036854775807) : FTLx Tryz.prog 50 [.s s] [] 0 (rdP (readS s)) (rdV (readS s)) [] 0 := by
 refine FTLx.of_iw hTC3 mo Tryz.func50 i50_eq (by simp [i50]) (iw_of_jw ?_)
 dsimp only [i50, TC3]
 cases a1 : decide ((s.length : Int) ≤ 1200)
 · have h1 := of_decide_eq_false a1
   have hR : readS s = (zPc, 3) := by unfold readS; rw [if_pos (by omega)]
   rw [hR]
   simp only [rdP, rdV]
   simp (maxSteps := 400000) only [go_sem, k59, a1, simprocAttr]
   exact Ends.pureE rfl rfl
 have h1 := of_decide_eq_true a1
 cases a2 : decide ((s.length : Int) ≥ 12)
 · have h2 := of_decide_eq_false a2
   have hR : readS s = (zPc, 7) := by unfold readS; rw [if_neg (by omega), if_pos (by omega)]
   rw [hR]
   simp only [rdP, rdV]
   simp (maxSteps := 400000) only [go_sem, k59, a1, a2, simprocAttr]
   exact Ends.pureE rfl rfl
 have h2 := of_decide_eq_true a2
 have hc : ∀ a b : Int, (0 ≤ a ∧ a ≤ b ∧ b ≤ a + 3 ∧ b ≤ 12) → decide (0 ≤ a ∧ a ≤ b ∧ b ≤ a + 3 ∧ b ≤ s.length ∧ s.length ≤ 1000000) = true := fun a b h => decide_eq_true (by omega)
 have hk : ∀ (h : Hp) n (a b : Int), (0 ≤ a ∧ a ≤ b ∧ b ≤ a + 3 ∧ b ≤ 12) → k78 [.s s, .i .i64 a, .i .i64 b] h n = some (true, { v := .i .i64 (partS s a.toNat b.toNat), n }) := fun h n a b hh => by
  simp only [k78, hc a b hh]
 have k1 := fun h n => hk h n 9 12 (by decide)
 have k2 := fun h n => hk h n 0 1 (by decide)
 have k3 := fun h n => hk h n 1 4 (by decide)
 have k4 := fun h n => hk h n 4 6 (by decide)
 have k5 := fun h n => hk h n 6 9 (by decide)
 simp only [Int.reduceToNat] at k1 k2 k3 k4 k5
 obtain ⟨z, hz, hz2⟩ := part_nat s 9 12 (by decide)
 rw [hz] at k1
 have w1 : IntKind.i64.wrap ((s.length : Int) - 12) = (s.length : Int) - 12 := wrapL (by omega) (by omega)
 cases a3 : decide ((s.length : Int) - 12 ≥ (z : Int))
 · have h3 := of_decide_eq_false a3
   have hR : readS s = (zPc, 7) := by unfold readS; rw [if_neg (by omega), if_neg (by omega), if_pos (by rw [hz]; omega)]
   rw [hR]
   simp only [rdP, rdV]
   simp (maxSteps := 400000) only [go_sem, k59, k1, a1, a2, w1, a3, simprocAttr]
   exact Ends.pureE rfl rfl
 have h3 := of_decide_eq_true a3
 cases a4 : ((s.length : Int) - 12 == (z : Int))
 · have h4 : ¬ ((s.length : Int) - 12 = (z : Int)) := by simpa using a4
   have hR : readS s = (zPc, 5) := by unfold readS; rw [if_neg (by omega), if_neg (by omega), if_neg (by rw [hz]; omega), if_pos (by rw [hz]; omega)]
   rw [hR]
   simp only [rdP, rdV]
   simp (maxSteps := 400000) only [go_sem, k59, k1, a1, a2, w1, a3, a4, simprocAttr]
   exact Ends.pureE rfl rfl
 have h4 : (s.length : Int) - 12 = (z : Int) := by simpa using a4
 have hR : readS s = if wholeB (readP s) then (readP s, 0) else (zPc, 5) := by unfold readS; rw [if_neg (by omega), if_neg (by omega), if_neg (by rw [hz]; omega), if_neg (by rw [hz]; omega)]
 obtain ⟨fo, hfo, hfo2⟩ := part_nat s 6 9 (by decide)
 have hpl : ((s.drop 12).length : Int) = (z : Int) := by rw [List.length_drop]; omega
 have hpl0 : (s.drop 12).length = z := by omega
 have hP : readP s = ⟨partS s 0 1, partS s 1 4, partS s 4 6, (fo : Int), s.drop 12⟩ := by rw [readP, hfo]
 rw [hP] at hR
 rw [hfo] at k5
 have hW : wholeB ⟨partS s 0 1, partS s 1 4, partS s 4 6, (fo : Int), s.drop 12⟩ = (decide (partS s 1 4 ≤ 4000) && (decide ((z : Int) ≤ 1100) && (decide ((fo : Int) + z ≤ partS s 1 4) && (((z : Int) == 0) == (partS s 1 4 == 0))))) := by
  have e1 : decide (z ≤ 1100) = decide ((z : Int) ≤ 1100) := by rw [decide_eq_decide]; omega
  have e2 : (z == 0) = ((z : Int) == 0) := by rw [Bool.eq_iff_iff]; simp
  unfold wholeB
  dsimp only
  rw [hpl0, e1, e2]
 rw [hW] at hR
 clear hW hP hc hk
 have cs : decide ((0 : Int) ≤ 12 ∧ (12 : Int) ≤ (s.length : Int)) = true := decide_eq_true (by omega)
 have cs2 : decide ((12 : Int) ≤ (s.length : Int)) = true := decide_eq_true (by omega)
 have w2 : IntKind.i64.wrap ((fo : Int) + (z : Int)) = (fo : Int) + (z : Int) := wrapL (by omega) (by omega)
 have td : List.take (s.length - 12) (List.drop 12 s) = List.drop 12 s := List.take_of_length_le (by rw [List.length_drop]; omega)
 generalize partS s 0 1 = fk at *
 generalize partS s 1 4 = fl at *
 generalize partS s 4 6 = fs at *
 simp (maxSteps := 400000) only [go_sem, k59, k1, a1, a2, w1, a3, a4, simprocAttr]
 refine Loop.rounds (F := ⟨Tryz.prog, cxT TC3, [39], 84, 0⟩) 5 hTC3 mo ?_
 dsimp only [TC3]
 cases b1 : decide (fl ≤ 4000)
 · rw [b1, Bool.false_and, if_neg (by decide)] at hR
   rw [hR]
   simp only [rdP, rdV]
   simp (maxSteps := 400000) only [go_sem, k59, k1, k2, k3, k4, k5, cs, cs2, td, w2, b1, simprocAttr]
   exact Ends.pureE rfl rfl
 cases b2 : decide ((z : Int) ≤ 1100)
 · rw [b1, b2, Bool.true_and, Bool.false_and, if_neg (by decide)] at hR
   rw [hR]
   simp only [rdP, rdV]
   simp (maxSteps := 400000) only [go_sem, k59, k1, k2, k3, k4, k5, cs, cs2, td, w2, b1, b2, simprocAttr]
   exact Ends.pureE rfl rfl
 cases b3 : decide ((fo : Int) + z ≤ fl)
 · rw [b1, b2, b3, Bool.true_and, Bool.true_and, Bool.false_and, if_neg (by decide)] at hR
   rw [hR]
   simp only [rdP, rdV]
   simp (maxSteps := 400000) only [go_sem, k59, k1, k2, k3, k4, k5, cs, cs2, td, w2, b1, b2, b3, simprocAttr]
   exact Ends.pureE rfl rfl
 cases b4 : (((z : Int) == 0) == (fl == 0))
 · rw [b1, b2, b3, b4, Bool.true_and, Bool.true_and, Bool.true_and, if_neg (by decide)] at hR
   rw [hR]
   simp only [rdP, rdV]
   simp (maxSteps := 400000) only [go_sem, k59, k1, k2, k3, k4, k5, cs, cs2, td, w2, b1, b2, b3, b4, simprocAttr]
   exact Ends.pureE rfl rfl
 · rw [b1, b2, b3, b4, Bool.true_and, Bool.true_and, Bool.true_and, if_pos rfl] at hR
   rw [hR]
   simp only [rdP, rdV, Pc.l]
   simp (maxSteps := 400000) only [go_sem, k59, k1, k2, k3, k4, k5, cs, cs2, td, w2, b1, b2, b3, b4, simprocAttr]
   exact Ends.pureE rfl rfl
def k50 : Ct
 | [.s s], _, n => some (decide (s.length ≤ 9223372036854775807), { v := rdV (readS s), n, pn := rdP (readS s) })
 | _, _, _ => none
theorem rdV_bel (r : Pc × Int) : (rdV r).bel 0 = true := by
 unfold rdV
 cases r.2 == 0 <;> rfl
theorem s50 : SoundAt Tryz.prog 50 k50 := fun args h n c E hc ht => by
 unfold k50 at hc
 split at hc
 · cases hc
   exact CallOK.pureX (by kernel_rfl) rfl (rdV_bel _) (w50 _ (of_decide_eq_true ht)) _ _
 · cases hc
end Go.Proofs.Flz
end
section
/- The contract of Read. -/
namespace Go.Proofs.Flz
open Go.Ab Go.Proofs.Flt
set_option maxRecDepth 100000
set_option maxHeartbeats 4000000
set_option linter.unusedSimpArgs false
set_option linter.unusedVariables false
def TC4 : List (Nat × Ct) := [(50, k50)]
theorem hTC4 : Sound Tryz.prog (cxT TC4) := Sound.cons s50 Sound.nil
def rsR (r : Pc × Int) : AV := .tup [.agg r.1.l, .i .i64 r.2]
theorem readS_z {s : List UInt8} (h : (readS s).2 ≠ 0) : (readS s).1 = zPc := by
 unfold readS at h ⊢
 repeat' split
 all_goals first | rfl | (simp_all; done)
theorem w15 (s : List UInt8) (hl : s.length ≤ 9223372036854775807) : FTL Tryz.prog 15 [.s s] [] 0 (rsR (readS s)) [] 0 := by
 refine FTLx.of_dfrJ0 (pn := none) Cov.ends hTC4 mo Tryz.func15 i15_eq (by simp [i15]) (pre := i15r0) (ops := [oo 4 (.mkf 49 [.t 2, .t 3])]) rfl (by kernel_rfl) Tryz.func49 i49_eq rfl ?_
 dsimp only [TC4, i15]
 simp (maxSteps := 400000) only [go_sem, thenRJ, simprocAttr]
 refine dfrK_intro (caps := [.p 0 0, .p 1 0]) (bs := [0, 1]) rfl rfl (by decide) (fun Gs h1 h2 => ?_)
 obtain ⟨g0, g1, rfl⟩ : ∃ a b, Gs = [a, b] := by
  match Gs, h1 with
  | [a, b], _ => exact ⟨a, b, rfl⟩
 refine ⟨by simp [i49], ?_⟩
 have hne : g0 ≠ g1 := by simpa using h2
 have hgl : ∀ a b : List AV, hglobC [(1, { cells := a, gid := some g1 }), (0, { cells := b, gid := some g0 })] g0 = some (.p 0 0) ∧ hglobC [(1, { cells := a, gid := some g1 }), (0, { cells := b, gid := some g0 })] g1 = some (.p 1 0) := fun a b => by
  have b1 : g1.beq g0 = false := by
   cases h : g1.beq g0 with
   | false => rfl
   | true => exact absurd (Nat.eq_of_beq_eq_true h).symm hne
  have z1 : Nat.beq 1 0 = false := rfl
  have z2 : Nat.beq 1 1 = true := rfl
  have z3 : Nat.beq 0 0 = true := rfl
  have b2 : ∀ g : Nat, g.beq g = true := fun g => by simp
  constructor
  · simp [hglobC, hglob, hget, b1, b2, z1, z2, z3]
  · simp [hglobC, hglob, hget, b1, b2, z1, z2, z3]
 have hgl0 := fun a b => (hgl a b).1
 have hgl1 := fun a b => (hgl a b).2
 have hll : decide (s.length ≤ 9223372036854775807) = true := decide_eq_true hl
 have hz := readS_z (s := s)
 generalize hrr : readS s = r at *
 obtain ⟨p, e⟩ := r
 dsimp only [setG, hget] at *
 obtain ⟨kd, ln, sq, ofs, pt⟩ := p
 by_cases he : e = 0
 · subst he
   have hk : ∀ (h : Hp) n, k50 [.s s] h n = some (true, { v := .agg [.i .i64 kd, .i .i64 ln, .i .i64 sq, .i .i64 ofs, .s pt], n }) := fun h n => by
    simp only [k50, hll, hrr, rdV, rdP, Pc.l]; rfl
   simp (maxSteps := 400000) only [go_sem, hk, hset, hgl0, hgl1, simprocAttr]
   dsimp only [i49, refV]
   simp (maxSteps := 400000) only [go_sem, simprocAttr]
   exact Ends.pureE rfl rfl
 · have hk : ∀ (h : Hp) n, k50 [.s s] h n = some (true, { v := .tup [], n, pn := some (refV e) }) := fun h n => by
    have : (e == 0) = false := by simpa using he
    simp only [k50, hll, hrr, rdV, rdP, this, cond_false]
   simp (maxSteps := 400000) only [go_sem, hk, hset, hgl0, hgl1, simprocAttr]
   dsimp only [i49, refV]
   simp (maxSteps := 400000) only [go_sem, Option.map_some, getT, simprocAttr]
   cases hz he
   exact Ends.pureE rfl rfl
theorem rsR_bel (r : Pc × Int) : (rsR r).bel 0 = true := rfl
def k15 : Ct
 | [.s s], _, n => some (decide (s.length ≤ 9223372036854775807), { v := rsR (readS s), n })
 | _, _, _ => none
theorem s15 : SoundAt Tryz.prog 15 k15 := fun args h n c E hc ht => by
 unfold k15 at hc
 split at hc
 · cases hc
   exact CallOK.pure (by kernel_rfl) rfl (rsR_bel _) (w15 _ (of_decide_eq_true ht)) _ _
 · cases hc
end Go.Proofs.Flz
end
