/- Texts laid as one: JitC4 JitC5 JitC6. -/
import Derived.Test.YtcpgamgkbbckoaaJitCa
import Derived.Test.YtcpgamgkbbckoaaAbGvs
import Derived.Test.YtcpgamgkbbckoaaAbShelf
section
/- floor, up, due; Clone, start; Due. -/
namespace Go.Proofs.Jit
open Go.Ab
set_option maxRecDepth 100000
set_option maxHeartbeats 4000000
set_option linter.unusedSimpArgs false
set_option linter.unusedVariables false
/-! floor, up -/
def upZ (a b : Int) : Int := -((-a) / b)
theorem upZ_rng {a b m : Int} (hb : 1 ≤ b) (h1 : -m ≤ a) (h2 : a ≤ m) : -m ≤ upZ a b ∧ upZ a b ≤ m := by
 have e1 : (-a) / b ≤ m := by
  have : (-a) / b ≤ m / b := Int.ediv_le_ediv (by omega) (by omega)
  have hm : m / b ≤ m := Int.ediv_le_self _ (by omega)
  omega
 have e2 : -m ≤ (-a) / b := by
  rw [Int.le_ediv_iff_mul_le (by omega)]
  have : m * 1 ≤ m * b := Int.mul_le_mul_of_nonneg_left hb (by omega)
  have : -m * b = -(m * b) := by rw [Int.neg_mul]
  omega
 unfold upZ
 omega
theorem tdiv_fl (a b : Int) (hb : 1 ≤ b) : Int.tdiv a b - (if Int.tmod a b < 0 then 1 else 0) = a / b := by
 have h1 := Int.tdiv_eq_ediv (a := a) (b := b)
 have h2 := Int.tmod_eq_emod (a := a) (b := b)
 have hd := Int.emod_nonneg a (b := b) (by omega)
 have hlt := Int.emod_lt_of_pos a (b := b) (by omega)
 rw [h1, h2]
 have hs : b.sign = 1 := Int.sign_eq_one_of_pos (by omega)
 have hn : (b.natAbs : Int) = b := by omega
 by_cases h0 : 0 ≤ a ∨ b ∣ a
 · rw [if_pos h0, if_pos h0]
   split <;> omega
 · rw [if_neg h0, if_neg h0, hs, hn]
   split <;> omega
theorem tdiv_rng {a b m : Int} (hb : 1 ≤ b) (h1 : -m ≤ a) (h2 : a ≤ m) : -m - 1 ≤ a / b ∧ a / b ≤ m := by
 have := upZ_rng (a := -a) (m := m) hb (by omega) (by omega)
 simp only [upZ, Int.neg_neg] at this
 omega
theorem w66 (a b : Int) (ha : inI (-4611686018427387904) 4611686018427387904 a = true) (hb : inI 1 4611686018427387904 b = true) : FTL Try.prog 66 [.i .i64 a, .i .i64 b] [] 0 (.i .i64 (a / b)) [] 0 := by
 have ha := inI_t ha
 have hb := inI_t hb
 have h0 := tdiv_fl a b hb.1
 have hr := tdiv_rng hb.1 ha.1 ha.2
 have hz : (b != 0) = true := by simp; omega
 have hw : IntKind.i64.wrap (a.tdiv b) = a.tdiv b := by
  refine wrapL ?_ ?_ <;> split at h0 <;> omega
 have hm : IntKind.i64.wrap (a.tmod b) = a.tmod b := by
  have := Int.tmod_eq_emod (a := a) (b := b)
  have hd := Int.emod_nonneg a (b := b) (by omega)
  have hlt := Int.emod_lt_of_pos a (b := b) (by omega)
  have hn : (b.natAbs : Int) = b := by omega
  split at this <;> exact wrapL (by omega) (by omega)
 refine FTL.of_iw Sound.nil mo Try.func66 i66_eq (by simp [i66]) (iw_of_jw ?_)
 dsimp only [i66]
 by_cases hc : a.tmod b < 0
 · have c1 : decide (a.tmod b < 0) = true := decide_eq_true hc
   rw [if_pos hc] at h0
   have hw2 : IntKind.i64.wrap (a.tdiv b - 1) = a / b := by rw [h0]; exact wrapL (by omega) (by omega)
   simp (maxSteps := 400000) only [go_sem, hz, hw, hm, c1, hw2, simprocAttr]
   exact Ends.pureE rfl rfl
 · have c1 : decide (a.tmod b < 0) = false := decide_eq_false hc
   rw [if_neg hc, Int.sub_zero] at h0
   rw [h0] at hw
   simp (maxSteps := 400000) only [go_sem, hz, h0, hw, hm, c1, simprocAttr]
   exact Ends.pureE rfl rfl
def k66 : Ct
 | [.i .i64 a, .i .i64 b], _, n => some (inI (-4611686018427387904) 4611686018427387904 a && inI 1 4611686018427387904 b, { v := .i .i64 (a / b), n })
 | _, _, _ => none
theorem s66 : SoundAt Try.prog 66 k66 := fun args h n c E hc ht => by
 unfold k66 at hc
 split at hc
 · cases hc
   simp only [Bool.and_eq_true] at ht
   exact CallOK.pure (by kernel_rfl) rfl rfl (w66 _ _ ht.1 ht.2) _ _
 · cases hc
theorem w60 (a b : Int) (ha : inI (-4611686018427387904) 4611686018427387904 a = true) (hb : inI 1 4611686018427387904 b = true) : FTL Try.prog 60 [.i .i64 a, .i .i64 b] [] 0 (.i .i64 (upZ a b)) [] 0 := by
 have h1 := inI_t ha
 have h2 := inI_t hb
 have hn : IntKind.i64.wrap (0 - a) = -a := by rw [Int.zero_sub]; exact wrapL (by omega) (by omega)
 have ha' : inI (-4611686018427387904) 4611686018427387904 (-a) = true := inI_of (by omega)
 have hr := tdiv_rng (a := -a) h2.1 (m := 4611686018427387904) (by omega) (by omega)
 have hw : IntKind.i64.wrap (0 - (-a) / b) = upZ a b := by rw [Int.zero_sub]; exact wrapL (by omega) (by omega)
 have hT60 : Sound Try.prog (cxT [(66, k66)]) := Sound.cons s66 Sound.nil
 refine FTL.of_iw hT60 mo Try.func60 i60_eq (by simp [i60]) (iw_of_jw ?_)
 dsimp only [i60]
 simp (maxSteps := 400000) only [go_sem, hn, k66, ha', hb, hw, simprocAttr]
 exact Ends.pureE rfl rfl
def k60 : Ct
 | [.i .i64 a, .i .i64 b], _, n => some (inI (-4611686018427387904) 4611686018427387904 a && inI 1 4611686018427387904 b, { v := .i .i64 (upZ a b), n })
 | _, _, _ => none
theorem s60 : SoundAt Try.prog 60 k60 := fun args h n c E hc ht => by
 unfold k60 at hc
 split at hc
 · cases hc
   simp only [Bool.and_eq_true] at ht
   exact CallOK.pure (by kernel_rfl) rfl rfl (w60 _ _ ht.1 ht.2) _ _
 · cases hc
/-! the reference's up -/
/-! due -/
def dueF (st of ji ck : Int) : Int := max 0 (upZ (st + of) ck + min (max (upZ ji (4 * ck)) 10) 1000)
def dueS (b : Bf) : Int := match b.l with
 | [] => 0
 | x :: _ => dueF x.st b.of b.ji b.ck
def dueOK (b : Bf) : Bool := inI 1 96 b.ck && (inI 0 1048576 b.ji && (inI (-1152921504606846976) 1152921504606846976 b.of && match b.l with
 | [] => false
 | x :: _ => inI 0 1152921504606846976 x.st))
theorem w50 (b : Bf) (h : dueOK b = true) : FTL Try.prog 50 [.agg b.a] [] 0 (.i .i64 (dueS b)) [] 0 := by
 obtain ⟨ck, ti, sd, wh, nx, mr, of, tr, ji, lo, l⟩ := b
 simp only [dueOK, Bool.and_eq_true] at h
 obtain ⟨h1, h2, h3, h4⟩ := h
 cases l with
 | nil => cases h4
 | cons x l =>
 have g1 := inI_t h1
 have g2 := inI_t h2
 have g3 := inI_t h3
 have g4 := inI_t h4
 have hw1 : IntKind.i64.wrap (4 * ck) = 4 * ck := wrapL (by omega) (by omega)
 have hw2 : IntKind.i64.wrap (x.st + of) = x.st + of := wrapL (by omega) (by omega)
 have c1 : inI (-4611686018427387904) 4611686018427387904 ji = true := inI_of (by omega)
 have c2 : inI 1 4611686018427387904 (4 * ck) = true := inI_of (by omega)
 have c3 : inI (-4611686018427387904) 4611686018427387904 (x.st + of) = true := inI_of (by omega)
 have c4 : inI 1 4611686018427387904 ck = true := inI_of (by omega)
 have r1 := upZ_rng (a := ji) (b := 4 * ck) (m := 1048576) (by omega) (by omega) (by omega)
 have r2 := upZ_rng (a := x.st + of) (b := ck) (m := 2305843009213693952) (by omega) (by omega) (by omega)
 have hw3 : IntKind.i64.wrap (upZ (x.st + of) ck + min (max (upZ ji (4 * ck)) 10) 1000) = upZ (x.st + of) ck + min (max (upZ ji (4 * ck)) 10) 1000 := wrapL (by omega) (by omega)
 have n1 : decide ((0 : Int) < ((l.length + 1 : Nat) : Int)) = true := decide_eq_true (by omega)
 have hT50 : Sound Try.prog (cxT [(60, k60)]) := Sound.cons s60 Sound.nil
 simp only [Bf.a, dueS, dueF, List.length_cons]
 have hr : (rows Hd.l (x :: l))[9]? = some (.i .i64 x.st) := rfl
 generalize rows Hd.l (x :: l) = L at *
 refine FTL.of_iw hT50 mo Try.func50 i50_eq (by simp [i50]) (iw_of_jw ?_)
 dsimp only [i50]
 simp (maxSteps := 400000) only [go_sem, hw1, hw2, hw3, k60, c1, c2, c3, c4, n1, hr, simprocAttr]
 exact Ends.pureE rfl rfl
def kDu : Ct
 | [.agg c], _, n => (bfA c).bind fun b => some (dueOK b, { v := .i .i64 (dueS b), n })
 | _, _, _ => none
theorem s50 : SoundAt Try.prog 50 kDu := fun args h n c E hc ht => by
 unfold kDu at hc
 split at hc
 · simp only [Option.bind_eq_some_iff] at hc
   obtain ⟨b, hd, he⟩ := hc
   cases he
   rw [bfA_eq hd]
   exact CallOK.pure (by kernel_rfl) (by simp only [belL, AV.bel, Bf.bel, Bool.and_self]) rfl (w50 b ht) _ _
 · cases hc
end Go.Proofs.Jit
end
section
/- Clone, start; Due. -/
namespace Go.Proofs.Jit
open Go.Ab
set_option maxRecDepth 100000
set_option maxHeartbeats 4000000
set_option linter.unusedSimpArgs false
set_option linter.unusedVariables false
theorem good_len {b : Bf} (e : goodB b = true) : b.l.length ≤ 64 := by
 simp only [goodB, Bool.and_eq_true] at e
 obtain ⟨_, e⟩ := e
 cases hs : b.sd <;> rw [hs] at e
 · simp only [cond_false, emptyB, Bool.and_eq_true, beq_iff_eq] at e
   omega
 · simp only [cond_true, Bool.and_eq_true, decide_eq_true_eq] at e
   exact e.2.2
theorem good_due {b : Bf} (e : goodB b = true) (h : (b.l.length == 0) = false) : dueOK b = true := by
 obtain ⟨ck, ti, sd, wh, nx, mr, of, tr, ji, lo, l⟩ := b
 simp only [goodB, headB, Bool.and_eq_true] at e
 dsimp only at h
 obtain ⟨⟨e1, _, e3, _⟩, e⟩ := e
 cases sd
 · simp only [cond_false, emptyB, Bool.and_eq_true, h] at e
   simp at e
 · simp only [cond_true, midB, Bool.and_eq_true, decide_eq_true_eq] at e
   obtain ⟨⟨_, m1, m2, m3⟩, ⟨hh, _⟩⟩ := e
   cases l with
   | nil => simp at h
   | cons x l =>
    simp only [heldB, Bool.and_eq_true] at hh
    have m1 := inI_t m1
    have m2 := inI_t m2
    have q := inI_t hh.2.1
    have d1 : inI (-1152921504606846976) 1152921504606846976 of = true := inI_of (by omega)
    have d2 : inI 0 1152921504606846976 x.st = true := inI_of (by omega)
    simp only [dueOK, e1, e3, d1, d2, Bool.and_self]
/-! Clone -/
def k55 : Ct
 | [.fz L m], _, n => (unrows 10 hd10 m L).bind fun l => some (decide (l.length ≤ 1000000000), { v := .fz L m, n })
 | _, _, _ => none
theorem s55 : SoundAt Try.prog 55 k55 := fun args h n c E hc ht => by
 unfold k55 at hc
 split at hc
 · rename_i L m
   simp only [Option.bind_eq_some_iff] at hc
   obtain ⟨l, hl, hc⟩ := hc
   obtain ⟨rfl, hm⟩ := unrows_eq (f := Hd.l) (fun c a h => hd10_eq h) hl
   subst hm
   cases hc
   have ht := of_decide_eq_true ht
   exact CallOK.pure (by kernel_rfl) (by simp only [belL, AV.bel, hrB, Bool.and_self]) (by simp only [AV.bel, hrB]) (cln_f mo Try.func55 i55_eq (by rw [rows_len Hd.len]) (rows_one1 Hd.one _) (hrB _ _) (by simp only [growMax]; omega)) _ _
 · cases hc
/-! start -/
theorem lateB_0 {b : Bf} {now : Int} (e : lateB b now = 0) : goodB b = true ∧ inI b.ti 1099511627776 now = true := by
 unfold lateB at e
 cases hg : goodB b
 · rw [hg] at e; simp at e
 · cases hi : inI b.ti 1099511627776 now
   · rw [hg, hi] at e; simp at e
   · exact ⟨rfl, rfl⟩
def T40 : List (Nat × Ct) := [(12, k12), (34, k34), (55, k55)]
theorem hT40 : Sound Try.prog (cxT T40) := Sound.cons s12 (Sound.cons s34 (Sound.cons s55 Sound.nil))
theorem w40e (b : Bf) (now : Int) (hl : b.l.length ≤ 9223372036854775807) (hf : finB b.l = true) (hg : b.rg = true) (he : lateB b now ≠ 0) : FTL Try.prog 40 [.agg b.a, .i .i64 now] [] 0 (.tup [.np, .i .i64 (lateB b now)]) [] 0 := by
 have hba := bfA_a b
 have hll : decide (b.l.length ≤ 9223372036854775807) = true := decide_eq_true hl
 have hk : ∀ (h : Hp) n, k12 [.agg b.a] h n = some (true, { v := .i .i64 (if goodB b then 0 else 260), n }) := fun h n => by simp only [k12, hba, Option.bind_some, hll, hf, hg, Bool.and_self]
 have hR : lateB b now = bif goodB b then (bif inI b.ti 1099511627776 now then 0 else 2) else 260 := rfl
 generalize lateB b now = R at *
 generalize goodB b = g at *
 obtain ⟨ck, ti, sd, wh, nx, mr, of, tr, ji, lo, l⟩ := b
 dsimp only at hR
 simp only [Bf.a] at hk ⊢
 refine FTL.of_iw hT40 mo Try.func40 i40_eq (by simp [i40]) (iw_of_jw ?_)
 dsimp only [i40, T40]
 cases g
 · simp only [Bool.false_eq_true, if_false] at hk
   simp (maxSteps := 400000) only [go_sem, hk, simprocAttr]
   exact Ends.pureE rfl (by rw [hR]; rfl)
 · simp only [if_true] at hk
   cases a1 : inI ti 1099511627776 now
   · rw [a1] at hR
     simp (maxSteps := 400000) only [go_sem, hk, k34, a1, simprocAttr]
     exact Ends.pureE rfl (by rw [hR]; rfl)
   · exact absurd (by rw [hR, a1]; rfl) he
theorem w40 (b : Bf) (now : Int) (hf : finB b.l = true) (hg : b.rg = true) (he : lateB b now = 0) : FTL Try.prog 40 [.agg b.a, .i .i64 now] [] 0 (.tup [.p 0 0, .i .i64 0]) [(0, { cells := Bf.a { b with ti := now } })] 1 := by
 have hba := bfA_a b
 obtain ⟨hgd, a1⟩ := lateB_0 he
 have hln := good_len hgd
 have hll : decide (b.l.length ≤ 9223372036854775807) = true := decide_eq_true (by omega)
 have hk : ∀ (h : Hp) n, k12 [.agg b.a] h n = some (true, { v := .i .i64 0, n }) := fun h n => by simp only [k12, hba, Option.bind_some, hll, hf, hg, hgd, if_true, Bool.and_self]
 have hun := hd_un b.l
 have hl9 : decide (b.l.length ≤ 1000000000) = true := decide_eq_true (by omega)
 have h55 : ∀ (h : Hp) n, k55 [.fz (rows Hd.l b.l) b.l.length] h n = some (true, { v := .fz (rows Hd.l b.l) b.l.length, n }) := fun h n => by simp only [k55, hun, Option.bind_some, hl9]
 obtain ⟨ck, ti, sd, wh, nx, mr, of, tr, ji, lo, l⟩ := b
 dsimp only at a1 h55
 simp only [Bf.a] at hk ⊢
 have hLb : ∀ j, belL j (rows Hd.l l) = true := fun j => hrB j l
 have hLr : ∀ ψ, renL ψ (rows Hd.l l) = rows Hd.l l := fun ψ => hrR ψ l
 refine FTL.of_iw hT40 mo Try.func40 i40_eq (by simp [i40]) (iw_of_jw ?_)
 dsimp only [i40, T40]
 simp (maxSteps := 400000) only [go_sem, hk, k34, a1, h55, simprocAttr]
 refine Ends.R [(0, 1)] ?_ ?_ ?_ ?_ ?_
 · decide
 · decide
 · simp (maxSteps := 400000) only [go_sem, AV.ren, renL, AV.bel, belL, nblt, simprocAttr]
 · simp (maxSteps := 400000) only [go_sem, AV.ren, renL, AV.bel, belL, nblt, hLb, simprocAttr]
 · simp (maxSteps := 400000) only [go_sem, AV.ren, renL, AV.bel, belL, nblt, Blk.ren, hLb, hLr, simprocAttr]
def k40 : Ct
 | [.agg c, .i .i64 now], _, n => (bfA c).bind fun b => if lateB b now = 0 then some (finB b.l && b.rg, { v := .tup [.p n 0, .i .i64 0], n := n + 1, nw := [(n, { cells := Bf.a { b with ti := now } })] })
  else some (decide (b.l.length ≤ 9223372036854775807) && (finB b.l && b.rg), { v := .tup [.np, .i .i64 (lateB b now)], n })
 | _, _, _ => none
theorem s40 : SoundAt Try.prog 40 k40 := fun args h n c E hc ht => by
 unfold k40 at hc
 split at hc
 · rename_i cc now
   simp only [Option.bind_eq_some_iff] at hc
   obtain ⟨b, hd, hc⟩ := hc
   rw [bfA_eq hd]
   have hb : belL 0 [AV.agg b.a, AV.i .i64 now] = true := by simp only [belL, AV.bel, Bf.bel, Bool.and_self]
   split at hc
   · rename_i h0
     cases hc
     simp only [Bool.and_eq_true] at ht
     have := CallOK.new1 (h := h) (n := n) (by kernel_rfl) hb (Bf.bel _) rfl (w40 b _ ht.1 ht.2 h0)
     simpa [AV.ren, renL] using this
   · rename_i h0
     cases hc
     simp only [Bool.and_eq_true, decide_eq_true_eq] at ht
     exact CallOK.pure (by kernel_rfl) hb rfl (w40e b _ ht.1 ht.2.1 ht.2.2 h0) _ _
 · cases hc
/-! Due -/
def dueE (b : Bf) : Int × Int := bif goodB b then (bif (b.l.length == 0) || decide (dueS b > 1099511627776) then (0, 4) else (dueS b, 0)) else (0, 260)
def T21 : List (Nat × Ct) := [(12, k12), (50, kDu)]
theorem hT21 : Sound Try.prog (cxT T21) := Sound.cons s12 (Sound.cons s50 Sound.nil)
theorem w21 (b : Bf) (hl : b.l.length ≤ 9223372036854775807) (hf : finB b.l = true) (hg : b.rg = true) : FTL Try.prog 21 [.agg b.a] [] 0 (.tup [.i .i64 (dueE b).1, .i .i64 (dueE b).2]) [] 0 := by
 have hba := bfA_a b
 have hll : decide (b.l.length ≤ 9223372036854775807) = true := decide_eq_true hl
 have hk : ∀ (h : Hp) n, k12 [.agg b.a] h n = some (true, { v := .i .i64 (if goodB b then 0 else 260), n }) := fun h n => by simp only [k12, hba, Option.bind_some, hll, hf, hg, Bool.and_self]
 have hdu : goodB b = true → (b.l.length == 0) = false → dueOK b = true := good_due
 have hk2 : dueOK b = true → ∀ (h : Hp) n, kDu [.agg b.a] h n = some (true, { v := .i .i64 (dueS b), n }) := fun e h n => by simp only [kDu, hba, Option.bind_some, e]
 have hR : dueE b = bif goodB b then (bif (b.l.length == 0) || decide (dueS b > 1099511627776) then (0, 4) else (dueS b, 0)) else (0, 260) := rfl
 generalize dueE b = R at *
 generalize goodB b = g at *
 generalize dueOK b = dok at *
 generalize dueS b = D at *
 obtain ⟨ck, ti, sd, wh, nx, mr, of, tr, ji, lo, l⟩ := b
 dsimp only at hR hdu
 simp only [Bf.a] at hk hk2 ⊢
 have n1 : ((l.length : Int) == 0) = (l.length == 0) := by rw [Bool.eq_iff_iff]; simp
 refine FTL.of_iw hT21 mo Try.func21 i21_eq (by simp [i21]) (iw_of_jw ?_)
 dsimp only [i21, T21]
 cases g
 · simp only [Bool.false_eq_true, if_false] at hk
   simp (maxSteps := 400000) only [go_sem, hk, simprocAttr]
   exact Ends.pureE rfl (by rw [hR]; rfl)
 simp only [if_true] at hk
 cases a1 : (l.length == 0)
 · have hk2 := hk2 (hdu rfl a1)
   rw [a1] at hR
   cases a2 : decide (D > 1099511627776)
   all_goals
    rw [a2] at hR
    simp (maxSteps := 400000) only [go_sem, hk, hk2, n1, a1, a2, simprocAttr]
    exact Ends.pureE rfl (by rw [hR]; rfl)
 · rw [a1] at hR
   simp (maxSteps := 400000) only [go_sem, hk, n1, a1, simprocAttr]
   exact Ends.pureE rfl (by rw [hR]; rfl)
def k21 : Ct
 | [.agg c], _, n => (bfA c).bind fun b => some (decide (b.l.length ≤ 9223372036854775807) && (finB b.l && b.rg), { v := .tup [.i .i64 (dueE b).1, .i .i64 (dueE b).2], n })
 | _, _, _ => none
theorem s21 : SoundAt Try.prog 21 k21 := fun args h n c E hc ht => by
 unfold k21 at hc
 split at hc
 · simp only [Option.bind_eq_some_iff] at hc
   obtain ⟨b, hd, he⟩ := hc
   cases he
   rw [bfA_eq hd]
   simp only [Bool.and_eq_true, decide_eq_true_eq] at ht
   exact CallOK.pure (by kernel_rfl) (by simp only [belL, AV.bel, Bf.bel, Bool.and_self]) rfl (w21 b ht.1 ht.2.1 ht.2.2) _ _
 · cases hc
end Go.Proofs.Jit
end
section
/- The first frame: first, the reference's Take. -/
namespace Go.Proofs.Jit
open Go.Ab
set_option maxRecDepth 100000
set_option maxHeartbeats 4000000
set_option linter.unusedSimpArgs false
set_option linter.unusedVariables false
def frG (t0 : Int) : Md → List Hd → Nat
 | _, [] => 0
 | v, x :: r => bif !v.ma && ((x.p.tm == t0) && (x.p.sq == (v.sq + 1) % 65536)) then frG t0 x.p r + 1 else 0
def frN : List Hd → Nat
 | [] => 0
 | x :: r => frG x.p.tm x.p r + 1
theorem frG_le (t0 : Int) : ∀ (v : Md) (l : List Hd), frG t0 v l ≤ l.length
 | _, [] => Nat.le_refl _
 | v, x :: r => by
  simp only [frG]
  have := frG_le t0 x.p r
  cases (!v.ma && ((x.p.tm == t0) && (x.p.sq == (v.sq + 1) % 65536)))
  · simp
  · simp; exact this
theorem frN_le : ∀ l : List Hd, frN l ≤ l.length
 | [] => Nat.le_refl _
 | x :: r => by
  simp only [frN, List.length_cons]
  have := frG_le x.p.tm x.p r
  omega
theorem hd_ix {l : List Hd} {k : Nat} {x : Hd} (h : l[k]? = some x) {j : Nat} (hj : j < 10) : (rows Hd.l l)[k * 10 + j]? = x.l[j]? := by
 have := hd_at h
 rw [← this, List.getElem?_take_of_lt hj, List.getElem?_drop]
def sqOK (l : List Hd) : Bool := l.all (fun x => inI 0 65535 x.p.sq)
end Go.Proofs.Jit
end
