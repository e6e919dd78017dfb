/- Texts laid as one: JitC2 JitC3. -/
import Derived.Test.YtcpgamgkbbckoaaJitMa
import Derived.Test.YtcpgamgkbbckoaaJitMb
section
/- Buffers: what is valid (Check, Right). -/
namespace Go.Proofs.Jit
open Go.Ab
set_option maxRecDepth 100000
set_option maxHeartbeats 4000000
set_option linter.unusedSimpArgs false
set_option linter.unusedVariables false
structure Hd where
 p : Md
 st : Int
def Hd.l (x : Hd) : List AV := [.b x.p.ma, .i .i64 x.p.ty, .i .i64 x.p.sq, .i .i64 x.p.tm, .i .i64 x.p.ss, .fz (rows int1 x.p.cs) x.p.cs.length, .fz (rows xtR x.p.xs) x.p.xs.length, .i .i64 x.p.pd, .s x.p.pl, .i .i64 x.st]
theorem Hd.len (x : Hd) : x.l.length = 10 := rfl
theorem Hd.bel (x : Hd) : belL 0 x.l = true := by simp only [Hd.l, belL, AV.bel, rows_bel int1_bel, rows_bel xtR_bel, Bool.and_self]
theorem Hd.one (x : Hd) : oneAll x.l = true := rfl
theorem Hd.inj {a b : Hd} (h : a.l = b.l) : a = b := by
 have hp : a.p = b.p := Md.inj (by
  simp only [Hd.l, List.cons.injEq] at h
  simp only [Md.l, List.cons.injEq]
  obtain ⟨h1, h2, h3, h4, h5, h6, h7, h8, h9, _⟩ := h
  exact ⟨h1, h2, h3, h4, h5, h6, h7, h8, h9, trivial⟩)
 obtain ⟨p, t⟩ := a
 obtain ⟨q, u⟩ := b
 simp only [Hd.l, List.cons.injEq, AV.i.injEq, true_and, and_true] at h
 dsimp only at hp
 obtain ⟨_, _, _, _, _, _, _, _, _, rfl⟩ := h
 rw [hp]
def hd10 : List AV → Option Hd
 | [a, b, c, d, e, f, g, h, i, .i .i64 t] => (md9 [a, b, c, d, e, f, g, h, i]).bind fun p => some ⟨p, t⟩
 | _ => none
theorem hd10_l (x : Hd) : hd10 x.l = some x := by
 have h := md9_l x.p
 simp only [Md.l] at h
 simp only [hd10, Hd.l, h, Option.bind_some]
theorem hd10_eq {c : List AV} {x : Hd} (h : hd10 c = some x) : c = x.l := by
 unfold hd10 at h
 split at h
 · simp only [Option.bind_eq_some_iff, Option.some.injEq] at h
   obtain ⟨p, hp, rfl⟩ := h
   have := md9_eq hp
   simp only [Md.l, List.cons.injEq, and_true] at this
   obtain ⟨rfl, rfl, rfl, rfl, rfl, rfl, rfl, rfl, rfl⟩ := this
   rfl
 · cases h
theorem hd_at {l : List Hd} {k : Nat} {x : Hd} (h : l[k]? = some x) : List.take 10 (List.drop (k * 10) (rows Hd.l l)) = x.l := rows_at Hd.len h
theorem hrB (j : Nat) (l : List Hd) : belL j (rows Hd.l l) = true := belL_mono0 _ (rows_bel Hd.bel)
theorem hrR (ψ : Nat → Nat) (l : List Hd) : renL ψ (rows Hd.l l) = rows Hd.l l := renL_fix0 _ (rows_bel Hd.bel)
structure Bf where
 ck : Int
 ti : Int
 sd : Bool
 wh : Bool
 nx : Int
 mr : Int
 of : Int
 tr : Int
 ji : Int
 lo : Int
 l : List Hd
def Bf.c (b : Bf) (v : AV) : List AV := [.i .i64 b.ck, .i .i64 b.ti, .b b.sd, .b b.wh, .i .i64 b.nx, .i .i64 b.mr, .i .i64 b.of, .i .i64 b.tr, .i .i64 b.ji, .i .i64 b.lo, v]
def Bf.a (b : Bf) : List AV := [.i .i64 b.ck, .i .i64 b.ti, .b b.sd, .b b.wh, .i .i64 b.nx, .i .i64 b.mr, .i .i64 b.of, .i .i64 b.tr, .i .i64 b.ji, .i .i64 b.lo, .fz (rows Hd.l b.l) b.l.length]
theorem Bf.bel (b : Bf) : belL 0 b.a = true := by simp only [Bf.a, belL, AV.bel, hrB, Bool.and_self]
theorem hd_un (l : List Hd) : unrows 10 hd10 l.length (rows Hd.l l) = some l := unrows_rows Hd.len hd10_l l
def bfA : List AV → Option Bf
 | [.i .i64 ck, .i .i64 ti, .b sd, .b wh, .i .i64 nx, .i .i64 mr, .i .i64 of, .i .i64 tr, .i .i64 ji, .i .i64 lo, .fz L m] => (unrows 10 hd10 m L).bind fun l => some ⟨ck, ti, sd, wh, nx, mr, of, tr, ji, lo, l⟩
 | _ => none
theorem bfA_a (b : Bf) : bfA b.a = some b := by
 obtain ⟨ck, ti, sd, wh, nx, mr, of, tr, ji, lo, l⟩ := b
 simp only [bfA, Bf.a, hd_un, Option.bind_some]
theorem bfA_eq {c : List AV} {b : Bf} (e : bfA c = some b) : c = b.a := by
 unfold bfA at e
 split at e
 · simp only [Option.bind_eq_some_iff, Option.some.injEq] at e
   obtain ⟨l, hl, rfl⟩ := e
   obtain ⟨rfl, hm⟩ := unrows_eq (f := Hd.l) (fun c a h => hd10_eq h) hl
   subst hm
   rfl
 · cases e
def r64 (x : Int) : Bool := inI (-9223372036854775808) 9223372036854775807 x
def Bf.rg (b : Bf) : Bool := r64 b.nx && (r64 b.mr && (r64 b.of && (r64 b.tr && (r64 b.ji && r64 b.lo))))
theorem orI_rng (a b : Int) : r64 (orI .i64 a b) = true := by
 unfold orI
 generalize (BitVec.ofInt IntKind.i64.bits a ||| BitVec.ofInt IntKind.i64.bits b) = x
 have := x.isLt
 simp only [IntKind.bits] at this
 unfold r64
 refine inI_of ?_
 have e : ∀ n : Int, -9223372036854775808 ≤ IntKind.i64.wrap n ∧ IntKind.i64.wrap n ≤ 9223372036854775807 := fun n => by
  simp only [IntKind.wrap, IntKind.bits, IntKind.signed]
  simp
  split <;> omega
 exact e _
theorem or0 {a b : Int} (ha : r64 a = true) (hb : r64 b = true) : (orI .i64 a b == 0) = ((a == 0) && (b == 0)) := by
 have ha := inI_t ha
 have hb := inI_t hb
 have key : IntKind.i64.wrap ((BitVec.ofInt 64 a ||| BitVec.ofInt 64 b).toNat : Int) = 0 ↔ a = 0 ∧ b = 0 := by
  have hA : (BitVec.ofInt 64 a).toNat = (a % 18446744073709551616).toNat := by rw [BitVec.toNat_ofInt]; rfl
  have hB : (BitVec.ofInt 64 b).toNat = (b % 18446744073709551616).toNat := by rw [BitVec.toNat_ofInt]; rfl
  constructor
  · intro h
    have h0 : (BitVec.ofInt 64 a ||| BitVec.ofInt 64 b).toNat = 0 := by
     have hlt := (BitVec.ofInt 64 a ||| BitVec.ofInt 64 b).isLt
     generalize (BitVec.ofInt 64 a ||| BitVec.ofInt 64 b).toNat = n at *
     revert h
     simp only [IntKind.wrap, IntKind.bits, IntKind.signed]
     simp
     split <;> omega
    rw [BitVec.toNat_or] at h0
    have l1 : (BitVec.ofInt 64 a).toNat ≤ (BitVec.ofInt 64 a).toNat ||| (BitVec.ofInt 64 b).toNat := Nat.left_le_or
    have l2 : (BitVec.ofInt 64 b).toNat ≤ (BitVec.ofInt 64 a).toNat ||| (BitVec.ofInt 64 b).toNat := Nat.right_le_or
    omega
  · rintro ⟨rfl, rfl⟩; rfl
 rw [Bool.eq_iff_iff, beq_iff_eq, Bool.and_eq_true, beq_iff_eq, beq_iff_eq]
 exact key
/-! what is valid -/
def headB (b : Bf) : Bool := inI 1 96 b.ck && (inI 0 1099511627776 b.ti && (inI 0 1048576 b.ji && inI 0 1099511627776 b.lo))
def zerosB (b : Bf) : Bool := (b.nx == 0) && ((b.mr == 0) && ((b.of == 0) && ((b.tr == 0) && ((b.ji == 0) && (b.lo == 0)))))
def emptyB (b : Bf) : Bool := !b.wh && (zerosB b && (b.l.length == 0))
def midB (b : Bf) : Bool := inI 0 65535 b.nx && (inI 0 1152921504606846976 b.mr && (inI (-1152921504606846976) b.tr b.of && decide (b.tr ≤ 1152921504606846976)))
def heldB (nx mr : Int) : Int → List Hd → Bool
 | _, [] => true
 | last, x :: r => mdB x.p && (inI 0 mr x.st && ((x.st % 4294967296 == x.p.tm) && (inI (last + 1) 511 (lead x.p.sq nx) && heldB nx mr (lead x.p.sq nx) r)))
def goodB (b : Bf) : Bool := headB b && bif b.sd then midB b && (heldB b.nx b.mr (-1) b.l && decide (b.l.length ≤ 64)) else emptyB b
def ldN (nx : Int) (l : List Hd) : Nat → Int
 | 0 => -1
 | k + 1 => match l[k]? with
  | some x => lead x.p.sq nx
  | none => 0
theorem ldN_rng (nx : Int) (l : List Hd) (k : Nat) : -32768 ≤ ldN nx l k ∧ ldN nx l k ≤ 32767 := by
 unfold ldN
 split
 · omega
 · split
   · exact lead_rng _ _
   · omega
def finB (l : List Hd) : Bool := l.all (fun x => x.p.fin)
/-! held -/
def T35 : List (Nat × Ct) := [(34, k34), (41, k41), (43, k43)]
theorem hT35 : Sound Try.prog (cxT T35) := Sound.cons s34 (Sound.cons s41 (Sound.cons s43 Sound.nil))
theorem w35 (b : Bf) (hl : b.l.length ≤ 9223372036854775807) (hf : finB b.l = true) (hnx : inI 0 65535 b.nx = true) : FTL Try.prog 35 [.agg b.a] [] 0 (.b (heldB b.nx b.mr (-1) b.l && decide (b.l.length ≤ 64))) [] 0 := by
 obtain ⟨ck, ti, sd, wh, nx, mr, of, tr, ji, lo, l⟩ := b
 dsimp only at hl hf hnx ⊢
 simp only [Bf.a]
 simp only [finB, List.all_eq_true] at hf
 have hLb : ∀ j, belL j (rows Hd.l l) = true := fun j => hrB j l
 generalize hgd : heldB nx mr (-1) l = gd
 refine FTL.of_iw hT35 mo Try.func35 i35_eq (by simp [i35]) (iw_of_jw ?_)
 dsimp only [i35, T35]
 simp (maxSteps := 400000) only [go_sem, simprocAttr]
 refine Loop.countI (F := ⟨Try.prog, cxT T35, [11, 34, 45], 52, 0⟩) hT35 mo l.length (fun k => gd = heldB nx mr (ldN nx l k) (l.drop k))
  (fun k => [(1, .p 0 0), (3, .i .i64 (ldN nx l k)), (8, .fz (rows Hd.l l) l.length), (9, .i .i64 (l.length : Int)), (10, .i .i64 (k : Int))])
  (fun k => [(0, { cells := [.i .i64 ck, .i .i64 ti, .b sd, .b wh, .i .i64 nx, .i .i64 mr, .i .i64 of, .i .i64 tr, .i .i64 ji, .i .i64 lo, .fz (rows Hd.l l) l.length] })]) 1 (by decide) hgd.symm ?_ ?_ (fun k hk hinv => ?_)
 · simp (maxSteps := 400000) only [go_sem, ldN, hLb, AV.bel, belL, nblt, simprocAttr]
 · simp (maxSteps := 400000) only [go_sem, hLb, AV.bel, belL, nblt, simprocAttr]
 dsimp only [T35]
 by_cases hlt : k < l.length
 · have c1 : decide ((k : Int) < (l.length : Int)) = true := decide_eq_true (by omega)
   have c2 : decide (0 ≤ (k : Int) ∧ (k : Int) < (l.length : Int)) = true := decide_eq_true (by omega)
   have hw : IntKind.i64.wrap ((k : Int) + 1) = ((k + 1 : Nat) : Int) := by rw [wrapL (by omega) (by omega)]; omega
   obtain ⟨x, hx⟩ : ∃ x, l[k]? = some x := ⟨_, List.getElem?_eq_getElem hlt⟩
   have hr := hd_at hx
   have hdr : l.drop k = x :: l.drop (k + 1) := by
    rw [List.drop_eq_getElem_cons hlt]
    rw [List.getElem?_eq_getElem hlt] at hx
    cases hx; rfl
   have hls : ldN nx l (k + 1) = lead x.p.sq nx := by simp only [ldN, hx]
   have hrg := ldN_rng nx l k
   have hw3 : IntKind.i64.wrap (ldN nx l k + 1) = ldN nx l k + 1 := wrapL (by omega) (by omega)
   have hxf := hf x (List.mem_of_getElem? hx)
   rw [hls]
   rw [hdr] at hinv
   simp only [heldB] at hinv
   generalize ldN nx l k = ld at *
   have h9 := md9_l x.p
   have hk41 : ∀ (h : Hp) n, k41 [.agg x.p.l] h n = some (true, { v := .i .i64 (if mdB x.p then 0 else 230), n }) := fun h n => by
    simp only [k41, h9, Option.bind_some, hxf]
   have hsq : mdB x.p = true → inI 0 65535 x.p.sq = true := mdB_sq
   have hk43 : ∀ (h : Hp) n, mdB x.p = true → k43 [.i .i64 x.p.sq, .i .i64 nx, .i .i64 16] h n = some (true, { v := .i .i64 (lead x.p.sq nx), n }) := fun h n hm => by simp only [k43, hsq hm, hnx, Bool.and_self]
   have hB1 := csB 1 x.p.cs
   have hB2 := xsB 1 x.p.xs
   have n1 : (x.st % 4294967296 != x.p.tm) = !(x.st % 4294967296 == x.p.tm) := rfl
   generalize lead x.p.sq nx = d at *
   generalize mdB x.p = mb at *
   obtain ⟨⟨ma, pty, sq, tm, pss, cs, xs, pd, pl⟩, xt⟩ := x
   simp only [Hd.l, Md.l] at hr hk41
   dsimp only at hinv hk43 n1
   cases mb
   · simp only [Bool.false_eq_true, if_false] at hk41
     simp (maxSteps := 400000) only [go_sem, c1, c2, hr, hk41, simprocAttr]
     exact Ends.pureE rfl (by rw [hinv]; rfl)
   simp only [if_true] at hk41
   have hk43 := fun h n => hk43 h n rfl
   cases b1 : inI 0 mr xt
   · rw [b1] at hinv
     simp (maxSteps := 400000) only [go_sem, c1, c2, hr, hk41, k34, b1, simprocAttr]
     exact Ends.pureE rfl (by rw [hinv]; rfl)
   cases b2 : (xt % 4294967296 == tm)
   · rw [b1, b2] at hinv
     simp (maxSteps := 400000) only [go_sem, c1, c2, hr, hk41, k34, b1, and32, n1, b2, simprocAttr]
     exact Ends.pureE rfl (by rw [hinv]; rfl)
   cases b3 : inI (ld + 1) 511 d
   · rw [b1, b2, b3] at hinv
     simp (maxSteps := 400000) only [go_sem, c1, c2, hr, hk41, hk43, hw3, k34, b1, and32, n1, b2, b3, simprocAttr]
     exact Ends.pureE rfl (by rw [hinv]; rfl)
   rw [b1, b2, b3] at hinv
   simp only [Bool.true_and] at hinv
   simp (maxSteps := 400000) only [go_sem, c1, c2, hr, hw, hk41, hk43, hw3, k34, b1, and32, n1, b2, b3, hlt, hLb, AV.bel, belL, nblt, simprocAttr]
   exact hinv
 · have c1 : decide ((k : Int) < (l.length : Int)) = false := decide_eq_false (by omega)
   obtain rfl : k = l.length := by omega
   rw [List.drop_length] at hinv
   have n1 : decide ((l.length : Int) ≤ 64) = decide (l.length ≤ 64) := by rw [Bool.eq_iff_iff]; simp; omega
   simp (maxSteps := 400000) only [go_sem, c1, n1, simprocAttr]
   exact Ends.pureE rfl (by rw [hinv]; rfl)
def k35 : Ct
 | [.agg c], _, n => (bfA c).bind fun b => some (decide (b.l.length ≤ 9223372036854775807) && (finB b.l && inI 0 65535 b.nx), { v := .b (heldB b.nx b.mr (-1) b.l && decide (b.l.length ≤ 64)), n })
 | _, _, _ => none
theorem s35 : SoundAt Try.prog 35 k35 := fun args h n c E hc ht => by
 unfold k35 at hc
 split at hc
 · simp only [Option.bind_eq_some_iff] at hc
   obtain ⟨b, hd, he⟩ := hc
   cases he
   rw [bfA_eq hd]
   simp only [Bool.and_eq_true, decide_eq_true_eq] at ht
   exact CallOK.pure (by kernel_rfl) (by simp only [belL, AV.bel, Bf.bel, Bool.and_self]) rfl (w35 b ht.1 ht.2.1 ht.2.2) _ _
 · cases hc
end Go.Proofs.Jit
end
section
/- Buffers: Check, Right, late. -/
namespace Go.Proofs.Jit
open Go.Ab
set_option maxRecDepth 100000
set_option maxHeartbeats 4000000
set_option linter.unusedSimpArgs false
set_option linter.unusedVariables false
/-! Check -/
def T12 : List (Nat × Ct) := [(34, k34), (35, k35)]
theorem hT12 : Sound Try.prog (cxT T12) := Sound.cons s34 (Sound.cons s35 Sound.nil)
theorem w12 (b : Bf) (hl : b.l.length ≤ 9223372036854775807) (hf : finB b.l = true) (hg : b.rg = true) : FTL Try.prog 12 [.agg b.a] [] 0 (.i .i64 (if goodB b then 0 else 260)) [] 0 := by
 have hba := bfA_a b
 have hll : decide (b.l.length ≤ 9223372036854775807) = true := decide_eq_true hl
 have hk35 : ∀ (h : Hp) n, inI 0 65535 b.nx = true → k35 [.agg b.a] h n = some (true, { v := .b (heldB b.nx b.mr (-1) b.l && decide (b.l.length ≤ 64)), n }) := fun h n hx => by simp only [k35, hba, Option.bind_some, hll, hf, hx, Bool.and_self]
 have hgd : goodB b = ((inI 1 96 b.ck && (inI 0 1099511627776 b.ti && (inI 0 1048576 b.ji && inI 0 1099511627776 b.lo))) && bif b.sd then (inI 0 65535 b.nx && (inI 0 1152921504606846976 b.mr && (inI (-1152921504606846976) b.tr b.of && decide (b.tr ≤ 1152921504606846976)))) && (heldB b.nx b.mr (-1) b.l && decide (b.l.length ≤ 64)) else (!b.wh && (((b.nx == 0) && ((b.mr == 0) && ((b.of == 0) && ((b.tr == 0) && ((b.ji == 0) && (b.lo == 0)))))) && (b.l.length == 0)))) := rfl
 generalize goodB b = gd at *
 generalize (heldB b.nx b.mr (-1) b.l && decide (b.l.length ≤ 64)) = HB at *
 have hor : (orI .i64 (orI .i64 (orI .i64 (orI .i64 (orI .i64 b.nx b.mr) b.of) b.tr) b.ji) b.lo == 0) = ((b.nx == 0) && ((b.mr == 0) && ((b.of == 0) && ((b.tr == 0) && ((b.ji == 0) && (b.lo == 0)))))) := by
  simp only [Bf.rg, Bool.and_eq_true] at hg
  obtain ⟨g1, g2, g3, g4, g5, g6⟩ := hg
  rw [or0 (orI_rng _ _) g6, or0 (orI_rng _ _) g5, or0 (orI_rng _ _) g4, or0 (orI_rng _ _) g3, or0 g1 g2]
  simp only [Bool.and_assoc]
 rw [← hor] at hgd
 clear hor
 generalize hOB : (orI .i64 (orI .i64 (orI .i64 (orI .i64 (orI .i64 b.nx b.mr) b.of) b.tr) b.ji) b.lo == 0) = OB at *
 clear hg
 obtain ⟨ck, ti, sd, wh, nx, mr, of, tr, ji, lo, l⟩ := b
 dsimp only at hl hf hgd hOB
 simp only [Bf.a] at hk35 ⊢
 have n1 : ((l.length : Int) == 0) = (l.length == 0) := by rw [Bool.eq_iff_iff]; simp
 refine FTL.of_iw hT12 mo Try.func12 i12_eq (by simp [i12]) (iw_of_jw ?_)
 dsimp only [i12, T12]
 cases sd
 · cases a1 : inI 1 96 ck
   · rw [a1] at hgd
     simp (maxSteps := 400000) only [go_sem, k34, hOB, n1, a1, simprocAttr]
     exact Ends.pureE rfl (by rw [hgd]; rfl)
   cases a2 : inI 0 1099511627776 ti
   · rw [a1, a2] at hgd
     simp (maxSteps := 400000) only [go_sem, k34, hOB, n1, a1, a2, simprocAttr]
     exact Ends.pureE rfl (by rw [hgd]; rfl)
   cases a3 : inI 0 1048576 ji
   · rw [a1, a2, a3] at hgd
     simp (maxSteps := 400000) only [go_sem, k34, hOB, n1, a1, a2, a3, simprocAttr]
     exact Ends.pureE rfl (by rw [hgd]; rfl)
   cases a4 : inI 0 1099511627776 lo
   · rw [a1, a2, a3, a4] at hgd
     simp (maxSteps := 400000) only [go_sem, k34, hOB, n1, a1, a2, a3, a4, simprocAttr]
     exact Ends.pureE rfl (by rw [hgd]; rfl)
   rw [a1, a2, a3, a4] at hgd
   cases wh
   rotate_left
   · simp (maxSteps := 400000) only [go_sem, k34, hOB, n1, a1, a2, a3, a4, simprocAttr]
     exact Ends.pureE rfl (by rw [hgd]; rfl)
   cases OB
   · simp (maxSteps := 400000) only [go_sem, k34, hOB, n1, a1, a2, a3, a4, simprocAttr]
     exact Ends.pureE rfl (by rw [hgd]; rfl)
   cases b2 : (l.length == 0)
   all_goals
    rw [b2] at hgd
    simp (maxSteps := 400000) only [go_sem, k34, hOB, n1, a1, a2, a3, a4, b2, simprocAttr]
    exact Ends.pureE rfl (by rw [hgd]; rfl)
 · cases a1 : inI 1 96 ck
   · rw [a1] at hgd
     simp (maxSteps := 400000) only [go_sem, k34, a1, simprocAttr]
     exact Ends.pureE rfl (by rw [hgd]; rfl)
   cases a2 : inI 0 1099511627776 ti
   · rw [a1, a2] at hgd
     simp (maxSteps := 400000) only [go_sem, k34, a1, a2, simprocAttr]
     exact Ends.pureE rfl (by rw [hgd]; rfl)
   cases a3 : inI 0 1048576 ji
   · rw [a1, a2, a3] at hgd
     simp (maxSteps := 400000) only [go_sem, k34, a1, a2, a3, simprocAttr]
     exact Ends.pureE rfl (by rw [hgd]; rfl)
   cases a4 : inI 0 1099511627776 lo
   · rw [a1, a2, a3, a4] at hgd
     simp (maxSteps := 400000) only [go_sem, k34, a1, a2, a3, a4, simprocAttr]
     exact Ends.pureE rfl (by rw [hgd]; rfl)
   rw [a1, a2, a3, a4] at hgd
   cases b1 : inI 0 65535 nx
   · rw [b1] at hgd
     simp (maxSteps := 400000) only [go_sem, k34, a1, a2, a3, a4, b1, simprocAttr]
     exact Ends.pureE rfl (by rw [hgd]; rfl)
   have hk35 := fun h n => hk35 h n b1
   cases b2 : inI 0 1152921504606846976 mr
   · rw [b1, b2] at hgd
     simp (maxSteps := 400000) only [go_sem, k34, a1, a2, a3, a4, b1, b2, simprocAttr]
     exact Ends.pureE rfl (by rw [hgd]; rfl)
   cases b3 : inI (-1152921504606846976) tr of
   · rw [b1, b2, b3] at hgd
     simp (maxSteps := 400000) only [go_sem, k34, a1, a2, a3, a4, b1, b2, b3, simprocAttr]
     exact Ends.pureE rfl (by rw [hgd]; rfl)
   cases b4 : decide (tr ≤ 1152921504606846976)
   · rw [b1, b2, b3, b4] at hgd
     simp (maxSteps := 400000) only [go_sem, k34, a1, a2, a3, a4, b1, b2, b3, b4, simprocAttr]
     exact Ends.pureE rfl (by rw [hgd]; rfl)
   rw [b1, b2, b3, b4] at hgd
   cases HB
   all_goals
    simp (maxSteps := 400000) only [go_sem, k34, hk35, a1, a2, a3, a4, b1, b2, b3, b4, simprocAttr]
    exact Ends.pureE rfl (by rw [hgd]; rfl)
def k12 : Ct
 | [.agg c], _, n => (bfA c).bind fun b => some (decide (b.l.length ≤ 9223372036854775807) && (finB b.l && b.rg), { v := .i .i64 (if goodB b then 0 else 260), n })
 | _, _, _ => none
theorem s12 : SoundAt Try.prog 12 k12 := fun args h n c E hc ht => by
 unfold k12 at hc
 split at hc
 · simp only [Option.bind_eq_some_iff] at hc
   obtain ⟨b, hd, he⟩ := hc
   cases he
   rw [bfA_eq hd]
   simp only [Bool.and_eq_true, decide_eq_true_eq] at ht
   exact CallOK.pure (by kernel_rfl) (by simp only [belL, AV.bel, Bf.bel, Bool.and_self]) rfl (w12 b ht.1 ht.2.1 ht.2.2) _ _
 · cases hc
/-! empty -/
theorem w36 (b : Bf) : FTL Try.prog 36 [.agg b.a] [] 0 (.b (emptyB b)) [] 0 := by
 have hgd : emptyB b = (!b.wh && (((b.nx == 0) && ((b.mr == 0) && ((b.of == 0) && ((b.tr == 0) && ((b.ji == 0) && (b.lo == 0)))))) && (b.l.length == 0))) := rfl
 generalize emptyB b = gd at *
 obtain ⟨ck, ti, sd, wh, nx, mr, of, tr, ji, lo, l⟩ := b
 dsimp only at hgd
 simp only [Bf.a]
 have n1 : ((l.length : Int) == 0) = (l.length == 0) := by rw [Bool.eq_iff_iff]; simp
 refine FTL.of_iw Sound.nil mo Try.func36 i36_eq (by simp [i36]) (iw_of_jw ?_)
 dsimp only [i36]
 cases wh
 rotate_left
 · simp (maxSteps := 400000) only [go_sem, n1, simprocAttr]
   exact Ends.pureE rfl (by rw [hgd]; rfl)
 cases b1 : (nx == 0)
 · rw [b1] at hgd
   simp (maxSteps := 400000) only [go_sem, n1, b1, simprocAttr]
   exact Ends.pureE rfl (by rw [hgd]; rfl)
 cases b2 : (mr == 0)
 · rw [b1, b2] at hgd
   simp (maxSteps := 400000) only [go_sem, n1, b1, b2, simprocAttr]
   exact Ends.pureE rfl (by rw [hgd]; rfl)
 cases b3 : (of == 0)
 · rw [b1, b2, b3] at hgd
   simp (maxSteps := 400000) only [go_sem, n1, b1, b2, b3, simprocAttr]
   exact Ends.pureE rfl (by rw [hgd]; rfl)
 cases b4 : (tr == 0)
 · rw [b1, b2, b3, b4] at hgd
   simp (maxSteps := 400000) only [go_sem, n1, b1, b2, b3, b4, simprocAttr]
   exact Ends.pureE rfl (by rw [hgd]; rfl)
 cases b5 : (ji == 0)
 · rw [b1, b2, b3, b4, b5] at hgd
   simp (maxSteps := 400000) only [go_sem, n1, b1, b2, b3, b4, b5, simprocAttr]
   exact Ends.pureE rfl (by rw [hgd]; rfl)
 cases b6 : (lo == 0)
 · rw [b1, b2, b3, b4, b5, b6] at hgd
   simp (maxSteps := 400000) only [go_sem, n1, b1, b2, b3, b4, b5, b6, simprocAttr]
   exact Ends.pureE rfl (by rw [hgd]; rfl)
 cases b7 : (l.length == 0)
 · rw [b1, b2, b3, b4, b5, b6, b7] at hgd
   simp (maxSteps := 400000) only [go_sem, n1, b1, b2, b3, b4, b5, b6, b7, simprocAttr]
   exact Ends.pureE rfl (by rw [hgd]; rfl)
 rw [b1, b2, b3, b4, b5, b6, b7] at hgd
 simp (maxSteps := 400000) only [go_sem, n1, b1, b2, b3, b4, b5, b6, b7, simprocAttr]
 exact Ends.pureE rfl (by rw [hgd]; rfl)
def k36 : Ct
 | [.agg c], _, n => (bfA c).bind fun b => some (true, { v := .b (emptyB b), n })
 | _, _, _ => none
theorem s36 : SoundAt Try.prog 36 k36 := fun args h n c E hc ht => by
 unfold k36 at hc
 split at hc
 · simp only [Option.bind_eq_some_iff] at hc
   obtain ⟨b, hd, he⟩ := hc
   cases he
   rw [bfA_eq hd]
   exact CallOK.pure (by kernel_rfl) (by simp only [belL, AV.bel, Bf.bel, Bool.and_self]) rfl (w36 b) _ _
 · cases hc
theorem inI_no1 {lo hi x : Int} (h : decide (x < lo) = true) : inI lo hi x = false := by simp only [inI]; rw [decide_eq_false (p := lo ≤ x) (by have := of_decide_eq_true h; omega)]; rfl
theorem inI_no2 {lo hi x : Int} (h : decide (x > hi) = true) : inI lo hi x = false := by simp only [inI]; rw [decide_eq_false (p := x ≤ hi) (by have := of_decide_eq_true h; omega), Bool.and_false]
theorem inI_yes {lo hi x : Int} (h : decide (x < lo) = false) (h2 : decide (x > hi) = false) : inI lo hi x = true := inI_of (by have := of_decide_eq_false h; have := of_decide_eq_false h2; omega)
/-! Right -/
def T13 : List (Nat × Ct) := [(36, k36), (37, k37), (38, k38)]
theorem hT13 : Sound Try.prog (cxT T13) := Sound.cons s36 (Sound.cons s37 (Sound.cons s38 Sound.nil))
theorem w13 (b : Bf) (hl : b.l.length ≤ 9223372036854775807) : FTL Try.prog 13 [.agg b.a] [] 0 (.b (goodB b)) [] 0 := by
 have hba := bfA_a b
 have hk36 : ∀ (h : Hp) n, k36 [.agg b.a] h n = some (true, { v := .b (emptyB b), n }) := fun h n => by simp only [k36, hba, Option.bind_some]
 have hgd : goodB b = ((inI 1 96 b.ck && (inI 0 1099511627776 b.ti && (inI 0 1048576 b.ji && inI 0 1099511627776 b.lo))) && bif b.sd then (inI 0 65535 b.nx && (inI 0 1152921504606846976 b.mr && (inI (-1152921504606846976) b.tr b.of && decide (b.tr ≤ 1152921504606846976)))) && (heldB b.nx b.mr (-1) b.l && decide (b.l.length ≤ 64)) else emptyB b) := rfl
 generalize goodB b = gd at *
 generalize emptyB b = EB at *
 obtain ⟨ck, ti, sd, wh, nx, mr, of, tr, ji, lo, l⟩ := b
 dsimp only at hl hgd
 simp only [Bf.a] at hk36 ⊢
 have n1 : decide ((l.length : Int) > 64) = !decide (l.length ≤ 64) := by rw [Bool.eq_iff_iff]; simp; omega
 have hLb : ∀ j, belL j (rows Hd.l l) = true := fun j => hrB j l
 refine FTL.of_iw hT13 mo Try.func13 i13_eq (by simp [i13]) (iw_of_jw ?_)
 dsimp only [i13, T13]
 cases a1 : decide (ck < 1)
 rotate_left
 · rw [inI_no1 a1] at hgd
   simp (maxSteps := 400000) only [go_sem, a1, simprocAttr]
   exact Ends.pureE rfl (by rw [hgd]; simp)
 cases a2 : decide (ck > 96)
 rotate_left
 · rw [inI_no2 a2] at hgd
   simp (maxSteps := 400000) only [go_sem, a1, a2, simprocAttr]
   exact Ends.pureE rfl (by rw [hgd]; simp)
 cases b1 : decide (ti < 0)
 rotate_left
 · rw [inI_no1 b1, inI_yes a1 a2] at hgd
   simp (maxSteps := 400000) only [go_sem, a1, a2, b1, simprocAttr]
   exact Ends.pureE rfl (by rw [hgd]; simp)
 cases b2 : decide (ti > 1099511627776)
 rotate_left
 · rw [inI_no2 b2, inI_yes a1 a2] at hgd
   simp (maxSteps := 400000) only [go_sem, a1, a2, b1, b2, simprocAttr]
   exact Ends.pureE rfl (by rw [hgd]; simp)
 cases c1 : decide (ji < 0)
 rotate_left
 · rw [inI_no1 c1, inI_yes a1 a2, inI_yes b1 b2] at hgd
   simp (maxSteps := 400000) only [go_sem, a1, a2, b1, b2, c1, simprocAttr]
   exact Ends.pureE rfl (by rw [hgd]; simp)
 cases c2 : decide (ji > 1048576)
 rotate_left
 · rw [inI_no2 c2, inI_yes a1 a2, inI_yes b1 b2] at hgd
   simp (maxSteps := 400000) only [go_sem, a1, a2, b1, b2, c1, c2, simprocAttr]
   exact Ends.pureE rfl (by rw [hgd]; simp)
 cases d1 : decide (lo < 0)
 rotate_left
 · rw [inI_no1 d1, inI_yes a1 a2, inI_yes b1 b2, inI_yes c1 c2] at hgd
   simp (maxSteps := 400000) only [go_sem, a1, a2, b1, b2, c1, c2, d1, simprocAttr]
   exact Ends.pureE rfl (by rw [hgd]; simp)
 cases d2 : decide (lo > 1099511627776)
 rotate_left
 · rw [inI_no2 d2, inI_yes a1 a2, inI_yes b1 b2, inI_yes c1 c2] at hgd
   simp (maxSteps := 400000) only [go_sem, a1, a2, b1, b2, c1, c2, d1, d2, simprocAttr]
   exact Ends.pureE rfl (by rw [hgd]; simp)
 rw [inI_yes a1 a2, inI_yes b1 b2, inI_yes c1 c2, inI_yes d1 d2] at hgd
 cases sd
 · simp (maxSteps := 400000) only [go_sem, hk36, a1, a2, b1, b2, c1, c2, d1, d2, simprocAttr]
   exact Ends.pureE rfl (by rw [hgd]; rfl)
 cases e1 : decide (nx < 0)
 rotate_left
 · rw [inI_no1 e1] at hgd
   simp (maxSteps := 400000) only [go_sem, a1, a2, b1, b2, c1, c2, d1, d2, e1, simprocAttr]
   exact Ends.pureE rfl (by rw [hgd]; simp)
 cases e2 : decide (nx > 65535)
 rotate_left
 · rw [inI_no2 e2] at hgd
   simp (maxSteps := 400000) only [go_sem, a1, a2, b1, b2, c1, c2, d1, d2, e1, e2, simprocAttr]
   exact Ends.pureE rfl (by rw [hgd]; simp)
 cases f1 : decide (mr < 0)
 rotate_left
 · rw [inI_no1 f1, inI_yes e1 e2] at hgd
   simp (maxSteps := 400000) only [go_sem, a1, a2, b1, b2, c1, c2, d1, d2, e1, e2, f1, simprocAttr]
   exact Ends.pureE rfl (by rw [hgd]; simp)
 cases f2 : decide (mr > 1152921504606846976)
 rotate_left
 · rw [inI_no2 f2, inI_yes e1 e2] at hgd
   simp (maxSteps := 400000) only [go_sem, a1, a2, b1, b2, c1, c2, d1, d2, e1, e2, f1, f2, simprocAttr]
   exact Ends.pureE rfl (by rw [hgd]; simp)
 cases g1 : decide (of < -1152921504606846976)
 rotate_left
 · rw [inI_no1 g1] at hgd
   simp (maxSteps := 400000) only [go_sem, a1, a2, b1, b2, c1, c2, d1, d2, e1, e2, f1, f2, g1, simprocAttr]
   exact Ends.pureE rfl (by rw [hgd]; simp)
 cases g2 : decide (of > tr)
 rotate_left
 · rw [inI_no2 g2] at hgd
   simp (maxSteps := 400000) only [go_sem, a1, a2, b1, b2, c1, c2, d1, d2, e1, e2, f1, f2, g1, g2, simprocAttr]
   exact Ends.pureE rfl (by rw [hgd]; simp)
 have n2 : decide (tr > 1152921504606846976) = !decide (tr ≤ 1152921504606846976) := by rw [Bool.eq_iff_iff]; simp
 cases h1 : decide (tr ≤ 1152921504606846976)
 · rw [h1] at hgd
   simp (maxSteps := 400000) only [go_sem, a1, a2, b1, b2, c1, c2, d1, d2, e1, e2, f1, f2, g1, g2, n2, h1, simprocAttr]
   exact Ends.pureE rfl (by rw [hgd]; simp)
 cases h2 : decide (l.length ≤ 64)
 · rw [h2] at hgd
   simp (maxSteps := 400000) only [go_sem, a1, a2, b1, b2, c1, c2, d1, d2, e1, e2, f1, f2, g1, g2, n2, h1, n1, h2, simprocAttr]
   exact Ends.pureE rfl (by rw [hgd]; simp)
 have hnx := inI_yes e1 e2
 rw [hnx, inI_yes f1 f2, inI_yes g1 g2, h1, h2] at hgd
 simp only [Bool.true_and, Bool.and_true, cond_true] at hgd
 simp (maxSteps := 400000) only [go_sem, a1, a2, b1, b2, c1, c2, d1, d2, e1, e2, f1, f2, g1, g2, n2, h1, n1, h2, simprocAttr]
 refine Loop.countI (F := ⟨Try.prog, cxT T13, [44, 47, 90, 95, 127, 140], 142, 0⟩) hT13 mo l.length (fun k => gd = heldB nx mr (ldN nx l k) (l.drop k))
  (fun k => [(1, .p 0 0), (3, .i .i64 (ldN nx l k)), (4, .i .i64 (k : Int))])
  (fun k => [(0, { cells := [.i .i64 ck, .i .i64 ti, .b true, .b wh, .i .i64 nx, .i .i64 mr, .i .i64 of, .i .i64 tr, .i .i64 ji, .i .i64 lo, .fz (rows Hd.l l) l.length] })]) 1 (by decide) hgd ?_ ?_ (fun k hk hinv => ?_)
 · simp (maxSteps := 400000) only [go_sem, ldN, hLb, AV.bel, belL, nblt, simprocAttr]
 · simp (maxSteps := 400000) only [go_sem, hLb, AV.bel, belL, nblt, simprocAttr]
 dsimp only [T13]
 by_cases hlt : k < l.length
 · have c1 : decide ((k : Int) < (l.length : Int)) = true := decide_eq_true (by omega)
   have c2 : decide (0 ≤ (k : Int) ∧ (k : Int) < (l.length : Int)) = true := decide_eq_true (by omega)
   have hw : IntKind.i64.wrap ((k : Int) + 1) = ((k + 1 : Nat) : Int) := by rw [wrapL (by omega) (by omega)]; omega
   obtain ⟨x, hx⟩ : ∃ x, l[k]? = some x := ⟨_, List.getElem?_eq_getElem hlt⟩
   have hr := hd_at hx
   have hdr : l.drop k = x :: l.drop (k + 1) := by
    rw [List.drop_eq_getElem_cons hlt]
    rw [List.getElem?_eq_getElem hlt] at hx
    cases hx; rfl
   have hls : ldN nx l (k + 1) = lead x.p.sq nx := by simp only [ldN, hx]
   rw [hls]
   rw [hdr] at hinv
   simp only [heldB] at hinv
   generalize ldN nx l k = ld at *
   have h9 := md9_l x.p
   have hk37 : ∀ (h : Hp) n, k37 [.agg x.p.l] h n = some (true, { v := .b (mdB x.p), n }) := fun h n => by simp only [k37, h9, Option.bind_some]
   have hsq : mdB x.p = true → inI 0 65535 x.p.sq = true := mdB_sq
   have hk38 : ∀ (h : Hp) n, mdB x.p = true → k38 [.i .i64 x.p.sq, .i .i64 nx, .i .i64 16] h n = some (true, { v := .i .i64 (lead x.p.sq nx), n }) := fun h n hm => by simp only [k38, hsq hm, hnx, Bool.and_self]
   have hB1 := csB 1 x.p.cs
   have hB2 := xsB 1 x.p.xs
   generalize lead x.p.sq nx = d at *
   generalize mdB x.p = mb at *
   obtain ⟨⟨ma, pty, sq, tm, pss, cs, xs, pd, pl⟩, xt⟩ := x
   simp only [Hd.l, Md.l] at hr hk37
   dsimp only at hinv hk38
   cases mb
   · simp (maxSteps := 400000) only [go_sem, c1, c2, hr, hk37, simprocAttr]
     exact Ends.pureE rfl (by rw [hinv]; rfl)
   have hk38 := fun h n => hk38 h n rfl
   cases p1 : decide (xt < 0)
   rotate_left
   · rw [inI_no1 p1] at hinv
     simp (maxSteps := 400000) only [go_sem, c1, c2, hr, hk37, p1, simprocAttr]
     exact Ends.pureE rfl (by rw [hinv]; rfl)
   cases p2 : decide (xt > mr)
   rotate_left
   · rw [inI_no2 p2] at hinv
     simp (maxSteps := 400000) only [go_sem, c1, c2, hr, hk37, p1, p2, simprocAttr]
     exact Ends.pureE rfl (by rw [hinv]; rfl)
   rw [inI_yes p1 p2] at hinv
   have m1 : xt.tmod 4294967296 = xt % 4294967296 := Int.tmod_eq_emod_of_nonneg (by have := of_decide_eq_false p1; omega)
   have m2 : IntKind.i64.wrap (xt % 4294967296) = xt % 4294967296 := wrapL (by omega) (by omega)
   have m3 : (xt % 4294967296 != tm) = !(xt % 4294967296 == tm) := rfl
   cases q2 : (xt % 4294967296 == tm)
   · rw [q2] at hinv
     simp (maxSteps := 400000) only [go_sem, c1, c2, hr, hk37, p1, p2, m1, m2, m3, q2, simprocAttr]
     exact Ends.pureE rfl (by rw [hinv]; rfl)
   rw [q2] at hinv
   have n3 : decide (d ≤ ld) = decide (d < ld + 1) := by rw [Bool.eq_iff_iff, decide_eq_true_eq, decide_eq_true_eq]; omega
   cases q3 : decide (d < ld + 1)
   rotate_left
   · rw [inI_no1 q3] at hinv
     simp (maxSteps := 400000) only [go_sem, c1, c2, hr, hk37, hk38, p1, p2, m1, m2, m3, q2, n3, q3, simprocAttr]
     exact Ends.pureE rfl (by rw [hinv]; rfl)
   cases q4 : decide (d > 511)
   rotate_left
   · rw [inI_no2 q4] at hinv
     simp (maxSteps := 400000) only [go_sem, c1, c2, hr, hk37, hk38, p1, p2, m1, m2, m3, q2, n3, q3, q4, simprocAttr]
     exact Ends.pureE rfl (by rw [hinv]; rfl)
   rw [inI_yes q3 q4] at hinv
   simp only [Bool.true_and] at hinv
   simp (maxSteps := 400000) only [go_sem, c1, c2, hr, hw, hk37, hk38, p1, p2, m1, m2, m3, q2, n3, q3, q4, hlt, hLb, AV.bel, belL, nblt, simprocAttr]
   exact hinv
 · have c1 : decide ((k : Int) < (l.length : Int)) = false := decide_eq_false (by omega)
   obtain rfl : k = l.length := by omega
   rw [List.drop_length] at hinv
   simp (maxSteps := 400000) only [go_sem, c1, simprocAttr]
   exact Ends.pureE rfl (by rw [hinv]; rfl)
def k13 : Ct
 | [.agg c], _, n => (bfA c).bind fun b => some (decide (b.l.length ≤ 9223372036854775807), { v := .b (goodB b), n })
 | _, _, _ => none
theorem s13 : SoundAt Try.prog 13 k13 := fun args h n c E hc ht => by
 unfold k13 at hc
 split at hc
 · simp only [Option.bind_eq_some_iff] at hc
   obtain ⟨b, hd, he⟩ := hc
   cases he
   rw [bfA_eq hd]
   exact CallOK.pure (by kernel_rfl) (by simp only [belL, AV.bel, Bf.bel, Bool.and_self]) rfl (w13 b (of_decide_eq_true ht)) _ _
 · cases hc
/-! late -/
def lateB (b : Bf) (now : Int) : Int := bif goodB b then (bif inI b.ti 1099511627776 now then 0 else 2) else 260
def T48 : List (Nat × Ct) := [(13, k13)]
theorem hT48 : Sound Try.prog (cxT T48) := Sound.cons s13 Sound.nil
theorem w48 (b : Bf) (now : Int) (hl : b.l.length ≤ 9223372036854775807) : FTL Try.prog 48 [.agg b.a, .i .i64 now] [] 0 (.i .i64 (lateB b now)) [] 0 := by
 have hba := bfA_a b
 have hll : decide (b.l.length ≤ 9223372036854775807) = true := decide_eq_true hl
 have hk : ∀ (h : Hp) n, k13 [.agg b.a] h n = some (true, { v := .b (goodB b), n }) := fun h n => by simp only [k13, hba, Option.bind_some, hll]
 have hR : lateB b now = bif goodB b then (bif inI b.ti 1099511627776 now then 0 else 2) else 260 := rfl
 generalize lateB b now = R at *
 generalize goodB b = g at *
 obtain ⟨ck, ti, sd, wh, nx, mr, of, tr, ji, lo, l⟩ := b
 dsimp only at hR
 simp only [Bf.a] at hk ⊢
 refine FTL.of_iw hT48 mo Try.func48 i48_eq (by simp [i48]) (iw_of_jw ?_)
 dsimp only [i48, T48]
 cases g
 · simp (maxSteps := 400000) only [go_sem, hk, simprocAttr]
   exact Ends.pureE rfl (by rw [hR]; rfl)
 cases p1 : decide (now < ti)
 rotate_left
 · rw [inI_no1 p1] at hR
   simp (maxSteps := 400000) only [go_sem, hk, p1, simprocAttr]
   exact Ends.pureE rfl (by rw [hR]; rfl)
 cases p2 : decide (now > 1099511627776)
 rotate_left
 · rw [inI_no2 p2] at hR
   simp (maxSteps := 400000) only [go_sem, hk, p1, p2, simprocAttr]
   exact Ends.pureE rfl (by rw [hR]; rfl)
 rw [inI_yes p1 p2] at hR
 simp (maxSteps := 400000) only [go_sem, hk, p1, p2, simprocAttr]
 exact Ends.pureE rfl (by rw [hR]; rfl)
def k48 : Ct
 | [.agg c, .i .i64 now], _, n => (bfA c).bind fun b => some (decide (b.l.length ≤ 9223372036854775807), { v := .i .i64 (lateB b now), n })
 | _, _, _ => none
theorem s48 : SoundAt Try.prog 48 k48 := fun args h n c E hc ht => by
 unfold k48 at hc
 split at hc
 · simp only [Option.bind_eq_some_iff] at hc
   obtain ⟨b, hd, he⟩ := hc
   cases he
   rw [bfA_eq hd]
   exact CallOK.pure (by kernel_rfl) (by simp only [belL, AV.bel, Bf.bel, Bool.and_self]) rfl (w48 b _ (of_decide_eq_true ht)) _ _
 · cases hc
end Go.Proofs.Jit
end
