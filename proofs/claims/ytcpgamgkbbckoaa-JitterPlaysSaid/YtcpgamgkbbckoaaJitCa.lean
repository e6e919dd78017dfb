/- Texts laid as one: JitC2 JitC3. -/
import Derived.Test.YtcpgamgkbbckoaaJitMa
import Derived.Test.YtcpgamgkbbckoaaJitMb
section
/- Buffers: what is valid (Check, Right). -/
namespace Go.Proofs.Jit
open Go.Ab
set_option maxRecDepth 100000
set_option maxHeartbeats 4000000
set_option linter.unusedSimpArgs false
set_option linter.unusedVariables false
structure Hd where
 p : Md
 st : Int
def Hd.l (x : Hd) : List AV := [.b x.p.ma, .i .i64 x.p.ty, .i .i64 x.p.sq, .i .i64 x.p.tm, .i .i64 x.p.ss, .fz (rows int1 x.p.cs) x.p.cs.length, .fz (rows xtR x.p.xs) x.p.xs.length, .i .i64 x.p.pd, .s x.p.pl, .i .i64 x.st]
theorem Hd.len (x : Hd) : x.l.length = 10 := rfl
theorem Hd.bel (x : Hd) : belL 0 x.l = true := by simp only [Hd.l, belL, AV.bel, rows_bel int1_bel, rows_bel xtR_bel, Bool.and_self]
theorem Hd.one (x : Hd) : oneAll x.l = true := rfl
theorem Hd.inj {a b : Hd} (h : a.l = b.l) : a = b := by
 have hp : a.p = b.p := Md.inj (by
  simp only [Hd.l, List.cons.injEq] at h
  simp only [Md.l, List.cons.injEq]
  obtain ⟨h1, h2, h3, h4, h5, h6, h7, h8, h9, _⟩ := h
  exact ⟨h1, h2, h3, h4, h5, h6, h7, h8, h9, trivial⟩)
 obtain ⟨p, t⟩ := a
 obtain ⟨q, u⟩ := b
 simp only [Hd.l, List.cons.injEq, AV.i.injEq, true_and, and_true] at h
 dsimp only at hp
 obtain ⟨_, _, _, _, _, _, _, _, _, rfl⟩ := h
 rw [hp]
def hd10 : List AV → Option Hd
 | [a, b, c, d, e, f, g, h, i, .i .i64 t] => (md9 [a, b, c, d, e, f, g, h, i]).bind fun p => some ⟨p, t⟩
 | _ => none
theorem hd10_l (x : Hd) : hd10 x.l = some x := by
 have h := md9_l x.p
 simp only [Md.l] at h
 simp only [hd10, Hd.l, h, Option.bind_some]
theorem hd10_eq {c : List AV} {x : Hd} (h : hd10 c = some x) : c = x.l := by
 unfold hd10 at h
 split at h
 · simp only [Option.bind_eq_some_iff, Option.some.injEq] at h
   obtain ⟨p, hp, rfl⟩ := h
   have := md9_eq hp
   simp only [Md.l, List.cons.injEq, and_true] at this
   obtain ⟨rfl, rfl, rfl, rfl, rfl, rfl, rfl, rfl, rfl⟩ := this
   rfl
 · cases h
theorem hd_at {l : List Hd} {k : Nat} {x : Hd} (h : l[k]? = some x) : List.take 10 (List.drop (k * 10) (rows Hd.l l)) = x.l := rows_at Hd.len h
theorem hrB (j : Nat) (l : List Hd) : belL j (rows Hd.l l) = true := belL_mono0 _ (rows_bel Hd.bel)
theorem hrR (ψ : Nat → Nat) (l : List Hd) : renL ψ (rows Hd.l l) = rows Hd.l l := renL_fix0 _ (rows_bel Hd.bel)
structure Bf where
 ck : Int
 ti : Int
 sd : Bool
 wh : Bool
 nx : Int
 mr : Int
 of : Int
 tr : Int
 ji : Int
 lo : Int
 l : List Hd
def Bf.c (b : Bf) (v : AV) : List AV := [.i .i64 b.ck, .i .i64 b.ti, .b b.sd, .b b.wh, .i .i64 b.nx, .i .i64 b.mr, .i .i64 b.of, .i .i64 b.tr, .i .i64 b.ji, .i .i64 b.lo, v]
def Bf.a (b : Bf) : List AV := [.i .i64 b.ck, .i .i64 b.ti, .b b.sd, .b b.wh, .i .i64 b.nx, .i .i64 b.mr, .i .i64 b.of, .i .i64 b.tr, .i .i64 b.ji, .i .i64 b.lo, .fz (rows Hd.l b.l) b.l.length]
theorem Bf.bel (b : Bf) : belL 0 b.a = true := by simp only [Bf.a, belL, AV.bel, hrB, Bool.and_self]
theorem hd_un (l : List Hd) : unrows 10 hd10 l.length (rows Hd.l l) = some l := unrows_rows Hd.len hd10_l l
def bfA : List AV → Option Bf
 | [.i .i64 ck, .i .i64 ti, .b sd, .b wh, .i .i64 nx, .i .i64 mr, .i .i64 of, .i .i64 tr, .i .i64 ji, .i .i64 lo, .fz L m] => (unrows 10 hd10 m L).bind fun l => some ⟨ck, ti, sd, wh, nx, mr, of, tr, ji, lo, l⟩
 | _ => none
theorem bfA_a (b : Bf) : bfA b.a = some b := by
 obtain ⟨ck, ti, sd, wh, nx, mr, of, tr, ji, lo, l⟩ := b
 simp only [bfA, Bf.a, hd_un, Option.bind_some]
theorem bfA_eq {c : List AV} {b : Bf} (e : bfA c = some b) : c = b.a := by
 unfold bfA at e
 split at e
 · simp only [Option.bind_eq_some_iff, Option.some.injEq] at e
   obtain ⟨l, hl, rfl⟩ := e
   obtain ⟨rfl, hm⟩ := unrows_eq (f := Hd.l) (fun c a h => hd10_eq h) hl
   subst hm
   rfl
 · cases e
def r64 (x : Int) : Bool := inI (-9223372036854775808) 9223372036854775807 x
def Bf.rg (b : Bf) : Bool := r64 b.nx && (r64 b.mr && (r64 b.of && (r64 b.tr && (r64 b.ji && r64 b.lo))))
theorem orI_rng (a b : Int) : r64 (orI .i64 a b) = true := by
 unfold orI
 generalize (BitVec.ofInt IntKind.i64.bits a ||| BitVec.ofInt IntKind.i64.bits b) = x
 have := x.isLt
 simp only [IntKind.bits] at this
 unfold r64
 refine inI_of ?_
 have e : ∀ n : Int, -9223372036854775808 ≤ IntKind.i64.wrap n ∧ IntKind.i64.wrap n ≤ 9223372036854775807 := fun n => by
  simp only [IntKind.wrap, IntKind.bits, IntKind.signed]
  simp
  split <;> omega
 exact e _
theorem or0 {a b : Int} (ha : r64 a = true) (hb : r64 b = true) : (orI .i64 a b == 0) = ((a == 0) && (b == 0)) := by
 have ha := inI_t ha
 have hb := inI_t hb
 have key : IntKind.i64.wrap ((BitVec.ofInt 64 a ||| BitVec.ofInt 64 b).toNat : Int) = 0 ↔ a = 0 ∧ b = 0 := by
  have hA : (BitVec.ofInt 64 a).toNat = (a % 18446744073709551616).toNat := by rw [BitVec.toNat_ofInt]; rfl
  have hB : (BitVec.ofInt 64 b).toNat = (b % 18446744073709551616).toNat := by rw [BitVec.toNat_ofInt]; rfl
  constructor
  · intro h
    have h0 : (BitVec.ofInt 64 a ||| BitVec.ofInt 64 b).toNat = 0 := by
     have hlt := (BitVec.ofInt 64 a ||| BitVec.ofInt 64 b).isLt
     generalize (BitVec.ofInt 64 a ||| BitVec.ofInt 64 b).toNat = n at *
     revert h
     simp only [IntKind.wrap, IntKind.bits, IntKind.signed]
     simp
     split <;> omega
    rw [BitVec.toNat_or] at h0
    have l1 : (BitVec.ofInt 64 a).toNat ≤ (BitVec.ofInt 64 a).toNat ||| (BitVec.ofInt 64 b).toNat := Nat.left_le_or
    have l2 : (BitVec.ofInt 64 b).toNat ≤ (BitVec.ofInt 64 a).toNat ||| (BitVec.ofInt 64 b).toNat := Nat.right_le_or
    omega
  · rintro ⟨rfl, rfl⟩; rfl
 rw [Bool.eq_iff_iff, beq_iff_eq, Bool.and_eq_true, beq_iff_eq, beq_iff_eq]
 exact key
/-! what is valid -/
def headB (b : Bf) : Bool := inI 1 96 b.ck && (inI 0 1099511627776 b.ti && (inI 0 1048576 b.ji && inI 0 1099511627776 b.lo))
def zerosB (b : Bf) : Bool := (b.nx == 0) && ((b.mr == 0) && ((b.of == 0) && ((b.tr == 0) && ((b.ji == 0) && (b.lo == 0)))))
def emptyB (b : Bf) : Bool := !b.wh && (zerosB b && (b.l.length == 0))
def midB (b : Bf) : Bool := inI 0 65535 b.nx && (inI 0 1152921504606846976 b.mr && (inI (-1152921504606846976) b.tr b.of && decide (b.tr ≤ 1152921504606846976)))
def heldB (nx mr : Int) : Int → List Hd → Bool
 | _, [] => true
 | last, x :: r => mdB x.p && (inI 0 mr x.st && ((x.st % 4294967296 == x.p.tm) && (inI (last + 1) 511 (lead x.p.sq nx) && heldB nx mr (lead x.p.sq nx) r)))
def goodB (b : Bf) : Bool := headB b && bif b.sd then midB b && (heldB b.nx b.mr (-1) b.l && decide (b.l.length ≤ 64)) else emptyB b
def ldN (nx : Int) (l : List Hd) : Nat → Int
 | 0 => -1
 | k + 1 => match l[k]? with
  | some x => lead x.p.sq nx
  | none => 0
theorem ldN_rng (nx : Int) (l : List Hd) (k : Nat) : -32768 ≤ ldN nx l k ∧ ldN nx l k ≤ 32767 := by
 unfold ldN
 split
 · omega
 · split
   · exact lead_rng _ _
   · omega
def finB (l : List Hd) : Bool := l.all (fun x => x.p.fin)
/-! held -/
def T35 : List (Nat × Ct) := [(34, k34), (41, k41), (43, k43)]
theorem hT35 : Sound Try.prog (cxT T35) := Sound.cons s34 (Sound.cons s41 (Sound.cons s43 Sound.nil))
theorem w35 (b : Bf) (hl : b.l.length ≤ 9223372036854775807) (hf : finB b.l = true) (hnx : inI 0 65535 b.nx = true) : FTL Try.prog 35 [.agg b.a] [] 0 (.b (heldB b.nx b.mr (-1) b.l && decide (b.l.length ≤ 64))) [] 0 := by
 obtain ⟨ck, ti, sd, wh, nx, mr, of, tr, ji, lo, l⟩ := b
 dsimp only at hl hf hnx ⊢
 simp only [Bf.a]
 simp only [finB, List.all_eq_true] at hf
 have hLb : ∀ j, belL j (rows Hd.l l) = true := fun j => hrB j l
 generalize hgd : heldB nx mr (-1) l = gd
 refine FTL.of_iw hT35 mo Try.func35 i35_eq (by simp [i35]) (iw_of_jw ?_)
 dsimp only [i35, T35]
 simp (maxSteps := 400000) only [go_sem, simprocAttr]
 refine Loop.countI (F := ⟨Try.prog, cxT T35, [11, 34, 45], 52, 0⟩) hT35 mo l.length (fun k => gd = heldB nx mr (ldN nx l k) (l.drop k))
  (fun k => [(1, .p 0 0), (3, .i .i64 (ldN nx l k)), (8, .fz (rows Hd.l l) l.length), (9, .i .i64 (l.length : Int)), (10, .i .i64 (k : Int))])
  (fun k => [(0, { cells := [.i .i64 ck, .i .i64 ti, .b sd, .b wh, .i .i64 nx, .i .i64 mr, .i .i64 of, .i .i64 tr, .i .i64 ji, .i .i64 lo, .fz (rows Hd.l l) l.length] })]) 1 (by decide) hgd.symm ?_ ?_ (fun k hk hinv => ?_)
 · simp (maxSteps := 400000) only [go_sem, ldN, hLb, AV.bel, belL, nblt, simprocAttr]
 · simp (maxSteps := 400000) only [go_sem, hLb, AV.bel, belL, nblt, simprocAttr]
 dsimp only [T35]
 by_cases hlt : k < l.length
 · have c1 : decide ((k : Int) < (l.length : Int)) = true := decide_eq_true (by omega)
   have c2 : decide (0 ≤ (k : Int) ∧ (k : Int) < (l.length : Int)) = true := decide_eq_true (by omega)
   have hw : IntKind.i64.wrap ((k : Int) + 1) = ((k + 1 : Nat) : Int) := by rw [wrapL (by omega) (by omega)]; omega
   obtain ⟨x, hx⟩ : ∃ x, l[k]? = some x := ⟨_, List.getElem?_eq_getElem hlt⟩
   have hr := hd_at hx
   have hdr : l.drop k = x :: l.drop (k + 1) := by
    rw [List.drop_eq_getElem_cons hlt]
    rw [List.getElem?_eq_getElem hlt] at hx
    cases hx; rfl
   have hls : ldN nx l (k + 1) = lead x.p.sq nx := by simp only [ldN, hx]
   have hrg := ldN_rng nx l k
   have hw3 : IntKind.i64.wrap (ldN nx l k + 1) = ldN nx l k + 1 := wrapL (by omega) (by omega)
   have hxf := hf x (List.mem_of_getElem? hx)
   rw [hls]
   rw [hdr] at hinv
   simp only [heldB] at hinv
   generalize ldN nx l k = ld at *
   have h9 := md9_l x.p
   have hk41 : ∀ (h : Hp) n, k41 [.agg x.p.l] h n = some (true, { v := .i .i64 (if mdB x.p then 0 else 230), n }) := fun h n => by
    simp only [k41, h9, Option.bind_some, hxf]
   have hsq : mdB x.p = true → inI 0 65535 x.p.sq = true := mdB_sq
   have hk43 : ∀ (h : Hp) n, mdB x.p = true → k43 [.i .i64 x.p.sq, .i .i64 nx, .i .i64 16] h n = some (true, { v := .i .i64 (lead x.p.sq nx), n }) := fun h n hm => by simp only [k43, hsq hm, hnx, Bool.and_self]
   have hB1 := csB 1 x.p.cs
   have hB2 := xsB 1 x.p.xs
   have n1 : (x.st % 4294967296 != x.p.tm) = !(x.st % 4294967296 == x.p.tm) := rfl
   generalize lead x.p.sq nx = d at *
   generalize mdB x.p = mb at *
   obtain ⟨⟨ma, pty, sq, tm, pss, cs, xs, pd, pl⟩, xt⟩ := x
   simp only [Hd.l, Md.l] at hr hk41
   dsimp only at hinv hk43 n1
   cases mb
   · simp only [Bool.false_eq_true, if_false] at hk41
     simp (maxSteps := 400000) only [go_sem, c1, c2, hr, hk41, simprocAttr]
     exact Ends.pureE rfl (by rw [hinv]; rfl)
   simp only [if_true] at hk41
   have hk43 := fun h n => hk43 h n rfl
   cases b1 : inI 0 mr xt
   · rw [b1] at hinv
     simp (maxSteps := 400000) only [go_sem, c1, c2, hr, hk41, k34, b1, simprocAttr]
     exact Ends.pureE rfl (by rw [hinv]; rfl)
   cases b2 : (xt % 4294967296 == tm)
   · rw [b1, b2] at hinv
     simp (maxSteps := 400000) only [go_sem, c1, c2, hr, hk41, k34, b1, and32, n1, b2, simprocAttr]
     exact Ends.pureE rfl (by rw [hinv]; rfl)
   cases b3 : inI (ld + 1) 511 d
   · rw [b1, b2, b3] at hinv
     simp (maxSteps := 400000) only [go_sem, c1, c2, hr, hk41, hk43, hw3, k34, b1, and32, n1, b2, b3, simprocAttr]
     exact Ends.pureE rfl (by rw [hinv]; rfl)
   rw [b1, b2, b3] at hinv
   simp only [Bool.true_and] at hinv
   simp (maxSteps := 400000) only [go_sem, c1, c2, hr, hw, hk41, hk43, hw3, k34, b1, and32, n1, b2, b3, hlt, hLb, AV.bel, belL, nblt, simprocAttr]
   exact hinv
 · have c1 : decide ((k : Int) < (l.length : Int)) = false := decide_eq_false (by omega)
   obtain rfl : k = l.length := by omega
   rw [List.drop_length] at hinv
   have n1 : decide ((l.length : Int) ≤ 64) = decide (l.length ≤ 64) := by rw [Bool.eq_iff_iff]; simp; omega
   simp (maxSteps := 400000) only [go_sem, c1, n1, simprocAttr]
   exact Ends.pureE rfl (by rw [hinv]; rfl)
def k35 : Ct
 | [.agg c], _, n => (bfA c).bind fun b => some (decide (b.l.length ≤ 9223372036854775807) && (finB b.l && inI 0 65535 b.nx), { v := .b (heldB b.nx b.mr (-1) b.l && decide (b.l.length ≤ 64)), n })
 | _, _, _ => none
theorem s35 : SoundAt Try.prog 35 k35 := fun args h n c E hc ht => by
 unfold k35 at hc
 split at hc
 · simp only [Option.bind_eq_some_iff] at hc
   obtain ⟨b, hd, he⟩ := hc
   cases he
   rw [bfA_eq hd]
   simp only [Bool.and_eq_true, decide_eq_true_eq] at ht
   exact CallOK.pure (by kernel_rfl) (by simp only [belL, AV.bel, Bf.bel, Bool.and_self]) rfl (w35 b ht.1 ht.2.1 ht.2.2) _ _
 · cases hc
end Go.Proofs.Jit
end
section
/- Buffers: Check, Right, late. -/
namespace Go.Proofs.Jit
open Go.Ab
set_option maxRecDepth 100000
set_option maxHeartbeats 4000000
set_option linter.unusedSimpArgs false
set_option linter.unusedVariables false
/-! Check -/
def T12 : List (Nat × Ct) := [(34, k34), (35, k35)]
theorem hT12 : Sound Try.prog (cxT T12) := Sound.cons s34 (Sound.cons s35 Sound.nil)
theorem w12 (b : Bf) (hl : b.l.length ≤ 9223372036854775807) (hf : finB b.l = true) (hg : b.rg = true) : FTL Try.prog 12 [.agg b.a] [] 0 (.i .i64 (if goodB b then 0 else 260)) [] 0 := by
 have hba := bfA_a b
 have hll : decide (b.l.length ≤ 9223372036854775807) = true := decide_eq_true hl
 have hk35 : ∀ (h : Hp) n, inI 0 65535 b.nx = true → k35 [.agg b.a] h n = some (true, { v := .b (heldB b.nx b.mr (-1) b.l && decide (b.l.length ≤ 64)), n }) := fun h n hx => by simp only [k35, hba, Option.bind_some, hll, hf, hx, Bool.and_self]
 have hgd : goodB b = ((inI 1 96 b.ck && (inI 0 1099511627776 b.ti && (inI 0 1048576 b.ji && inI 0 1099511627776 b.lo))) && bif b.sd then (inI 0 65535 b.nx && (inI 0 1152921504606846976 b.mr && (inI (-1152921504606846976) b.tr b.of && decide (b.tr ≤ 1152921504606846976)))) && (heldB b.nx b.mr (-1) b.l && decide (b.l.length ≤ 64)) else (!b.wh && (((b.nx == 0) && ((b.mr == 0) && ((b.of == 0) && ((b.tr == 0) && ((b.ji == 0) && (b.lo == 0)))))) && (b.l.length == 0)))) := rfl
 generalize goodB b = gd at *
 generalize (heldB b.nx b.mr (-1) b.l && decide (b.l.length ≤ 64)) = HB at *
 have hor : (orI .i64 (orI .i64 (orI .i64 (orI .i64 (orI .i64 b.nx b.mr) b.of) b.tr) b.ji) b.lo == 0) = ((b.nx == 0) && ((b.mr == 0) && ((b.of == 0) && ((b.tr == 0) && ((b.ji == 0) && (b.lo == 0)))))) := by
  simp only [Bf.rg, Bool.and_eq_true] at hg
  obtain ⟨g1, g2, g3, g4, g5, g6⟩ := hg
  rw [or0 (orI_rng _ _) g6, or0 (orI_rng _ _) g5, or0 (orI_rng _ _) g4, or0 (orI_rng _ _) g3, or0 g1 g2]
  simp only [Bool.and_assoc]
 rw [← hor] at hgd
 clear hor
 generalize hOB : (orI .i64 (orI .i64 (orI .i64 (orI .i64 (orI .i64 b.nx b.mr) b.of) b.tr) b.ji) b.lo == 0) = OB at *
 clear hg
 obtain ⟨ck, ti, sd, wh, nx, mr, of, tr, ji, lo, l⟩ := b
 dsimp only at hl hf hgd hOB
 simp only [Bf.a] at hk35 ⊢
 have n1 : ((l.length : Int) == 0) = (l.length == 0) := by rw [Bool.eq_iff_iff]; simp
 refine FTL.of_iw hT12 mo Try.func12 i12_eq (by simp [i12]) (iw_of_jw ?_)
 dsimp only [i12, T12]
 cases sd
 · cases a1 : inI 1 96 ck
   · rw [a1] at hgd
     simp (maxSteps := 400000) only [go_sem, k34, hOB, n1, a1, simprocAttr]
     exact Ends.pureE rfl (by rw [hgd]; rfl)
   cases a2 : inI 0 1099511627776 ti
   · rw [a1, a2] at hgd
     simp (maxSteps := 400000) only [go_sem, k34, hOB, n1, a1, a2, simprocAttr]
     exact Ends.pureE rfl (by rw [hgd]; rfl)
   cases a3 : inI 0 1048576 ji
   · rw [a1, a2, a3] at hgd
     simp (maxSteps := 400000) only [go_sem, k34, hOB, n1, a1, a2, a3, simprocAttr]
     exact Ends.pureE rfl (by rw [hgd]; rfl)
   cases a4 : inI 0 1099511627776 lo
   · rw [a1, a2, a3, a4] at hgd
     simp (maxSteps := 400000) only [go_sem, k34, hOB, n1, a1, a2, a3, a4, simprocAttr]
     exact Ends.pureE rfl (by rw [hgd]; rfl)
   rw [a1, a2, a3, a4] at hgd
   cases wh
   rotate_left
   · simp (maxSteps := 400000) only [go_sem, k34, hOB, n1, a1, a2, a3, a4, simprocAttr]
     exact Ends.pureE rfl (by rw [hgd]; rfl)
   cases OB
   · simp (maxSteps := 400000) only [go_sem, k34, hOB, n1, a1, a2, a3, a4, simprocAttr]
     exact Ends.pureE rfl (by rw [hgd]; rfl)
   cases b2 : (l.length == 0)
   all_goals
    rw [b2] at hgd
    simp (maxSteps := 400000) only [go_sem, k34, hOB, n1, a1, a2, a3, a4, b2, simprocAttr]
    exact Ends.pureE rfl (by rw [hgd]; rfl)
 · cases a1 : inI 1 96 ck
   · rw [a1] at hgd
     simp (maxSteps := 400000) only [go_sem, k34, a1, simprocAttr]
     exact Ends.pureE rfl (by rw [hgd]; rfl)
   cases a2 : inI 0 1099511627776 ti
   · rw [a1, a2] at hgd
     simp (maxSteps := 400000) only [go_sem, k34, a1, a2, simprocAttr]
     exact Ends.pureE rfl (by rw [hgd]; rfl)
   cases a3 : inI 0 1048576 ji
   · rw [a1, a2, a3] at hgd
     simp (maxSteps := 400000) only [go_sem, k34, a1, a2, a3, simprocAttr]
     exact Ends.pureE rfl (by rw [hgd]; rfl)
   cases a4 : inI 0 1099511627776 lo
   · rw [a1, a2, a3, a4] at hgd
     simp (maxSteps := 400000) only [go_sem, k34, a1, a2, a3, a4, simprocAttr]
     exact Ends.pureE rfl (by rw [hgd]; rfl)
   rw [a1, a2, a3, a4] at hgd
   cases b1 : inI 0 65535 nx
   · rw [b1] at hgd
     simp (maxSteps := 400000) only [go_sem, k34, a1, a2, a3, a4, b1, simprocAttr]
     exact Ends.pureE rfl (by rw [hgd]; rfl)
   have hk35 := fun h n => hk35 h n b1
   cases b2 : inI 0 1152921504606846976 mr
   · rw [b1, b2] at hgd
     simp (maxSteps := 400000) only [go_sem, k34, a1, a2, a3, a4, b1, b2, simprocAttr]
     exact Ends.pureE rfl (by rw [hgd]; rfl)
   cases b3 : inI (-1152921504606846976) tr of
   · rw [b1, b2, b3] at hgd
     simp (maxSteps := 400000) only [go_sem, k34, a1, a2, a3, a4, b1, b2, b3, simprocAttr]
     exact Ends.pureE rfl (by rw [hgd]; rfl)
   cases b4 : decide (tr ≤ 1152921504606846976)
   · rw [b1, b2, b3, b4] at hgd
     simp (maxSteps := 400000) only [go_sem, k34, a1, a2, a3, a4, b1, b2, b3, b4, simprocAttr]
     exact Ends.pureE rfl (by rw [hgd]; rfl)
   rw [b1, b2, b3, b4] at hgd
   cases HB
   all_goals
    simp (maxSteps := 400000) only [go_sem, k34, hk35, a1, a2, a3, a4, b1, b2, b3, b4, simprocAttr]
    exact Ends.pureE rfl (by rw [hgd]; rfl)
def k12 : Ct
 | [.agg c], _, n => (bfA c).bind fun b => some (decide (b.l.length ≤ 9223372036854775807) && (finB b.l && b.rg), { v := .i .i64 (if goodB b then 0 else 260), n })
 | _, _, _ => none
theorem s12 : SoundAt Try.prog 12 k12 := fun args h n c E hc ht => by
 unfold k12 at hc
 split at hc
 · simp only [Option.bind_eq_some_iff] at hc
   obtain ⟨b, hd, he⟩ := hc
   cases he
   rw [bfA_eq hd]
   simp only [Bool.and_eq_true, decide_eq_true_eq] at ht
   exact CallOK.pure (by kernel_rfl) (by simp only [belL, AV.bel, Bf.bel, Bool.and_self]) rfl (w12 b ht.1 ht.2.1 ht.2.2) _ _
 · cases hc
/-! empty -/
/-! Right -/
/-! late -/
def lateB (b : Bf) (now : Int) : Int := bif goodB b then (bif inI b.ti 1099511627776 now then 0 else 2) else 260
end Go.Proofs.Jit
end
