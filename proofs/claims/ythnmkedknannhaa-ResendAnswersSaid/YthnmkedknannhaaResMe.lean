/- Texts laid as one: ResM11 ResM12. -/
import Derived.Test.YthnmkedknannhaaResMc
import Derived.Test.YthnmkedknannhaaResMb
import Derived.Test.YthnmkedknannhaaAbGvs
section
/- Contracts of Clone (numbers, extensions), Original, again; the reference's Original. -/
namespace Go.Proofs.Res
open Go.Ab
set_option maxRecDepth 100000
set_option maxHeartbeats 4000000
set_option linter.unusedSimpArgs false
set_option linter.unusedVariables false
theorem w77 (l : List Int) (hl : l.length ≤ 1000) : FTL Try.prog 77 [.fz (rows int1 l) l.length] [] 0 (.fz (rows int1 l) l.length) [] 0 :=
 cln_f (z := 1) (bytes := 8) (zs := [.i .i64 0]) mo Try.func77 (by kernel_rfl) (rows_len int1_len) (rows_one1 (fun _ => rfl) l) (rows_bel int1_bel) (by simp only [growMax]; omega)
theorem w78 (l : List Xt) (hl : l.length ≤ 1000) : FTL Try.prog 78 [.fz (rows xtR l) l.length] [] 0 (.fz (rows xtR l) l.length) [] 0 :=
 cln_f (z := 2) (bytes := 24) (zs := [.i .i64 0, .s []]) mo Try.func78 (by kernel_rfl) (rows_len xtR_len) (rows_one1 (fun _ => rfl) l) (rows_bel xtR_bel) (by simp only [growMax]; omega)
def xtV : List AV → Option Xt
 | [.i .i64 x, .s l] => some (x, l)
 | _ => none
theorem xtV_eq (c : List AV) (a : Xt) (h : xtV c = some a) : c = xtR a := by
 unfold xtV at h
 split at h
 · cases h; rfl
 · cases h
theorem xt_un (l : List Xt) : unrows 2 xtV l.length (rows xtR l) = some l := unrows_rows xtR_len (fun _ => rfl) l
theorem in_un (l : List Int) : unrows 1 intV l.length (rows int1 l) = some l := unrows_rows int1_len (fun _ => rfl) l
def k77 : Ct
 | [.fz L m], _, n => (unrows 1 intV m L).bind fun l => some (decide (m ≤ 1000), { v := .fz L m, n })
 | _, _, _ => none
theorem s77 : SoundAt Try.prog 77 k77 := fun args h n c E hc ht => by
 unfold k77 at hc
 split at hc
 · simp only [Option.bind_eq_some_iff] at hc
   obtain ⟨l, hl, he⟩ := hc
   cases he
   obtain ⟨rfl, rfl⟩ := unrows_eq intV_eq hl
   have hb : AV.bel 0 (.fz (rows int1 l) l.length) = true := rows_bel int1_bel
   exact CallOK.pure (by kernel_rfl) (by simp only [belL, hb, Bool.and_self]) hb (w77 l (of_decide_eq_true ht)) _ _
 · cases hc
def k78 : Ct
 | [.fz L m], _, n => (unrows 2 xtV m L).bind fun l => some (decide (m ≤ 1000), { v := .fz L m, n })
 | _, _, _ => none
theorem s78 : SoundAt Try.prog 78 k78 := fun args h n c E hc ht => by
 unfold k78 at hc
 split at hc
 · simp only [Option.bind_eq_some_iff] at hc
   obtain ⟨l, hl, he⟩ := hc
   cases he
   obtain ⟨rfl, rfl⟩ := unrows_eq xtV_eq hl
   have hb : AV.bel 0 (.fz (rows xtR l) l.length) = true := rows_bel xtR_bel
   exact CallOK.pure (by kernel_rfl) (by simp only [belL, hb, Bool.and_self]) hb (w78 l (of_decide_eq_true ht)) _ _
 · cases hc
/-! Original -/
theorem or16 (h l : Nat) (hh : h < 256) (hl : l < 256) : orI .i64 (IntKind.i64.wrap ((h : Int) * 256)) (l : Int) = 256 * (h : Int) + l := by
 have e1 : IntKind.i64.wrap ((h : Int) * 256) = ((h * 256 : Nat) : Int) := by rw [wrapL (by omega) (by omega)]; omega
 rw [e1]
 unfold orI
 have e2 : (BitVec.ofInt IntKind.i64.bits ((h * 256 : Nat) : Int) ||| BitVec.ofInt IntKind.i64.bits (l : Int)).toNat = h * 256 + l := by
  show (BitVec.ofInt 64 ((h * 256 : Nat) : Int) ||| BitVec.ofInt 64 (l : Int)).toNat = h * 256 + l
  simp only [BitVec.toNat_or, BitVec.ofInt_natCast, BitVec.toNat_ofNat]
  rw [Nat.mod_eq_of_lt (by omega), Nat.mod_eq_of_lt (by omega)]
  have := Nat.two_pow_add_eq_or_of_lt (i := 8) (b := l) (by omega) h
  rw [Nat.mul_comm h 256]
  exact this.symm
 rw [e2, wrapL (by omega) (by omega)]
 omega
theorem and16 (x : Int) (h0 : 0 ≤ x) (h1 : x ≤ 1000000) : andI .i64 x 65535 = x % 65536 := by
 obtain ⟨k, rfl⟩ := Int.eq_ofNat_of_zero_le h0
 unfold andI
 have e2 : (BitVec.ofInt IntKind.i64.bits (k : Int) &&& BitVec.ofInt IntKind.i64.bits 65535).toNat = k % 65536 := by
  show (BitVec.ofInt 64 (k : Int) &&& BitVec.ofInt 64 ((65535 : Nat) : Int)).toNat = k % 65536
  simp only [BitVec.toNat_and, BitVec.ofInt_natCast, BitVec.toNat_ofNat]
  rw [Nat.mod_eq_of_lt (by omega), Nat.mod_eq_of_lt (by omega)]
  exact Nat.and_two_pow_sub_one_eq_mod k 16
 rw [e2, wrapL (by omega) (by omega)]
 omega
theorem wrB8 (b : UInt8) : IntKind.i64.wrap (b.toNat : Int) = (b.toNat : Int) := by have := b.toNat_lt; exact wrapL (by omega) (by omega)
theorem or16' (b c : UInt8) : orI .i64 (IntKind.i64.wrap (IntKind.i64.wrap (b.toNat : Int) * 256)) (IntKind.i64.wrap (c.toNat : Int)) = 256 * (b.toNat : Int) + c.toNat := by
 rw [wrB8, wrB8]
 exact or16 _ _ b.toNat_lt c.toNat_lt
def zM : Md := ⟨false, 0, 0, 0, 0, [], [], 0, []⟩
def rsM (r : Md × Int) : AV := .tup [.agg r.1.l, .i .i64 r.2]
theorem rsM_bel (r : Md × Int) : (rsM r).bel 0 = true := by simp only [rsM, AV.bel, belL, Md.bel, Bool.and_self]
theorem covM_n {e : Int} {h : Hp} {n : Nat} : CovS 0 (.tup [.agg [.b false, .i .i64 0, .i .i64 0, .i .i64 0, .i .i64 0, .ns, .ns, .i .i64 0, .s []], .i .i64 e]) h n (rsM (zM, e)) [] 0 := by
 refine CovS.frzN (l := []) (v' := rsM (zM, e)) (FzV.tup ⟨FzV.agg ⟨FzV.refl, FzV.refl, FzV.refl, FzV.refl, FzV.refl, FzV.hit, FzV.hit, FzV.refl, FzV.refl, trivial⟩, FzV.refl, trivial⟩) ?_
 exact CovS.ends (Ends.pureE rfl rfl)
def orgS (p : Md) (ss ty : Int) : Md × Int :=
 bif mdB p then bif namesB ss ty 0 then (match p.pl with
  | a :: b :: r => (⟨p.ma, ty, 256 * (a.toNat : Int) + (b.toNat : Int), p.tm, ss, p.cs, p.xs, p.pd, r⟩, 0)
  | _ => (zM, 7)) else (zM, 2) else (zM, 230)
theorem mdB_len {p : Md} (h : mdB p = true) : p.cs.length ≤ 15 ∧ p.xs.length ≤ 16 := by
 simp only [mdB, mdPre, Bool.and_eq_true, decide_eq_true_eq] at h
 exact ⟨h.1.1.2, h.1.2⟩
def TM38 : List (Nat × Ct) := [(66, k66), (68, k68), (77, k77), (78, k78)]
theorem hTM38 : Sound Try.prog (cxT TM38) := Sound.cons s66 (Sound.cons s68 (Sound.cons s77 (Sound.cons s78 Sound.nil)))
theorem w38 (p : Md) (ss ty : Int) (hf : p.fin = true) : FTL Try.prog 38 [.agg p.l, .i .i64 ss, .i .i64 ty] [] 0 (rsM (orgS p ss ty)) [] 0 := by
 have h9 := md9_l p
 have hk68 : ∀ (h : Hp) n, k68 [.agg p.l] h n = some (true, { v := .i .i64 (if mdB p then 0 else 230), n }) := fun h n => by
  simp only [k68, h9, Option.bind_some, hf]
 generalize hRR : orgS p ss ty = R
 unfold orgS at hRR
 have hml := fun h => mdB_len (p := p) h
 generalize mdB p = mb at *
 obtain ⟨ma, pty, sq, tm, pss, cs, xs, pd, pl⟩ := p
 simp only [Md.l] at hk68 ⊢
 dsimp only at hRR hml
 have hcB : ∀ j, belL j (rows int1 cs) = true := fun j => csB j cs
 have hxB : ∀ j, belL j (rows xtR xs) = true := fun j => xsB j xs
 refine FTL.of_cov (cx := cxT TM38) hTM38 mo Try.func38 i38_eq (by simp [i38]) (iw_of_jw ?_)
 dsimp only [i38, TM38]
 cases mb
 · simp only [Bool.false_eq_true, if_false] at hk68
   simp (maxSteps := 400000) only [go_sem, hk68, simprocAttr]
   rw [← hRR]
   exact covM_n
 simp only [if_true] at hk68
 simp only [cond_true] at hRR
 have hcl : decide (cs.length ≤ 1000) = true := decide_eq_true (by have := hml rfl; omega)
 have hxl : decide (xs.length ≤ 1000) = true := decide_eq_true (by have := hml rfl; omega)
 have hk77 : ∀ (h : Hp) n, k77 [.fz (rows int1 cs) cs.length] h n = some (true, { v := .fz (rows int1 cs) cs.length, n }) := fun h n => by simp only [k77, in_un, Option.bind_some, hcl]
 have hk78 : ∀ (h : Hp) n, k78 [.fz (rows xtR xs) xs.length] h n = some (true, { v := .fz (rows xtR xs) xs.length, n }) := fun h n => by simp only [k78, xt_un, Option.bind_some, hxl]
 cases b1 : namesB ss ty 0
 · rw [b1] at hRR
   simp (maxSteps := 400000) only [go_sem, hk68, k66, b1, simprocAttr]
   rw [← hRR]
   exact covM_n
 rw [b1] at hRR
 simp only [cond_true] at hRR
 rcases pl with _ | ⟨a, _ | ⟨b, r⟩⟩
 · simp (maxSteps := 400000) only [go_sem, hk68, k66, b1, simprocAttr]
   rw [← hRR]
   exact covM_n
 · simp (maxSteps := 400000) only [go_sem, hk68, k66, b1, simprocAttr]
   rw [← hRR]
   exact covM_n
 · have c2 : decide (((r.length + 1 + 1 : Nat) : Int) < 2) = false := decide_eq_false (by omega)
   have c3 : decide ((0 : Int) < ((r.length + 1 + 1 : Nat) : Int)) = true := decide_eq_true (by omega)
   have c4 : decide ((1 : Int) < ((r.length + 1 + 1 : Nat) : Int)) = true := decide_eq_true (by omega)
   have c5 : decide ((2 : Int) ≤ ((r.length + 1 + 1 : Nat) : Int)) = true := decide_eq_true (by omega)
   have ho := or16' a b
   dsimp only at hRR
   simp (maxSteps := 400000) only [go_sem, hk68, k66, b1, hk77, hk78, c2, c3, c4, c5, ho, List.drop_zero, simprocAttr]
   rw [← hRR]
   exact CovS.ends (Ends.pureE (by simp only [AV.bel, belL, hcB, hxB, Bool.and_self]) rfl)
def k38 : Ct
 | [.agg b, .i .i64 ss, .i .i64 ty], _, n => (md9 b).bind fun p => some (p.fin, { v := rsM (orgS p ss ty), n })
 | _, _, _ => none
theorem s38 : SoundAt Try.prog 38 k38 := fun args h n c E hc ht => by
 unfold k38 at hc
 split at hc
 · simp only [Option.bind_eq_some_iff] at hc
   obtain ⟨p, hp, he⟩ := hc
   cases he
   rw [md9_eq hp]
   exact CallOK.pure (by kernel_rfl) (by simp only [belL, AV.bel, Md.bel, Bool.and_self]) (rsM_bel _) (w38 p _ _ ht) _ _
 · cases hc
def TM48 : List (Nat × Ct) := [(87, k87), (88, k66)]
theorem hTM48 : Sound Try.prog (cxT TM48) := Sound.cons s87 (Sound.cons s88 Sound.nil)
theorem w48 (p : Md) (ss ty : Int) : FTL Try.prog 48 [.agg p.l, .i .i64 ss, .i .i64 ty] [] 0 (rsM (orgS p ss ty)) [] 0 := by
 have h9 := md9_l p
 have hk87 : ∀ (h : Hp) n, k87 [.agg p.l] h n = some (true, { v := .b (mdB p), n }) := fun h n => by simp only [k87, h9, Option.bind_some]
 generalize hRR : orgS p ss ty = R
 unfold orgS at hRR
 generalize mdB p = mb at *
 obtain ⟨ma, pty, sq, tm, pss, cs, xs, pd, pl⟩ := p
 simp only [Md.l] at hk87 ⊢
 dsimp only at hRR
 have hcB : ∀ j, belL j (rows int1 cs) = true := fun j => csB j cs
 have hxB : ∀ j, belL j (rows xtR xs) = true := fun j => xsB j xs
 refine FTL.of_cov (cx := cxT TM48) hTM48 mo Try.func48 i48_eq (by simp [i48]) (iw_of_jw ?_)
 dsimp only [i48, TM48]
 cases mb
 · simp (maxSteps := 400000) only [go_sem, hk87, simprocAttr]
   rw [← hRR]
   exact covM_n
 simp only [cond_true] at hRR
 cases b1 : namesB ss ty 0
 · rw [b1] at hRR
   simp (maxSteps := 400000) only [go_sem, hk87, k66, b1, simprocAttr]
   rw [← hRR]
   exact covM_n
 rw [b1] at hRR
 simp only [cond_true] at hRR
 rcases pl with _ | ⟨a, _ | ⟨b, r⟩⟩
 · simp (maxSteps := 400000) only [go_sem, hk87, k66, b1, simprocAttr]
   rw [← hRR]
   exact covM_n
 · simp (maxSteps := 400000) only [go_sem, hk87, k66, b1, simprocAttr]
   rw [← hRR]
   exact covM_n
 · have c2 : decide (((r.length + 1 + 1 : Nat) : Int) < 2) = false := decide_eq_false (by omega)
   have c3 : decide ((0 : Int) < ((r.length + 1 + 1 : Nat) : Int)) = true := decide_eq_true (by omega)
   have c4 : decide ((1 : Int) < ((r.length + 1 + 1 : Nat) : Int)) = true := decide_eq_true (by omega)
   have c5 : decide ((2 : Int) ≤ ((r.length + 1 + 1 : Nat) : Int)) = true := decide_eq_true (by omega)
   have la := a.toNat_lt
   have lb := b.toNat_lt
   have ho : IntKind.i64.wrap (IntKind.i64.wrap (256 * IntKind.i64.wrap (a.toNat : Int)) + IntKind.i64.wrap (b.toNat : Int)) = 256 * (a.toNat : Int) + (b.toNat : Int) := by
    rw [wrB8, wrB8, wrapL (n := 256 * (a.toNat : Int)) (by omega) (by omega), wrapL (by omega) (by omega)]
   dsimp only at hRR
   simp (maxSteps := 400000) only [go_sem, hk87, k66, b1, c2, c3, c4, c5, ho, List.drop_zero, simprocAttr]
   rw [← hRR]
   exact CovS.ends (Ends.pureE (by simp only [AV.bel, belL, hcB, hxB, Bool.and_self]) rfl)
def k48 : Ct
 | [.agg b, .i .i64 ss, .i .i64 ty], _, n => (md9 b).bind fun p => some (true, { v := rsM (orgS p ss ty), n })
 | _, _, _ => none
theorem s48 : SoundAt Try.prog 48 k48 := fun args h n c E hc ht => by
 unfold k48 at hc
 split at hc
 · simp only [Option.bind_eq_some_iff] at hc
   obtain ⟨p, hp, he⟩ := hc
   cases he
   rw [md9_eq hp]
   exact CallOK.pure (by kernel_rfl) (by simp only [belL, AV.bel, Md.bel, Bool.and_self]) (rsM_bel _) (w48 p _ _) _ _
 · cases hc
/-! again -/
def agS (p : Md) (ss ty nx : Int) : Md := ⟨p.ma, ty, nx, p.tm, ss, p.cs, p.xs, p.pd, UInt8.ofNat (p.sq / 256).toNat :: UInt8.ofNat (p.sq % 256).toNat :: p.pl⟩
def TM76 : List (Nat × Ct) := [(77, k77), (78, k78)]
theorem hTM76 : Sound Try.prog (cxT TM76) := Sound.cons s77 (Sound.cons s78 Sound.nil)
def shNe (b : Nat) : AV → Bool
 | .sl c _ _ _ => !(Nat.beq b c)
 | .sg c _ _ => !(Nat.beq b c)
 | _ => true
theorem shNe_ne {b : Nat} {v : AV} (h : shNe b v = true) (hr : shR v ≠ []) : b ≠ shB v := by
 unfold shNe at h
 split at h
 · intro e; subst e; simp [shB, nbeq] at h
 · intro e; subst e; simp [shB, nbeq] at h
 · rename_i n1 n2
   exfalso
   apply hr
   cases v <;> first | rfl | exact absurd rfl (n1 _ _ _ _) | exact absurd rfl (n2 _ _ _)
theorem w76 (p : Md) (ti ss ty nx : Int) (s : Sh) (hp : s.plain = true) (hm : mdB p = true) (hpl : p.pl.length ≤ 1000000000000) (hn : inI 0 65535 nx = true) : FTL Try.prog 76 [.p 0 0, .agg p.l] ((0, { cells := [.i .i64 ti, .i .i64 ss, .i .i64 ty, .i .i64 nx, s.v 1] }) :: s.h 1) 2 (.agg (agS p ss ty nx).l) ((0, { cells := [.i .i64 ti, .i .i64 ss, .i .i64 ty, .i .i64 ((nx + 1) % 65536), s.v 1] }) :: s.h 1) 2 := by
 have hml := mdB_len hm
 have hsq := mdB_sq hm
 obtain ⟨ma, pty, sq, tm, pss, cs, xs, pd, pl⟩ := p
 simp only [Md.l, agS]
 dsimp only at hml hsq
 have hcB : ∀ j, belL j (rows int1 cs) = true := fun j => csB j cs
 have hxB : ∀ j, belL j (rows xtR xs) = true := fun j => xsB j xs
 have hcl : decide (cs.length ≤ 1000) = true := decide_eq_true (by omega)
 have hxl : decide (xs.length ≤ 1000) = true := decide_eq_true (by omega)
 have hk77 : ∀ (h : Hp) n, k77 [.fz (rows int1 cs) cs.length] h n = some (true, { v := .fz (rows int1 cs) cs.length, n }) := fun h n => by simp only [k77, in_un, Option.bind_some, hcl]
 have hk78 : ∀ (h : Hp) n, k78 [.fz (rows xtR xs) xs.length] h n = some (true, { v := .fz (rows xtR xs) xs.length, n }) := fun h n => by simp only [k78, xt_un, Option.bind_some, hxl]
 refine FTL.of_iw (cx := cxT TM76) hTM76 mo Try.func76 i76_eq (by simp [i76]) (iw_of_jw ?_)
 dsimp only [i76, TM76]
 have hn := inI_t hn
 have hsq := inI_t hsq
 have e1 : IntKind.i64.wrap (nx + 1) = nx + 1 := wrapL (by omega) (by omega)
 have e2 : andI IntKind.i64 (nx + 1) 65535 = (nx + 1) % 65536 := and16 _ (by omega) (by omega)
 have e3 : IntKind.u8.wrap (sq.fdiv 256) = sq / 256 := by rw [Int.fdiv_eq_ediv_of_nonneg _ (by omega), wrapU8]; omega
 have e4 : IntKind.u8.wrap sq = sq % 256 := wrapU8 _
 have e5 : decide (2 + pl.length ≤ 9223372036854775807) = true := decide_eq_true (by simp only at hpl; omega)
 simp (maxSteps := 400000) only [go_sem, hk77, hk78, e1, e2, e3, e4, e5, simprocAttr]
 exact Ends.boxM (C := fun i => [.i .i64 ti, .i .i64 ss, .i .i64 ty, .i .i64 ((nx + 1) % 65536), s.v i]) hp rfl (by simp only [AV.bel, belL, hcB, hxB, Bool.and_self]) (by simp only [renL, AV.ren, v_ren]; rfl) (by simp only [belL, AV.bel, v_bel (show 1 < 2 by decide), Bool.and_self]) (by simp [hget_cons]) (by simp [hasS_cons, hasS_hit0])
def hdB : Blk → Option (Int × Int × Int × Int × AV)
 | ⟨[.i .i64 ti, .i .i64 ss, .i .i64 ty, .i .i64 nx, v], false, none, none⟩ => some (ti, ss, ty, nx, v)
 | _ => none
theorem hdB_eq {k : Blk} {ti ss ty nx : Int} {v : AV} (h : hdB k = some (ti, ss, ty, nx, v)) : k = { cells := [.i .i64 ti, .i .i64 ss, .i .i64 ty, .i .i64 nx, v] } := by
 unfold hdB at h
 split at h
 · cases h; rfl
 · cases h
def k76 : Ct
 | [.p b 0, .agg c], h, n => (md9 c).bind fun p => (hget h b).bind fun k => (hdB k).bind fun q => (shAt q.2.2.2.2 h).bind fun s =>
  some (s.plain && (shNe b q.2.2.2.2 && (mdB p && (decide (p.pl.length ≤ 1000000000000) && inI 0 65535 q.2.2.2.1))), { v := .agg (agS p q.2.1 q.2.2.1 q.2.2.2.1).l, n := n + 2, rd := b :: shR q.2.2.2.2, md := [(b, some { cells := [.i .i64 q.1, .i .i64 q.2.1, .i .i64 q.2.2.1, .i .i64 ((q.2.2.2.1 + 1) % 65536), q.2.2.2.2] })] })
 | _, _, _ => none
theorem s76 : SoundAt Try.prog 76 k76 := fun args h n c E hc ht => by
 unfold k76 at hc
 split at hc
 · rename_i b cc
   simp only [Option.bind_eq_some_iff] at hc
   obtain ⟨p, hp, k, hk, ⟨ti, ss, ty, nx, v⟩, hq, s, hs, he⟩ := hc
   rw [hdB_eq hq] at hk
   rw [md9_eq hp]
   cases he
   simp only [Bool.and_eq_true, decide_eq_true_eq] at ht
   have hv := (shAt_inv hs).1
   have hpr : ∀ ψ, renL ψ p.l = p.l := fun ψ => renL_fix0 _ (Md.bel p)
   have hpb : belL 2 p.l = true := belL_mono0 _ (Md.bel p)
   dsimp only at hs ht
   have := CallOK.boxM (n := n) (s := s) (v := v) (A := fun b => [.p b 0, .agg p.l]) (C := fun i => [.i .i64 ti, .i .i64 ss, .i .i64 ty, .i .i64 nx, s.v i]) (C' := fun i => [.i .i64 ti, .i .i64 ss, .i .i64 ty, .i .i64 ((nx + 1) % 65536), s.v i]) true (by kernel_rfl) (by simp only [belL, AV.bel, hpb, nblt, Bool.and_self]; rfl) (by simp only [belL, AV.bel, v_bel (show 1 < 2 by decide), Bool.and_self]) (by rw [← hv]; exact hk) hs ht.1 (shNe_ne ht.2.1) (fun ψ => by simp only [renL, AV.ren, hpr]) (fun ψ => by simp only [renL, AV.ren, v_ren]) (fun ψ => by simp only [renL, AV.ren, v_ren]) (fun h i j => by subst h; rfl) (fun h i j => by subst h; rfl) (by simp only [AV.bel, Md.bel]) (fun h => by cases h) (w76 p ti ss ty nx s ht.1 ht.2.2.1 ht.2.2.2.1 ht.2.2.2.2)
   rwa [← hv] at this
 · cases hc
end Go.Proofs.Res
end
section
/- The contract of Answer. -/
namespace Go.Proofs.Res
open Go.Ab
set_option maxRecDepth 100000
set_option maxHeartbeats 8000000
set_option linter.unusedSimpArgs false
set_option linter.unusedVariables false
/-! what is looked for -/
theorem w75 (x : Kp) (n : Int) : FTL Try.prog 75 [.agg x.l, .fp [.i .i64 n] 0] [] 0 (.b (x.p.sq == n)) [] 0 := by
 obtain ⟨⟨ma, pty, sq, tm, pss, cs, xs, pd, pl⟩, xt, xa⟩ := x
 refine FTL.of_iw Sound.nil mo Try.func75 i75_eq (by simp [i75]) (iw_of_jw ?_)
 dsimp only [i75]
 simp (maxSteps := 400000) only [go_sem, Kp.l, simprocAttr]
 exact Ends.pureE rfl rfl
theorem w74q (n : Int) (l : List Kp) (hl : l.length ≤ 1000000000000) :
 FTL Try.prog 74 [.fz (rows Kp.l l) l.length, .fn 75 [.fp [.i .i64 n] 0]] [] 0 (.i .i64 (ixf (fun x => x.p.sq == n) l 0)) [] 0 :=
 ixf_fz (row := Kp.l) (el := fun x => .agg x.l) mo Try.func74 i74_eq (by kernel_rfl) Kp.len Kp.bel rfl (fun _ => rfl) (fun a b h => by simp only [AV.agg.injEq] at h; rw [Kp.inj h]) l hl (fun x hx => w75 x n)
def k74q : Ct
 | [x, .fn 75 [.p a 0]], h, n => vwK h 11 x fun rd m cs ok => (unrows 11 kp11 m cs).bind fun l => (hget h a).bind fun ka => (oneB ka).bind fun q =>
  some (ok && decide (m ≤ 1000000000000), { v := .i .i64 (ixf (fun x => x.p.sq == q) l 0), n, rd := a :: rd })
 | _, _, _ => none
theorem s74q : SoundAt Try.prog 74 k74q := fun args h n c E hc ht => by
 unfold k74q at hc
 split at hc
 · rename_i x a
   rw [vwK_eq] at hc
   simp only [Option.bind_eq_some_iff] at hc
   obtain ⟨⟨rd, m, cs, ok⟩, hv, l, hl, ka, hka, q, hq, he⟩ := hc
   cases he
   simp only [Bool.and_eq_true, decide_eq_true_eq] at ht
   obtain ⟨rfl, hm⟩ := ht
   obtain ⟨rfl, hlm⟩ := unrows_eq (f := Kp.l) (fun c a h => kp11_eq h) hl
   subst hlm
   refine CallOK.viewG (by kernel_rfl) (argsF := [.fz (rows Kp.l l) l.length, .fn 75 [.fp ka.cells 0]]) ⟨vwK_sub hv (rows_bel Kp.bel) (fun c hc => by simp [inl_cons, hc]), VwV.fn ⟨VwV.p (by simp [only, inl_cons, hka]) (by rw [oneB_eq hq]; rfl), trivial⟩, trivial⟩ rfl ?_
   rw [oneB_eq hq]
   exact w74q q l hm
 · cases hc
def TM73 : List (Nat × Ct) := [(49, k49)]
theorem hTM73 : Sound Try.prog (cxT TM73) := Sound.cons s49 Sound.nil
theorem w73 (x : Int) : FTL Try.prog 73 [.i .i64 x] [] 0 (.b !(inI 0 65535 x)) [] 0 := by
 refine FTL.of_iw hTM73 mo Try.func73 i73_eq (by simp [i73]) (iw_of_jw ?_)
 dsimp only [i73, TM73]
 simp (maxSteps := 400000) only [go_sem, k49, simprocAttr]
 exact Ends.pureE rfl rfl
theorem w94q (l : List Int) (hl : l.length ≤ 1000000000000) : FTL Try.prog 94 [.fz (rows int1 l) l.length, .fn 73 []] [] 0 (.i .i64 (ixf (fun x => !inI 0 65535 x) l 0)) [] 0 :=
 ixf_fz1 (el := fun n => .i .i64 n) mo Try.func94 i94_eq (by kernel_rfl) (fun _ => rfl) rfl (fun _ => rfl) (fun a b h => by cases h; rfl) l hl (fun n _ => w73 n)
theorem w72q (l : List Int) (hl : l.length ≤ 1000000000000) : FTL Try.prog 72 [.fz (rows int1 l) l.length, .fn 73 []] [] 0 (.b (l.any fun x => !inI 0 65535 x)) [] 0 :=
 cof_fz mo Try.func72 i72_eq (by kernel_rfl) (rows_bel int1_bel) rfl (w94q l hl) (ixf_neg _ l 0 (by omega))
def k72q : Ct
 | [.fz L m, .fn 73 []], _, n => (unrows 1 intV m L).bind fun l => some (decide (m ≤ 1000000000000), { v := .b (l.any fun x => !inI 0 65535 x), n })
 | _, _, _ => none
theorem s72q : SoundAt Try.prog 72 k72q := fun args h n c E hc ht => by
 unfold k72q at hc
 split at hc
 · simp only [Option.bind_eq_some_iff] at hc
   obtain ⟨l, hl, he⟩ := hc
   cases he
   obtain ⟨rfl, rfl⟩ := unrows_eq intV_eq hl
   exact CallOK.pure (by kernel_rfl) (by simp only [belL, AV.bel, csB, Bool.and_self]) rfl (w72q l (of_decide_eq_true ht)) _ _
 · cases hc
/-! what is answered -/
def ansF (now trip : Int) (x : Kp) : Bool := decide (now - x.ti ≤ 2000) && (decide (x.ak < 0) || decide (now - x.ak ≥ trip))
structure An where
 l : List Kp
 nx : Int
 o : List Md
def An.put (s : An) (ss ty now : Int) (i : Nat) (x : Kp) : An := ⟨s.l.set i ⟨x.p, x.ti, now⟩, (s.nx + 1) % 65536, s.o ++ [agS x.p ss ty s.nx]⟩
def ans1 (ss ty now trip : Int) (s : An) (n : Int) : An :=
 if ixf (fun x => x.p.sq == n) s.l 0 < 0 then s else match s.l[(ixf (fun x => x.p.sq == n) s.l 0).toNat]? with
  | none => s
  | some x => bif ansF now trip x then s.put ss ty now (ixf (fun x => x.p.sq == n) s.l 0).toNat x else s
def ansL (ss ty now trip : Int) (s : An) (ns : List Int) : An := ns.foldl (ans1 ss ty now trip) s
def rsA (r : Hs × List Md × Int) : AV := .tup [.agg r.1.a, .fz (rows Md.l r.2.1) r.2.1.length, .i .i64 r.2.2]
theorem mrB (j : Nat) (l : List Md) : belL j (rows Md.l l) = true := belL_mono0 _ (rows_bel Md.bel)
theorem rsA_bel (r : Hs × List Md × Int) : (rsA r).bel 0 = true := by simp only [rsA, AV.bel, belL, Hs.bel, mrB, Bool.and_self]
def ansS (h : Hs) (now trip : Int) (ns : List Int) : Hs × List Md × Int :=
 if lateH h now = 0 then
  bif inI 1 2000 trip then bif decide (ns.length ≤ 64) then bif ns.any (fun x => !inI 0 65535 x) then (zH, [], 2)
   else (⟨now, h.ss, h.ty, (ansL h.ss h.ty now trip ⟨h.l, h.nx, []⟩ ns).nx, (ansL h.ss h.ty now trip ⟨h.l, h.nx, []⟩ ns).l⟩, (ansL h.ss h.ty now trip ⟨h.l, h.nx, []⟩ ns).o, 0)
   else (zH, [], 3) else (zH, [], 2)
 else (zH, [], lateH h now)
theorem covA_n {e : Int} {h : Hp} {n : Nat} : CovS 0 (.tup [.agg [.i .i64 0, .i .i64 0, .i .i64 0, .i .i64 0, .ns], .ns, .i .i64 e]) h n (rsA (zH, [], e)) [] 0 := by
 refine CovS.frzN (l := []) (v' := rsA (zH, [], e)) (FzV.tup ⟨FzV.agg ⟨FzV.refl, FzV.refl, FzV.refl, FzV.refl, FzV.hit, trivial⟩, FzV.hit, FzV.refl, trivial⟩) ?_
 exact CovS.ends (Ends.pureE rfl rfl)
theorem covA_z {now ss ty nx : Int} {h : Hp} {n : Nat} : CovS 0 (.tup [.agg [.i .i64 now, .i .i64 ss, .i .i64 ty, .i .i64 nx, .ze], .ns, .i .i64 0]) h n (rsA (⟨now, ss, ty, nx, []⟩, [], 0)) [] 0 := by
 refine CovS.frzZ (l := []) (v' := .tup [.agg [.i .i64 now, .i .i64 ss, .i .i64 ty, .i .i64 nx, .fz [] 0], .ns, .i .i64 0]) (FzV.tup ⟨FzV.agg ⟨FzV.refl, FzV.refl, FzV.refl, FzV.refl, FzV.hit, trivial⟩, FzV.refl, FzV.refl, trivial⟩) ?_
 refine CovS.frzN (l := []) (v' := rsA (⟨now, ss, ty, nx, []⟩, [], 0)) (FzV.tup ⟨FzV.refl, FzV.hit, FzV.refl, trivial⟩) ?_
 exact CovS.ends (Ends.pureE rfl rfl)
theorem gMcap (q : List Md) : (gQ Md.l 9 q).capOK := by unfold gQ; split <;> trivial
theorem gMp (q : List Md) : (gQ Md.l 9 q).plain = true := (gQ_is (f := Md.l) Md.bel Md.len q).pl
theorem covA_s {now ss ty nx : Int} {h : Hp} {n : Nat} {l : List Kp} {o : List Md} {m : Nat} (hm : m = l.length) (hk : hget h 3 = some { cells := rows Kp.l l, gr := some 11 }) (ho : hasS h (gQ Md.l 9 o) 4) :
 CovS 0 (.tup [.agg [.i .i64 now, .i .i64 ss, .i .i64 ty, .i .i64 nx, .sg 3 0 m], (gQ Md.l 9 o).v 4, .i .i64 0]) h n (rsA (⟨now, ss, ty, nx, l⟩, o, 0)) [] 0 := by
 subst hm
 refine CovS.frzS (h' := [(3, { cells := rows Kp.l l, gr := some 11 })]) (v' := .tup [.agg [.i .i64 now, .i .i64 ss, .i .i64 ty, .i .i64 nx, .sg 3 0 l.length], .fz (rows Md.l o) o.length, .i .i64 0]) (gQ_is (f := Md.l) Md.bel Md.len o) (gQ_fresh o) (gMcap o) ho (FzV.tup ⟨FzV.refl, FzV.hit, FzV.refl, trivial⟩) (fun c kk hc => ?_) ?_
 · have := hget_mem hc
   simp only [List.mem_singleton, Prod.mk.injEq] at this
   obtain ⟨rfl, rfl⟩ := this
   exact ⟨by decide, hk⟩
 refine CovS.frz (b := 3) (k := { cells := rows Kp.l l, gr := some 11 }) (h' := []) (o := 0) (m := l.length) (cs := rows Kp.l l) (v' := rsA (⟨now, ss, ty, nx, l⟩, o, 0)) (by simp [hget]) rfl (.inr rfl) (.inl rfl) (FzV.tup ⟨FzV.agg ⟨FzV.refl, FzV.refl, FzV.refl, FzV.refl, FzV.hit, trivial⟩, FzV.refl, FzV.refl, trivial⟩) (fun c kk hc => by simp [hget] at hc) ?_
 exact CovS.ends (Ends.pureE (rsA_bel _) rfl)
theorem ans1_m {ss ty now trip : Int} {s : An} {n : Int} (h : ixf (fun x => x.p.sq == n) s.l 0 = -1) : ans1 ss ty now trip s n = s := by
 unfold ans1; rw [h, if_pos (by decide)]
theorem ans1_j {ss ty now trip : Int} {s : An} {n : Int} {j : Nat} {x : Kp} (h : ixf (fun x => x.p.sq == n) s.l 0 = 0 + (j : Int)) (hx : s.l[j]? = some x) : ans1 ss ty now trip s n = bif ansF now trip x then s.put ss ty now j x else s := by
 unfold ans1; rw [h, if_neg (by omega), show (0 + (j : Int)).toNat = j by omega, hx]
theorem ansL_nil (ss ty now trip nx : Int) (o : List Md) : ∀ ns, ansL ss ty now trip ⟨[], nx, o⟩ ns = ⟨[], nx, o⟩
 | [] => rfl
 | n :: r => by
  have : ans1 ss ty now trip ⟨[], nx, o⟩ n = ⟨[], nx, o⟩ := rfl
  show ansL ss ty now trip (ans1 ss ty now trip ⟨[], nx, o⟩ n) r = _
  rw [this]; exact ansL_nil ss ty now trip nx o r
def okA (x : Kp) : Bool := mdB x.p && (inI 0 1099511627776 x.ti && (inI (-1) 1099511627776 x.ak && decide (x.p.pl.length ≤ 1000000000000)))
theorem goodH_a {h : Hs} {now : Int} (e : lateH h now = 0) (hf : finH h = true) : (∀ x ∈ h.l, okA x = true) ∧ inI 0 65535 h.nx = true := by
 obtain ⟨hg, hn⟩ := lateH_0 e
 simp only [goodH, headH, namesB, Bool.and_eq_true] at hg
 obtain ⟨⟨h1, ⟨_, _, h3⟩, _⟩, h4, h5⟩ := hg
 have hn := inI_t hn
 have h1 := inI_t h1
 simp only [TT] at h1
 rw [List.all_eq_true] at h4
 simp only [finH, List.all_eq_true] at hf
 have key : ∀ (l : List Kp) (f ld lq : Int), 0 ≤ f → chH h.ti lq f ld l = true → ∀ x ∈ l, (0 ≤ x.ti ∧ x.ti ≤ h.ti) ∧ (-1 ≤ x.ak ∧ x.ak ≤ h.ti) := by
  intro l
  induction l with
  | nil => intro f ld lq hf hc x hx; cases hx
  | cons y r ih =>
   intro f ld lq hf hc x hx
   simp only [chH, akB, Bool.and_eq_true, Bool.or_eq_true, beq_iff_eq] at hc
   have q1 := inI_t hc.1
   rcases List.mem_cons.1 hx with rfl | hx
   · refine ⟨by omega, ?_⟩
     rcases hc.2.1 with h | h
     · omega
     · have := inI_t h; omega
   · exact ih _ _ _ (by omega) hc.2.2.2 x hx
 refine ⟨fun x hx => ?_, h3⟩
 obtain ⟨q1, q2⟩ := key _ _ _ _ (Int.le_refl _) h5 x hx
 have q3 := hf x hx
 simp only [Md.fin, Bool.and_eq_true] at q3
 have r1 : inI 0 1099511627776 x.ti = true := inI_of (by omega)
 have r2 : inI (-1) 1099511627776 x.ak = true := inI_of (by omega)
 simp only [okA, h4 x hx, r1, r2, q3.2, Bool.and_self]
structure AnOK (l : List Kp) (s : An) : Prop where
 len : s.l.length = l.length
 ok : ∀ x ∈ s.l, okA x = true
 nx : 0 ≤ s.nx ∧ s.nx ≤ 65535
theorem AnOK.put {l : List Kp} {s : An} (h : AnOK l s) {i : Nat} {x : Kp} (hx : s.l[i]? = some x) {now : Int} (hn : inI 0 1099511627776 now = true) (ss ty : Int) : AnOK l (s.put ss ty now i x) := by
 refine ⟨by simp [An.put, h.len], fun y hy => ?_, by have := h.nx; simp only [An.put]; omega⟩
 rcases List.mem_or_eq_of_mem_set hy with hy | rfl
 · exact h.ok y hy
 · have h1 := h.ok x (List.mem_of_getElem? hx)
   simp only [okA, Bool.and_eq_true] at h1 ⊢
   exact ⟨h1.1, h1.2.1, inI_of (by have := inI_t hn; omega), h1.2.2.2⟩
theorem AnOK.one {l : List Kp} {s : An} (h : AnOK l s) (ss ty : Int) {now : Int} (trip n : Int) (hn : inI 0 1099511627776 now = true) : AnOK l (ans1 ss ty now trip s n) := by
 unfold ans1
 split
 · exact h
 · split
   · exact h
   · rename_i x hx
     cases ansF now trip x
     · exact h
     · exact h.put hx hn ss ty
theorem ansL_ok {l : List Kp} (ss ty : Int) {now : Int} (trip : Int) (hn : inI 0 1099511627776 now = true) : ∀ (ns : List Int) {s : An}, AnOK l s → AnOK l (ansL ss ty now trip s ns)
 | [], s, h => h
 | n :: r, s, h => ansL_ok ss ty trip hn r (h.one ss ty trip n hn)
theorem ansL_len (ss ty now trip : Int) : ∀ (ns : List Int) (s : An), (ansL ss ty now trip s ns).o.length ≤ s.o.length + ns.length
 | [], s => by simp [ansL]
 | n :: r, s => by
  have h1 : (ans1 ss ty now trip s n).o.length ≤ s.o.length + 1 := by
   unfold ans1
   split
   · omega
   · split
     · omega
     · rename_i x hx
       cases ansF now trip x
       · show s.o.length ≤ _; omega
       · show (s.put ss ty now _ x).o.length ≤ _; simp [An.put]
  have := ansL_len ss ty now trip r (ans1 ss ty now trip s n)
  show (ansL ss ty now trip (ans1 ss ty now trip s n) r).o.length ≤ _
  simp only [List.length_cons]; omega
theorem ansL_snoc (ss ty now trip : Int) (s : An) {ns : List Int} {k : Nat} {n : Int} (h : ns[k]? = some n) : ansL ss ty now trip s (ns.take (k + 1)) = ans1 ss ty now trip (ansL ss ty now trip s (ns.take k)) n := by
 rw [List.take_add_one, h]
 simp [ansL, List.foldl_append]
def TM37 : List (Nat × Ct) := [(49, k49), (67, k67), (72, k72q), (74, k74q), (76, k76)]
theorem hTM37 : Sound Try.prog (cxT TM37) := Sound.cons s49 (Sound.cons s67 (Sound.cons s72q (Sound.cons s74q (Sound.cons s76 Sound.nil))))
theorem plain_sg {k : Blk} {o l : Nat} : (Sh.sg k o l).plain = belL 0 k.cells := (rfl)
abbrev hM37 (now ss ty : Int) (m : Nat) (s : An) : Hp := (gQ Md.l 9 s.o).h 4 ++ [(2, { cells := [.i .i64 now, .i .i64 ss, .i .i64 ty, .i .i64 s.nx, .sg 3 0 m] }), (3, { cells := rows Kp.l s.l, gr := some 11 }), (1, { cells := [.i .i64 0, .i .i64 0, .i .i64 0, .i .i64 0, .ns] })]
theorem loop37 (ss ty nx now trip : Int) (l : List Kp) (ns : List Int) (hnow : inI 0 1099511627776 now = true) (hl64 : l.length ≤ 64) (b2 : ns.length ≤ 64) (hok0 : AnOK l ⟨l, nx, []⟩) {K : Kont} {e : Env} {h : Hp} {n : Nat}
 (he : EnvR 5 [] e [(1, .i .i64 now), (2, .i .i64 trip), (8, .p 1 0), (9, (gQ Md.l 9 []).v 4), (11, .p 2 0), (37, .fz (rows int1 ns) ns.length), (38, .i .i64 (ns.length : Int)), (39, .i .i64 0)])
 (hh : HpR 5 [] h (hM37 now ss ty l.length ⟨l, nx, []⟩))
 (hK : ∀ e', eget e' 8 = some (.p 1 0) → eget e' 11 = some (.p 2 0) → eget e' 9 = some ((gQ Md.l 9 (ansL ss ty now trip ⟨l, nx, []⟩ ns).o).v 4) → K (.exit 0) e' (hM37 now ss ty l.length (ansL ss ty now trip ⟨l, nx, []⟩ ns)) 5) :
 Ab.Loop Try.prog [23, 28, 32, 35, 40, 51, 82] 102 0 i37l20 K e h n := by
 have hnB : ∀ j, belL j (rows int1 ns) = true := fun j => csB j ns
 have hnR : ∀ g, renL g (rows int1 ns) = rows int1 ns := fun g => renL_fix0 _ (rows_bel int1_bel)
 refine Loop.stepR (F := ⟨Try.prog, cxT TM37, [23, 28, 32, 35, 40, 51, 82], 102, 0⟩) hTM37 mo (X := Nat) (fun k => k ≤ ns.length) (fun k => ns.length - k)
  (fun k => [(1, .i .i64 now), (2, .i .i64 trip), (8, .p 1 0), (9, (gQ Md.l 9 (ansL ss ty now trip ⟨l, nx, []⟩ (ns.take k)).o).v 4), (11, .p 2 0), (37, .fz (rows int1 ns) ns.length), (38, .i .i64 (ns.length : Int)), (39, .i .i64 (k : Int))])
  (fun k => hM37 now ss ty l.length (ansL ss ty now trip ⟨l, nx, []⟩ (ns.take k))) 5 0 (fun k => k + 1) []
  (fun k => if (ansL ss ty now trip ⟨l, nx, []⟩ (ns.take (k + 1))).o.length = (ansL ss ty now trip ⟨l, nx, []⟩ (ns.take k)).o.length then [] else [(4, 9)]) (by decide) (by decide) (fun k => by split <;> decide) (Nat.zero_le _) he hh (fun k hk => ?_)
 dsimp only [TM37]
 by_cases hlt : k < ns.length
 · have c1 : decide ((k : Int) < (ns.length : Int)) = true := decide_eq_true (by omega)
   have c2 : decide (0 ≤ (k : Int) ∧ (k : Int) < (ns.length : Int)) = true := decide_eq_true (by omega)
   have hw : IntKind.i64.wrap ((k : Int) + 1) = ((k + 1 : Nat) : Int) := by rw [wrapL (by omega) (by omega)]; omega
   obtain ⟨q, hq⟩ : ∃ q, ns[k]? = some q := ⟨_, List.getElem?_eq_getElem hlt⟩
   have hr : (rows int1 ns)[k * 1]? = some (.i .i64 q) := rows_get (f := int1) (z := 1) (j := 0) (v := .i .i64 q) int1_len hq rfl
   have hr' : (rows int1 ns)[k]? = some (.i .i64 q) := by rw [← hr, Nat.mul_one]
   rw [ansL_snoc ss ty now trip _ hq]
   have hol := ansL_len ss ty now trip (ns.take k) ⟨l, nx, []⟩
   have hko : AnOK l (ansL ss ty now trip ⟨l, nx, []⟩ (ns.take k)) := ansL_ok ss ty trip hnow _ hok0
   generalize ansL ss ty now trip ⟨l, nx, []⟩ (ns.take k) = s at *
   obtain ⟨sl, sn, so⟩ := s
   have hkl := hko.len
   have hkn := hko.nx
   dsimp only at hol hkl hkn
   have hsk : ns.length - (k + 1) < ns.length - k := by omega
   have hus := kp_un sl
   rw [hkl] at hus
   have hlm : decide (l.length ≤ 1000000000000) = true := decide_eq_true (by omega)
   have zR : (rows Kp.l sl).length = l.length * 11 := by rw [rows_len Kp.len, hkl]
   have hcs : List.take (l.length * 11) (List.drop 0 (rows Kp.l sl)) = rows Kp.l sl := by rw [List.drop_zero, ← zR, List.take_length]
   have pk := gMp so
   have hix := ixf_some (p := fun x : Kp => x.p.sq == q) sl 0 (Int.le_refl _)
   rcases hix with hI1 | ⟨j, hj, hI1, _, y, hy, _⟩
   · rw [ans1_m hI1, if_pos rfl]
     simp (maxSteps := 400000) only [go_sem, vwK_g, c1, c2, hw, hr, hr', k74q, hus, hlm, hcs, zR, hI1, oneB, int1, hlt, hsk, hnB, hnR, krR, AV.bel, belL, nblt, Blk.ren, renL, AV.ren, krB, pk, simprocAttr]
     exact hlt
   · have hf := ans1_j (s := ⟨sl, sn, so⟩) (ss := ss) (ty := ty) (now := now) (trip := trip) hI1 hy
     rw [Int.zero_add] at hI1
     rw [hkl] at hj
     have hyo := hko.ok y (List.mem_of_getElem? hy)
     simp only [okA, Bool.and_eq_true, decide_eq_true_eq] at hyo
     obtain ⟨ym, yt, ya, yl⟩ := hyo
     have yt := inI_t yt
     have ya := inI_t ya
     have hnw := inI_t hnow
     have d1 : decide ((j : Int) < 0) = false := decide_eq_false (by omega)
     have d2 : decide (0 ≤ (j : Int) ∧ (j : Int) < (l.length : Int)) = true := decide_eq_true (by omega)
     have r9 : (rows Kp.l sl)[j * 11 + 9]? = some (.i .i64 y.ti) := rows_get (f := Kp.l) (z := 11) (j := 9) (v := .i .i64 y.ti) Kp.len hy rfl
     have r10 : (rows Kp.l sl)[j * 11 + 10]? = some (.i .i64 y.ak) := rows_get (f := Kp.l) (z := 11) (j := 10) (v := .i .i64 y.ak) Kp.len hy rfl
     have w1 : IntKind.i64.wrap (now - y.ti) = now - y.ti := wrapL (by omega) (by omega)
     have w2 : IntKind.i64.wrap (now - y.ak) = now - y.ak := wrapL (by omega) (by omega)
     have hF : ansF now trip y = (decide (now - y.ti ≤ 2000) && (decide (y.ak < 0) || decide (now - y.ak ≥ trip))) := rfl
     cases hF1 : ansF now trip y
     · rw [hf, hF1, cond_false, if_pos rfl]
       rw [hF1] at hF
       cases a1 : decide (now - y.ti ≤ 2000)
       · simp (maxSteps := 400000) only [go_sem, vwK_g, c1, c2, hw, hr, hr', k74q, hus, hlm, hcs, zR, hI1, oneB, int1, d1, d2, r9, r10, w1, w2, a1, hlt, hsk, hnB, hnR, krR, AV.bel, belL, nblt, Blk.ren, renL, AV.ren, krB, pk, simprocAttr]
         exact hlt
       · rw [a1, Bool.true_and] at hF
         cases a2 : decide (y.ak < 0)
         · cases a3 : decide (now - y.ak ≥ trip)
           · simp (maxSteps := 400000) only [go_sem, vwK_g, c1, c2, hw, hr, hr', k74q, hus, hlm, hcs, zR, hI1, oneB, int1, d1, d2, r9, r10, w1, w2, a1, a2, a3, hlt, hsk, hnB, hnR, krR, AV.bel, belL, nblt, Blk.ren, renL, AV.ren, krB, pk, simprocAttr]
             exact hlt
           · rw [a2, a3] at hF; cases hF
         · rw [a2] at hF; cases hF
     · rw [hf, hF1, cond_true]
       have hlen : ((An.put ⟨sl, sn, so⟩ ss ty now j y).o.length = so.length) = False := by simp [An.put]
       simp only [hlen, if_false]
       rw [hF1] at hF
       have a0 := hF.symm
       rw [Bool.and_eq_true, Bool.or_eq_true] at a0
       obtain ⟨a1, a23⟩ := a0
       have hsp : List.take (j * 11 + 10) (rows Kp.l sl) ++ [AV.i .i64 now] ++ List.drop (j * 11 + 10 + 1) (rows Kp.l sl) = rows Kp.l (sl.set j ⟨y.p, y.ti, now⟩) := splice_row Kp.len hy (by decide) rfl
       have hsy : (sl.set j ⟨y.p, y.ti, now⟩)[j]? = some ⟨y.p, y.ti, now⟩ := by rw [List.getElem?_set_self (by omega)]
       have rt : List.take 9 (List.drop (j * 11) (rows Kp.l (sl.set j ⟨y.p, y.ti, now⟩))) = y.p.l := by
        have e9 : List.take 9 (List.take 11 (List.drop (j * 11) (rows Kp.l (sl.set j ⟨y.p, y.ti, now⟩)))) = y.p.l := by
         have := kp_at hsy
         rw [this]; rfl
        rwa [List.take_take] at e9
       have d3 : decide (j * 11 + 10 + 1 ≤ l.length * 11) = true := decide_eq_true (by omega)
       have zS : (rows Kp.l (sl.set j ⟨y.p, y.ti, now⟩)).length = l.length * 11 := by rw [rows_len Kp.len, List.length_set, hkl]
       have h9y := md9_l y.p
       have hyl : decide (y.p.pl.length ≤ 1000000000000) = true := decide_eq_true yl
       have hsn : inI 0 65535 sn = true := inI_of hkn
       have hpb : ∀ j, belL j y.p.l = true := fun j => belL_mono0 _ (Md.bel y.p)
       have hpr : ∀ g, renL g y.p.l = y.p.l := fun g => renL_fix0 _ (Md.bel y.p)
       have hab : ∀ j, belL j (agS y.p ss ty sn).l = true := fun j => belL_mono0 _ (Md.bel _)
       have har : ∀ g, renL g (agS y.p ss ty sn).l = (agS y.p ss ty sn).l := fun g => renL_fix0 _ (Md.bel _)
       have pk' := gMp (so ++ [agS y.p ss ty sn])
       have ht9 : List.take 9 (List.drop 0 (agS y.p ss ty sn).l) = (agS y.p ss ty sn).l := rfl
       have ho9 : oneAll (agS y.p ss ty sn).l = true := rfl
       dsimp only [An.put, hM37]
       rw [gQ_snoc] at pk' ⊢
       generalize sl.set j ⟨y.p, y.ti, now⟩ = S at *
       have gm : decide (112 * (so.length + 1) ≤ growMax) = true := decide_eq_true (by simp only [growMax]; have := List.length_take_le k ns; simp at hol; omega)
       have ol : (rows Md.l so).length = so.length * 9 := rows_len Md.len
       cases a2 : decide (y.ak < 0)
       · rw [a2] at a23
         have a3 : decide (now - y.ak ≥ trip) = true := by simpa using a23
         simp (maxSteps := 400000) only [go_sem, vwK_g, c1, c2, hw, hr, hr', k74q, hus, hlm, hcs, zR, hI1, oneB, int1, d1, d2, r9, r10, w1, w2, a1, a2, a3, d3, hsp, rt, zS, plain_sg, shR, k76, h9y, hyl, hsn, ym, hdB, shNe, hpb, hpr, hab, har, ht9, ho9, gm, ol, Md.len, hlt, hsk, hnB, hnR, krR, AV.bel, belL, nblt, Blk.ren, renL, AV.ren, krB, pk, pk', nbeq, simprocAttr]
         exact hlt
       · rw [a2] at a23
         simp (maxSteps := 400000) only [go_sem, vwK_g, c1, c2, hw, hr, hr', k74q, hus, hlm, hcs, zR, hI1, oneB, int1, d1, d2, r9, r10, w1, w2, a1, a2, d3, hsp, rt, zS, plain_sg, shR, k76, h9y, hyl, hsn, ym, hdB, shNe, hpb, hpr, hab, har, ht9, ho9, gm, ol, Md.len, hlt, hsk, hnB, hnR, krR, AV.bel, belL, nblt, Blk.ren, renL, AV.ren, krB, pk, pk', nbeq, simprocAttr]
         exact hlt
 · have c1 : decide ((k : Int) < (ns.length : Int)) = false := decide_eq_false (by omega)
   obtain rfl : k = ns.length := by omega
   rw [List.take_length]
   generalize ansL ss ty now trip ⟨l, nx, []⟩ ns = s at *
   have pk := gMp s.o
   simp only [hM37]
   simp (maxSteps := 400000) only [go_sem, c1, pk, simprocAttr]
   exact hK _ rfl rfl rfl
theorem w37 (hs : Hs) (now trip : Int) (ns : List Int) (hl : hs.l.length ≤ 1000000000000) (hf : finH hs = true) (hnl : ns.length ≤ 1000000000000) : FTL Try.prog 37 [.agg hs.a, .i .i64 now, .i .i64 trip, .fz (rows int1 ns) ns.length] [] 0 (rsA (ansS hs now trip ns)) [] 0 := by
 have hha := hsA_a hs
 have hll : decide (hs.l.length ≤ 1000000000000) = true := decide_eq_true hl
 have hnn : decide (ns.length ≤ 1000000000000) = true := decide_eq_true hnl
 have hgk := goodH_k (h := hs) (now := now)
 have hg64 : lateH hs now = 0 → hs.l.length ≤ 64 := fun h => goodH_len (lateH_0 h).1
 generalize hRR : ansS hs now trip ns = R
 unfold ansS at hRR
 have hk67 : ∀ (h : Hp) n, k67 [.agg hs.a, .i .i64 now] h n = if lateH hs now = 0 then (match hs.l with
  | [] => some (true, { v := .tup [.p n 0, .i .i64 0], n := n + 1, nw := [(n, { cells := stC0 hs now .ze })] })
  | x :: r => some (true, { v := .tup [.p n 0, .i .i64 0], n := n + 2, nw := [(n, { cells := stC0 hs now (.sg (n + 1) 0 hs.l.length) }), (n + 1, { cells := rows Kp.l hs.l, gr := some 11 })] }))
  else some (true, { v := .tup [.np, .i .i64 (lateH hs now)], n }) := fun h n => by
  simp only [k67, hha, Option.bind_some, hf, hll, Bool.and_self]
  rfl
 have hk72 : ∀ (h : Hp) n, k72q [.fz (rows int1 ns) ns.length, .fn 73 []] h n = some (true, { v := .b (ns.any fun x => !inI 0 65535 x), n }) := fun h n => by simp only [k72q, in_un, Option.bind_some, hnn]
 have n1 : decide ((ns.length : Int) > 64) = !decide (ns.length ≤ 64) := by rw [Bool.eq_iff_iff]; simp; omega
 have hnB : ∀ j, belL j (rows int1 ns) = true := fun j => csB j ns
 have hnR : ∀ g, renL g (rows int1 ns) = rows int1 ns := fun g => renL_fix0 _ (rows_bel int1_bel)
 have hga := fun e => goodH_a (h := hs) (now := now) e hf
 generalize lateH hs now = E at *
 obtain ⟨ti, ss, ty, nx, l⟩ := hs
 dsimp only at hRR hl hg64 hgk hk67 hga
 simp only [Hs.a, stC0] at hk67 ⊢
 refine FTL.of_cov (cx := cxT TM37) hTM37 mo Try.func37 i37_eq (by simp [i37]) (iw_of_jw ?_)
 dsimp only [i37, TM37]
 by_cases hE : E = 0
 rotate_left
 · have e1 : (E != 0) = true := by simp [bne, hE]
   rw [if_neg hE] at hRR
   simp only [if_neg hE] at hk67
   simp (maxSteps := 400000) only [go_sem, hk67, e1, simprocAttr]
   rw [← hRR]
   exact covA_n
 subst hE
 simp only [if_true] at hk67 hRR
 obtain ⟨hok, hnow, hlq⟩ := hgk rfl
 have hl64 := hg64 rfl
 cases l with
 | nil =>
  simp only [List.length_nil] at hk67 hRR
  cases b1 : inI 1 2000 trip
  · rw [b1] at hRR
    simp (maxSteps := 400000) only [go_sem, hk67, k49, b1, simprocAttr]
    rw [← hRR]
    exact covA_n
  rw [b1] at hRR
  simp only [cond_true] at hRR
  cases b2 : decide (ns.length ≤ 64)
  · rw [b2] at hRR
    simp (maxSteps := 400000) only [go_sem, hk67, k49, b1, n1, b2, simprocAttr]
    rw [← hRR]
    exact covA_n
  rw [b2] at hRR
  simp only [cond_true] at hRR
  generalize (ns.any fun x => !inI 0 65535 x) = b3 at *
  cases b3
  rotate_left
  · simp (maxSteps := 400000) only [go_sem, hk67, k49, b1, n1, b2, hk72, simprocAttr]
    rw [← hRR]
    exact covA_n
  simp only [cond_false] at hRR
  simp (maxSteps := 400000) only [go_sem, hk67, k49, b1, n1, b2, hk72, simprocAttr]
  rw [ansL_nil] at hRR
  refine Loop.countI (F := ⟨Try.prog, cxT TM37, [23, 28, 32, 35, 40, 51, 82], 102, 0⟩) hTM37 mo ns.length (fun k => True)
   (fun k => [(1, .i .i64 now), (2, .i .i64 trip), (8, .p 1 0), (9, .ns), (11, .p 2 0), (37, .fz (rows int1 ns) ns.length), (38, .i .i64 (ns.length : Int)), (39, .i .i64 (k : Int))])
   (fun k => [(2, { cells := [.i .i64 now, .i .i64 ss, .i .i64 ty, .i .i64 nx, .ze] }), (1, { cells := [.i .i64 0, .i .i64 0, .i .i64 0, .i .i64 0, .ns] })]) 3 (by decide) trivial ?_ ?_ (fun k hk hinv => ?_)
  · simp (maxSteps := 400000) only [go_sem, hnB, AV.bel, belL, nblt, simprocAttr]
  · simp (maxSteps := 400000) only [go_sem, hnB, AV.bel, belL, nblt, simprocAttr]
  dsimp only [TM37]
  have b2 := of_decide_eq_true b2
  by_cases hlt : k < ns.length
  · have c1 : decide ((k : Int) < (ns.length : Int)) = true := decide_eq_true (by omega)
    have c2 : decide (0 ≤ (k : Int) ∧ (k : Int) < (ns.length : Int)) = true := decide_eq_true (by omega)
    have hw : IntKind.i64.wrap ((k : Int) + 1) = ((k + 1 : Nat) : Int) := by rw [wrapL (by omega) (by omega)]; omega
    obtain ⟨q, hq⟩ : ∃ q, ns[k]? = some q := ⟨_, List.getElem?_eq_getElem hlt⟩
    have hr : (rows int1 ns)[k * 1]? = some (.i .i64 q) := rows_get (f := int1) (z := 1) (j := 0) (v := .i .i64 q) int1_len hq rfl
    have hr' : (rows int1 ns)[k]? = some (.i .i64 q) := by rw [← hr, Nat.mul_one]
    have hvw : ∀ (h : Hp) {β : Type} (f : List Nat → Nat → List AV → Bool → Option β), vwK h 11 .ze f = f [] 0 [] true := fun h β f => rfl
    have hun : unrows 11 kp11 0 ([] : List AV) = some [] := rfl
    simp (maxSteps := 400000) only [go_sem, c1, c2, hw, hr, hr', k74q, hvw, hun, oneB, int1, ixf, hlt, hnB, AV.bel, belL, nblt, simprocAttr]
  · have c1 : decide ((k : Int) < (ns.length : Int)) = false := decide_eq_false (by omega)
    simp (maxSteps := 400000) only [go_sem, c1, simprocAttr]
    rw [← hRR]
    exact covA_z
 | cons x r =>
  have hu := kp_un (x :: r)
  simp only at hk67
  have hpos : 0 < (x :: r).length := by simp
  generalize x :: r = l at *
  cases b1 : inI 1 2000 trip
  · rw [b1] at hRR
    simp (maxSteps := 400000) only [go_sem, hk67, k49, b1, simprocAttr]
    rw [← hRR]
    exact covA_n
  rw [b1] at hRR
  simp only [cond_true] at hRR
  cases b2 : decide (ns.length ≤ 64)
  · rw [b2] at hRR
    simp (maxSteps := 400000) only [go_sem, hk67, k49, b1, n1, b2, simprocAttr]
    rw [← hRR]
    exact covA_n
  rw [b2] at hRR
  simp only [cond_true] at hRR
  generalize (ns.any fun x => !inI 0 65535 x) = b3 at *
  cases b3
  rotate_left
  · simp (maxSteps := 400000) only [go_sem, hk67, k49, b1, n1, b2, hk72, simprocAttr]
    rw [← hRR]
    exact covA_n
  simp only [cond_false] at hRR
  simp (maxSteps := 400000) only [go_sem, hk67, k49, b1, n1, b2, hk72, simprocAttr]
  have hok0 : AnOK l ⟨l, nx, []⟩ := by
   obtain ⟨g1, g2⟩ := hga rfl
   exact ⟨rfl, g1, inI_t g2⟩
  have b2 := of_decide_eq_true b2
  refine loop37 ss ty nx now trip l ns hnow hl64 b2 hok0 ?_ ?_ (fun e' g8 g11 g9 => ?_)
  · simp (maxSteps := 400000) only [go_sem, gQ_nil, fv_n, hnB, hnR, AV.bel, belL, nblt, AV.ren, renL, simprocAttr]
  · simp (maxSteps := 400000) only [go_sem, hM37, gQ_nil, fh_n, hnB, AV.bel, belL, nblt, Blk.ren, AV.ren, renL, krB, krR, simprocAttr]
  have hkl := (ansL_ok ss ty trip hnow ns hok0).len
  generalize ansL ss ty now trip ⟨l, nx, []⟩ ns = s at *
  obtain ⟨sl, sn, so⟩ := s
  dsimp only [hM37] at hRR hkl g9 ⊢
  simp (maxSteps := 400000) only [go_sem, g8, g11, g9, simprocAttr]
  rw [← hRR]
  exact covA_s hkl.symm (by simp [hget_skip, hget_cons]) (by rw [hasS_hit]; trivial)
def k37 : Ct
 | [.agg c, .i .i64 now, .i .i64 trip, .fz N m], _, n => (hsA c).bind fun h => (unrows 1 intV m N).bind fun ns => some (decide (h.l.length ≤ 1000000000000) && (finH h && decide (m ≤ 1000000000000)), { v := rsA (ansS h now trip ns), n })
 | _, _, _ => none
end Go.Proofs.Res
end
