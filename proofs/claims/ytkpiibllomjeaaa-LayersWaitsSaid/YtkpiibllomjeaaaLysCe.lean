/- Texts laid as one: LysC12 LysC13. -/
import Derived.Test.YtkpiibllomjeaaaLysCd
import Derived.Test.YtkpiibllomjeaaaAbShs
import Derived.Test.YtkpiibllomjeaaaAbFzs
import Derived.Test.YtkpiibllomjeaaaLysMb
section
/- Chapter 41: the reference's Told. -/
namespace Go.Proofs.Lys
open Go.Ab
set_option maxRecDepth 100000
set_option maxHeartbeats 4000000
set_option linter.unusedSimpArgs false
set_option linter.unusedVariables false
def T62 : List (Nat × Ct) := [(82, k82), (83, k83)]
theorem hT62 : Sound Try.prog (cxT T62) := Sound.cons s82 (Sound.cons s83 Sound.nil)
noncomputable abbrev FS62 : Fx := ⟨Try.prog, cxT T62, [32, 93, 102, 107, 131, 143, 155], 184, 0⟩
abbrev i62t : ICode := (.seq (.seq (.reg i62r22) (.cond (.t 155) (.seq (.reg i62r23) (.seq (.reg i62r24) .ret)) .skip)) (.seq (.dreg i62r25) (.seq (.reg i62r26) .ret)))
abbrev i62u : ICode := (.seq (.seq (.reg i62r9) (.cond (.t 93) (.seq (.reg i62r10) .ret) .skip)) (.seq (.reg i62r11) (.seq (.seq (.reg i62r12) (.cond (.t 102) (.seq (.reg i62r13) (.seq (.seq (.reg i62r14) (.cond (.t 107) (.reg i62r15) (.reg i62r16))) (.seq (.seq (.reg i62r17) (.cond (.t 131) (.reg i62r18) .skip)) (.seq (.reg i62r19) (.seq (.reg i62r20) (.cond (.t 143) (.reg i62r21) .skip)))))) .skip)) i62t)))
abbrev h62 (s : Sw) (p : Md) (x : Sh) : Hp := [(3, { cells := [.ns, .i .i64 0, .i .i64 0, .i .i64 0, .i .i64 0, .i .i64 0, .i .i64 0, .i .i64 0, .i .i64 0, .b false, .i .i64 0, .i .i64 0, .i .i64 0, .i .i64 0, .i .i64 0, .i .i64 0, .i .i64 0, .i .i64 0] }), (2, { cells := x.l }), (1, { cells := p.l }), (0, { cells := s.a })]
def trV (r : Sw × Bool) : AV := .tup [.agg r.1.a, .b r.2]
theorem trV_bel (r : Sw × Bool) : (trV r).bel 0 = true := by simp only [trV, AV.bel, belL, Sw.bel, Bool.and_self]
def smN (x : Int) : Bool := inI 0 4294967295 x
theorem sml_of {x : Int} (h : smN x = true) : smlB x = true := by simp only [smN, smlB, inI, Bool.and_eq_true, decide_eq_true_eq] at h ⊢; omega
theorem tail62 (s : Sw) (p : Md) (x : Sh) (h1 : smN p.sq = true) (h2 : smN p.tm = true) (h3 : smN x.id = true) (h4 : smN x.ba = true) (h5 : smN s.sq = true) (h6 : smN s.tm = true) (h7 : smN s.id = true) (h8 : smN s.ba = true) (R : Sw × Bool) (hR : R = bif dropB s x then (dropS s x, false) else (sendS s p x, true)) (e : Env)
 (he4 : eget e 4 = some (.p 0 0)) (he6 : eget e 6 = some (.p 1 0)) (he7 : eget e 7 = some (.p 2 0)) (he8 : eget e 8 = some (.p 3 0)) :
 Seam FS62 i62t (retK [.c 8 true 18, .t 9] fun v h' n' => CovS 0 v h' n' (trV R) [] 0) e (h62 s p x) 4 := by
 replace h1 := sml_of h1
 replace h2 := sml_of h2
 replace h3 := sml_of h3
 replace h4 := sml_of h4
 replace h5 := sml_of h5
 replace h6 := sml_of h6
 replace h7 := sml_of h7
 replace h8 := sml_of h8
 have m1 : smlB (-1) = true := rfl
 have g1 : inI 1 1000000000000 65536 = true := rfl
 have g2 : inI 1 1000000000000 4294967296 = true := rfl
 have g3 : inI 1 1000000000000 32768 = true := rfl
 have g4 : inI 1 1000000000000 256 = true := rfl
 obtain ⟨l, ou, st, nw, wa, ca, ai, tp, fr, kp, sq, tm, id, ba, ss, sT, si, sb⟩ := s
 obtain ⟨ma, pty, psq, ptm, pss, cs, xs, pd, pl⟩ := p
 obtain ⟨xst, xky, xsy, xla, xid, xba, xte, xsp⟩ := x
 simp only [dropB, dropS, sendS] at hR
 dsimp only at h1 h2 h3 h4 h5 h6 h7 h8
 have hB1 := ib 0 l
 refine Seam.run hT62 mo ?_
 dsimp only [FS62, h62, Sw.a, Md.l, Go.Proofs.Lys.Sh.l, T62]
 cases kp
 · simp (maxSteps := 400000) only [go_sem, he4, he6, he7, he8, k82, h5, m1, g1, Bool.and_true, Int.sub_eq_add_neg, simprocAttr]
   rw [hR]
   exact CovS.ends (Ends.pureE (by simp only [AV.bel, belL, ib, Bool.and_self]) rfl)
 cases a1 : (xsp == 0)
 · have b1 : (xsp != 0) = true := by simp only [bne, a1, Bool.not_false]
   simp (maxSteps := 400000) only [go_sem, he4, he6, he7, he8, b1, k82, h5, m1, g1, Bool.and_true, Int.sub_eq_add_neg, simprocAttr]
   rw [hR, a1]
   exact CovS.ends (Ends.pureE (by simp only [AV.bel, belL, ib, Bool.and_self]) rfl)
 · have b1 : (xsp != 0) = false := by simp only [bne, a1, Bool.not_true]
   simp (maxSteps := 400000) only [go_sem, he4, he6, he7, he8, b1, k82, h1, h2, h3, h4, h5, h6, h7, h8, g1, g2, g3, g4, Bool.and_true, simprocAttr]
   rw [hR, a1]
   exact CovS.ends (Ends.pureE (by simp only [AV.bel, belL, ib, Bool.and_self]) rfl)
theorem capS_rng {s : Sw} {x : Sh} (h1 : inI 0 3 s.ca = true) (h2 : inI 0 3 s.ai = true) : IntKind.i64.wrap (capS s x + 1) = capS s x + 1 ∧ 0 ≤ capS s x ∧ capS s x ≤ 3 := by
 have h1 := inI_t h1
 have h2 := inI_t h2
 have : 0 ≤ capS s x ∧ capS s x ≤ 3 := by
  unfold capS
  cases x.ky
  · simp only [cond_false]; omega
  · simp only [cond_true]; omega
 exact ⟨wrapL (by omega) (by omega), this⟩
theorem mid62 (s : Sw) (k : Int) (p : Md) (x : Sh) (h1 : inI 0 65535 p.sq = true) (h2 : smN p.tm = true) (h3 : smN x.id = true) (h4 : smN x.ba = true) (h5 : smN s.sq = true) (h6 : smN s.tm = true) (h7 : smN s.id = true) (h8 : smN s.ba = true) (h9 : inI 0 65535 s.tp = true)
 (R : Sw × Bool) (hR : R = bif advB s k p then (bif dropB (frameS (advS s k p) x) x then (dropS (frameS (advS s k p) x) x, false) else (sendS (frameS (advS s k p) x) p x, true)) else (s, false)) (e : Env)
 (he1 : eget e 1 = some (.i .i64 k)) (he4 : eget e 4 = some (.p 0 0)) (he6 : eget e 6 = some (.p 1 0)) (he7 : eget e 7 = some (.p 2 0)) (he8 : eget e 8 = some (.p 3 0)) :
 Seam FS62 i62u (retK [.c 8 true 18, .t 9] fun v h' n' => CovS 0 v h' n' (trV R) [] 0) e (h62 s p x) 4 := by
 have h1' : smN p.sq = true := by simp only [smN, inI, Bool.and_eq_true, decide_eq_true_eq] at h1 ⊢; omega
 have hT := fun (S : Sw) hq ht hi hb (hR' : R = bif dropB S x then (dropS S x, false) else (sendS S p x, true)) => tail62 S p x h1' h2 h3 h4 hq ht hi hb R hR'
 have hH : ∀ S x, h62 S p x = [(3, { cells := [.ns, .i .i64 0, .i .i64 0, .i .i64 0, .i .i64 0, .i .i64 0, .i .i64 0, .i .i64 0, .i .i64 0, .b false, .i .i64 0, .i .i64 0, .i .i64 0, .i .i64 0, .i .i64 0, .i .i64 0, .i .i64 0, .i .i64 0] }), (2, { cells := x.l }), (1, { cells := p.l }), (0, { cells := S.a })] := fun _ _ => rfl
 have h7' := sml_of h7
 have m1 : smlB (-1) = true := rfl
 have g3 : inI 1 1000000000000 32768 = true := rfl
 have hid : smN ((s.id + -1) % 32768) = true := by simp only [smN, inI, Bool.and_eq_true, decide_eq_true_eq]; omega
 simp only [advS, advB] at hR
 refine Seam.part hT62 mo ?_
 cases a1 : (k == s.nw)
 · obtain ⟨l, ou, st, nw, wa, ca, ai, tp, fr, kp, sq, tm, id, ba, ss, sT, si, sb⟩ := s
   have b1 : (k != nw) = true := by simp only [bne, a1, Bool.not_false]
   dsimp only [FS62, h62, Sw.a, T62]
   simp (maxSteps := 400000) only [go_sem, he1, he4, he6, he7, he8, b1, simprocAttr]
   rw [hR, a1]
   exact CovS.ends (Ends.pureE (by simp only [AV.bel, belL, ib, Bool.and_self]) rfl)
 have b1 : (k != s.nw) = false := by simp only [bne, a1, Bool.not_true]
 cases a2 : decide (lead p.sq s.tp > 0)
 · have b2 : decide (lead p.sq s.tp ≤ 0) = true := decide_eq_true (by have := of_decide_eq_false a2; omega)
   obtain ⟨l, ou, st, nw, wa, ca, ai, tp, fr, kp, sq, tm, id, ba, ss, sT, si, sb⟩ := s
   obtain ⟨ma, pty, psq, ptm, pss, cs, xs, pd, pl⟩ := p
   dsimp only [FS62, h62, Sw.a, Md.l, T62] at *
   simp (maxSteps := 400000) only [go_sem, he1, he4, he6, he7, he8, b1, b2, k83, h1, h9, Bool.and_true, simprocAttr]
   rw [hR, a1, a2]
   exact CovS.ends (Ends.pureE (by simp only [AV.bel, belL, ib, Bool.and_self]) rfl)
 have b2 : decide (lead p.sq s.tp ≤ 0) = false := decide_eq_false (by have := of_decide_eq_true a2; omega)
 rw [a1, a2] at hR
 simp only [Bool.and_self, cond_true] at hR
 obtain ⟨l, ou, st, nw, wa, ca, ai, tp, fr, kp, sq, tm, id, ba, ss, sT, si, sb⟩ := s
 obtain ⟨ma, pty, psq, ptm, pss, cs, xs, pd, pl⟩ := p
 dsimp only at *
 dsimp only [FS62, h62, Sw.a, Md.l, T62]
 simp (maxSteps := 400000) only [go_sem, he1, he4, he6, he7, he8, b1, b2, k83, h1, h9, Bool.and_true, simprocAttr]
 refine Seam.part hT62 mo ?_
 try dsimp only [T62]
 simp (maxSteps := 400000) only [go_sem, he1, he4, he6, he7, he8, simprocAttr]
 refine Seam.part hT62 mo ?_
 try dsimp only [T62]
 have hC : capT ⟨l, ou, st, nw, wa, ca, ai, psq, fr, kp, sq, tm, id, ba, ss, sT, si, sb⟩ x = bif x.sy && (x.te == IntKind.i64.wrap (capS ⟨l, ou, st, nw, wa, ca, ai, psq, fr, kp, sq, tm, id, ba, ss, sT, si, sb⟩ x + 1) && decide (x.te ≤ ai)) then IntKind.i64.wrap (capS ⟨l, ou, st, nw, wa, ca, ai, psq, fr, kp, sq, tm, id, ba, ss, sT, si, sb⟩ x + 1) else capS ⟨l, ou, st, nw, wa, ca, ai, psq, fr, kp, sq, tm, id, ba, ss, sT, si, sb⟩ x := rfl
 have hD : capS ⟨l, ou, st, nw, wa, ca, ai, psq, fr, kp, sq, tm, id, ba, ss, sT, si, sb⟩ x = bif x.ky then 0 else min ca ai := rfl
 simp only [frameS] at hR
 generalize capT ⟨l, ou, st, nw, wa, ca, ai, psq, fr, kp, sq, tm, id, ba, ss, sT, si, sb⟩ x = CT at *
 generalize capS ⟨l, ou, st, nw, wa, ca, ai, psq, fr, kp, sq, tm, id, ba, ss, sT, si, sb⟩ x = CS at *
 have hmin : min ca ai = if ai < ca then ai else ca := by omega
 rw [hmin] at hD
 have hw : IntKind.i64.wrap (0 + 1) = 1 := rfl
 obtain ⟨xst, xky, xsy, xla, xid, xba, xte, xsp⟩ := x
 dsimp only [Go.Proofs.Lys.Sh.l] at *
 cases c1 : (xid == fr)
 rotate_left
 · have d1 : (xid != fr) = false := by simp only [bne, c1, Bool.not_true]
   simp (maxSteps := 400000) only [go_sem, he1, he4, he6, he7, he8, d1, simprocAttr]
   rw [c1] at hR
   exact hT ⟨l, ou, st, nw, wa, ca, ai, psq, fr, kp, sq, tm, id, ba, ss, sT, si, sb⟩ h5 h6 h7 h8 hR _ he4 he6 he7 he8
 have d1 : (xid != fr) = true := by simp only [bne, c1, Bool.not_false]
 rw [c1] at hR
 cases xky
 all_goals (
  cases xsy
  · have hC' : CT = CS := hC
    cases a4 : decide (xte ≤ CT)
    all_goals (
     rw [a4] at hR
     rw [hC', hD] at a4; dsimp only [cond_true, cond_false] at a4; (try simp only [hw] at a4)
     simp (maxSteps := 400000) only [go_sem, he1, he4, he6, he7, he8, d1, k82, h7', m1, g3, minI, hmin, a4, cond_true, cond_false, Bool.and_true, simprocAttr]
     rw [hC', hD] at hR
     first
      | exact hT ⟨l, ou, st, nw, wa, _, ai, psq, xid, false, sq, tm, (id + -1) % 32768, ba, ss, sT, si, sb⟩ h5 h6 hid h8 hR _ he4 he6 he7 he8
      | exact hT ⟨l, ou, st, nw, wa, _, ai, psq, xid, true, sq, tm, id, ba, ss, sT, si, sb⟩ h5 h6 h7 h8 hR _ he4 he6 he7 he8)
  cases a2 : (xte == IntKind.i64.wrap (CS + 1))
  · rw [a2] at hC
    have hC' : CT = CS := hC
    rw [hD] at a2; dsimp only [cond_true, cond_false] at a2; (try rw [hw] at a2)
    cases a4 : decide (xte ≤ CT)
    all_goals (
     rw [a4] at hR
     rw [hC', hD] at a4; dsimp only [cond_true, cond_false] at a4; (try simp only [hw] at a4)
     simp (maxSteps := 400000) only [go_sem, he1, he4, he6, he7, he8, d1, a2, k82, h7', m1, g3, minI, hmin, a4, cond_true, cond_false, Bool.and_true, simprocAttr]
     rw [hC', hD] at hR
     first
      | exact hT ⟨l, ou, st, nw, wa, _, ai, psq, xid, false, sq, tm, (id + -1) % 32768, ba, ss, sT, si, sb⟩ h5 h6 hid h8 hR _ he4 he6 he7 he8
      | exact hT ⟨l, ou, st, nw, wa, _, ai, psq, xid, true, sq, tm, id, ba, ss, sT, si, sb⟩ h5 h6 h7 h8 hR _ he4 he6 he7 he8)
  cases a3 : decide (xte ≤ ai)
  · rw [a2, a3] at hC
    have hC' : CT = CS := hC
    rw [hD] at a2; dsimp only [cond_true, cond_false] at a2; (try rw [hw] at a2)
    cases a4 : decide (xte ≤ CT)
    all_goals (
     rw [a4] at hR
     rw [hC', hD] at a4; dsimp only [cond_true, cond_false] at a4; (try simp only [hw] at a4)
     simp (maxSteps := 400000) only [go_sem, he1, he4, he6, he7, he8, d1, a2, a3, k82, h7', m1, g3, minI, hmin, a4, cond_true, cond_false, Bool.and_true, simprocAttr]
     rw [hC', hD] at hR
     first
      | exact hT ⟨l, ou, st, nw, wa, _, ai, psq, xid, false, sq, tm, (id + -1) % 32768, ba, ss, sT, si, sb⟩ h5 h6 hid h8 hR _ he4 he6 he7 he8
      | exact hT ⟨l, ou, st, nw, wa, _, ai, psq, xid, true, sq, tm, id, ba, ss, sT, si, sb⟩ h5 h6 h7 h8 hR _ he4 he6 he7 he8)
  rw [a2, a3] at hC
  have hC' : CT = IntKind.i64.wrap (CS + 1) := hC
  have hxt : CT = xte := by rw [hC']; exact (eq_of_beq a2).symm
  have a4 : decide (xte ≤ xte) = true := decide_eq_true (Int.le_refl _)
  rw [hD] at a2; dsimp only [cond_true, cond_false] at a2; (try rw [hw] at a2)
  rw [hxt, a4] at hR
  simp (maxSteps := 400000) only [go_sem, he1, he4, he6, he7, he8, d1, a2, a3, k82, h7', m1, g3, minI, hmin, a4, cond_true, cond_false, Bool.and_true, simprocAttr]
  exact hT ⟨l, ou, st, nw, wa, xte, ai, psq, xid, true, sq, tm, id, ba, ss, sT, si, sb⟩ h5 h6 h7 h8 hR _ he4 he6 he7 he8)
def trS (s : Sw) (k : Int) (p : Md) (x : Sh) : Sw × Bool :=
 bif advB (takeS s k p x) k p then (bif dropB (frameS (advS (takeS s k p x) k p) x) x then (dropS (frameS (advS (takeS s k p x) k p) x) x, false) else (sendS (frameS (advS (takeS s k p x) k p) x) p x, true)) else (takeS s k p x, false)
def tr62 (s : Sw) (p : Md) (x : Sh) : Bool := goodW s && (inI 0 65535 p.sq && (smN p.tm && (smN x.id && smN x.ba)))
theorem w62 (s : Sw) (k : Int) (p : Md) (x : Sh) (hc : tr62 s p x = true) : FTL Try.prog 62 [.agg s.a, .i .i64 k, .agg p.l, .agg x.l] [] 0 (trV (trS s k p x)) [] 0 := by
 simp only [tr62, Bool.and_eq_true] at hc
 obtain ⟨hg, h1, h2, h3, h4⟩ := hc
 have h1' : smN p.sq = true := by simp only [smN, inI, Bool.and_eq_true, decide_eq_true_eq] at h1 ⊢; omega
 have hnum : inI 1 90000 s.st = true ∧ numB s.sq s.tm s.id s.ba = true ∧ numB s.ss s.sT s.si s.sb = true ∧ numB s.tp 0 s.fr 0 = true := by
  simp only [goodW, Bool.and_eq_true] at hg
  exact ⟨hg.1.2.2.2.1, hg.2.1.2.2.1, hg.2.1.2.2.2.1, hg.2.1.2.2.2.2⟩
 obtain ⟨n0, n1, n2, n3⟩ := hnum
 simp only [numB, Bool.and_eq_true] at n1 n2 n3
 obtain ⟨q1, q2, q3, q4⟩ := n1
 obtain ⟨r1, r2, r3, r4⟩ := n2
 have r1 := inI_t r1
 have r2 := inI_t r2
 have r3 := inI_t r3
 have r4 := inI_t r4
 have n0 := inI_t n0
 have sm : ∀ {x lo hi : Int}, inI lo hi x = true → 0 ≤ lo → hi ≤ 4294967295 → smN x = true := fun h a b => by
  have := inI_t h
  simp only [smN, inI, Bool.and_eq_true, decide_eq_true_eq]; omega
 have md : ∀ (a : Int) {m : Int}, 0 < m → m ≤ 4294967296 → smN (a % m) = true := fun a m h1 h2 => by
  have e1 := Int.emod_nonneg a (b := m) (by omega)
  have e2 := Int.emod_lt_of_pos a (b := m) h1
  simp only [smN, inI, Bool.and_eq_true, decide_eq_true_eq]; omega
 generalize hR : trS s k p x = R
 have hM := fun S k q t i b u hR' => mid62 S k p x h1 h2 h3 h4 q t i b u R hR'
 unfold trS at hR
 refine FTL.of_seamC (cx := cxT T62) Try.func62 i62_eq (by simp [i62]) ?_
 dsimp only [i62]
 refine Seam.part hT62 mo ?_
 cases a0 : takeB s k x
 · have hS : takeS s k p x = s := by simp only [takeS, a0, cond_false]
   rw [hS] at hR
   have hM := hM s k (sm q1 (by omega) (by omega)) (sm q2 (by omega) (by omega)) (sm q3 (by omega) (by omega)) (sm q4 (by omega) (by omega)) n3.1 hR.symm
   obtain ⟨l, ou, st, nw, wa, ca, ai, tp, fr, kp, sq, tm, id, ba, ss, sT, si, sb⟩ := s
   obtain ⟨ma, pty, psq, ptm, pss, cs, xs, pd, pl⟩ := p
   obtain ⟨xst, xky, xsy, xla, xid, xba, xte, xsp⟩ := x
   simp only [takeB] at a0
   dsimp only [Sw.a, Md.l, Go.Proofs.Lys.Sh.l] at *
   simp (maxSteps := 400000) only [go_sem, simprocAttr]
   refine Seam.part hT62 mo ?_
   try dsimp only [T62]
   cases a1 : (k == wa)
   · simp (maxSteps := 400000) only [go_sem, a1, simprocAttr]
     exact hM _ rfl rfl rfl rfl rfl
   cases a2 : (k == nw)
   rotate_left
   · have b2 : (k != nw) = false := by simp only [bne, a2, Bool.not_true]
     simp (maxSteps := 400000) only [go_sem, a1, b2, simprocAttr]
     exact hM _ rfl rfl rfl rfl rfl
   have b2 : (k != nw) = true := by simp only [bne, a2, Bool.not_false]
   cases xst
   · simp (maxSteps := 400000) only [go_sem, a1, b2, simprocAttr]
     exact hM _ rfl rfl rfl rfl rfl
   cases xky
   · simp (maxSteps := 400000) only [go_sem, a1, b2, simprocAttr]
     exact hM _ rfl rfl rfl rfl rfl
   rw [a1, a2] at a0
   have a3 : (xsp == 0) = false := a0
   simp (maxSteps := 400000) only [go_sem, a1, b2, a3, simprocAttr]
   exact hM _ rfl rfl rfl rfl rfl
 · have hS : takeS s k p x = ⟨s.l, s.ou, s.st, k, s.wa, 0, s.ai, (p.sq - 1) % 65536, x.id, true, (IntKind.i64.wrap (s.ss + 1) - p.sq) % 65536, (IntKind.i64.wrap (s.sT + s.st) - p.tm) % 4294967296, (IntKind.i64.wrap (s.si + 1) + IntKind.i64.wrap (0 - x.id)) % 32768, (IntKind.i64.wrap (s.sb + 1) - x.ba) % 256, s.ss, s.sT, s.si, s.sb⟩ := by simp only [takeS, a0, cond_true]
   rw [hS] at hR
   have htp : inI 0 65535 ((p.sq - 1) % 65536) = true := by simp only [inI, Bool.and_eq_true, decide_eq_true_eq]; omega
   have hM := hM _ k (md _ (by omega) (by omega)) (md _ (by omega) (by omega)) (md _ (by omega) (by omega)) (md _ (by omega) (by omega)) htp hR.symm
   have i1 := inI_t h1
   have i2 := inI_t h2
   have i3 := inI_t h3
   have i4 := inI_t h4
   have w1 : IntKind.i64.wrap (s.ss + 1) = s.ss + 1 := wrapL (by omega) (by omega)
   have w2 : IntKind.i64.wrap (s.sT + s.st) = s.sT + s.st := wrapL (by omega) (by omega)
   have w3 : IntKind.i64.wrap (s.si + 1) = s.si + 1 := wrapL (by omega) (by omega)
   have w4 : IntKind.i64.wrap (s.sb + 1) = s.sb + 1 := wrapL (by omega) (by omega)
   have v1 : IntKind.i64.wrap (0 - p.sq) = 0 - p.sq := wrapL (by omega) (by omega)
   have v2 : IntKind.i64.wrap (0 - p.tm) = 0 - p.tm := wrapL (by omega) (by omega)
   have v3 : IntKind.i64.wrap (0 - x.id) = 0 - x.id := wrapL (by omega) (by omega)
   have v4 : IntKind.i64.wrap (0 - x.ba) = 0 - x.ba := wrapL (by omega) (by omega)
   have v1' : IntKind.i64.wrap (-p.sq) = -p.sq := wrapL (by omega) (by omega)
   have v2' : IntKind.i64.wrap (-p.tm) = -p.tm := wrapL (by omega) (by omega)
   have v3' : IntKind.i64.wrap (-x.id) = -x.id := wrapL (by omega) (by omega)
   have v4' : IntKind.i64.wrap (-x.ba) = -x.ba := wrapL (by omega) (by omega)
   have s1 : smlB (s.ss + 1) = true := by simp only [smlB, inI, Bool.and_eq_true, decide_eq_true_eq]; omega
   have s2 : smlB (s.sT + s.st) = true := by simp only [smlB, inI, Bool.and_eq_true, decide_eq_true_eq]; omega
   have s3 : smlB (s.si + 1) = true := by simp only [smlB, inI, Bool.and_eq_true, decide_eq_true_eq]; omega
   have s4 : smlB (s.sb + 1) = true := by simp only [smlB, inI, Bool.and_eq_true, decide_eq_true_eq]; omega
   have t1 : smlB (-p.sq) = true := by simp only [smlB, inI, Bool.and_eq_true, decide_eq_true_eq]; omega
   have t2 : smlB (-p.tm) = true := by simp only [smlB, inI, Bool.and_eq_true, decide_eq_true_eq]; omega
   have t3 : smlB (-x.id) = true := by simp only [smlB, inI, Bool.and_eq_true, decide_eq_true_eq]; omega
   have t4 : smlB (-x.ba) = true := by simp only [smlB, inI, Bool.and_eq_true, decide_eq_true_eq]; omega
   have t5 : smlB p.sq = true := by simp only [smlB, inI, Bool.and_eq_true, decide_eq_true_eq]; omega
   have m1 : smlB (-1) = true := rfl
   have g1 : inI 1 1000000000000 65536 = true := rfl
   have g2 : inI 1 1000000000000 4294967296 = true := rfl
   have g3 : inI 1 1000000000000 32768 = true := rfl
   have g4 : inI 1 1000000000000 256 = true := rfl
   have z1 : ∀ a : Int, 0 - a = -a := fun a => by omega
   simp only [w1, w2, w3, w4, v3, v3', z1, Int.sub_eq_add_neg] at hM
   obtain ⟨l, ou, st, nw, wa, ca, ai, tp, fr, kp, sq, tm, id, ba, ss, sT, si, sb⟩ := s
   obtain ⟨ma, pty, psq, ptm, pss, cs, xs, pd, pl⟩ := p
   obtain ⟨xst, xky, xsy, xla, xid, xba, xte, xsp⟩ := x
   simp only [takeB, Bool.and_eq_true] at a0
   obtain ⟨a1, a2, rfl, rfl, a3⟩ := a0
   have b2 : (k != nw) = true := by simpa only [bne] using a2
   dsimp only [Sw.a, Md.l, Go.Proofs.Lys.Sh.l] at *
   simp (maxSteps := 400000) only [go_sem, simprocAttr]
   refine Seam.part hT62 mo ?_
   try dsimp only [T62]
   simp (maxSteps := 400000) only [go_sem, a1, b2, a3, k82, w1, w2, w3, w4, v1', v2', v3', v4', s1, s2, s3, s4, t1, t2, t3, t4, t5, m1, g1, g2, g3, g4, z1, Bool.and_true, simprocAttr]
   exact hM _ rfl rfl rfl rfl rfl
def k62 : Ct
 | [.agg c, .i .i64 k, .agg d, .agg g], _, n => (swA c).bind fun s => (md9 d).bind fun p => (sh8 g).bind fun x => some (tr62 s p x, { v := trV (trS s k p x), n })
 | _, _, _ => none
theorem s62 : SoundAt Try.prog 62 k62 := fun args h n c E hc ht => by
 unfold k62 at hc
 split at hc
 · simp only [Option.bind_eq_some_iff, Option.some.injEq, Prod.mk.injEq] at hc
   obtain ⟨s, hs, p, hp, x, hx, rfl, rfl⟩ := hc
   rw [swA_eq hs, md9_eq hp, sh8_eq hx]
   exact CallOK.pure (by kernel_rfl) (by simp only [belL, AV.bel, Sw.bel, p.bel, Go.Proofs.Lys.Sh.l, Bool.and_self]) (trV_bel _) (w62 _ _ _ _ ht) _ _
 · cases hc
end Go.Proofs.Lys
end
section
/- Chapter 41: the reference's Push. -/
namespace Go.Proofs.Lys
open Go.Ab
set_option maxRecDepth 100000
set_option maxHeartbeats 4000000
set_option linter.unusedSimpArgs false
set_option linter.unusedVariables false
def lix (l : List Int) (x : Int) : Nat → Int
 | 0 => -1
 | k + 1 => bif l.getD k 0 == x then (k : Int) else lix l x k
theorem lix_eq {l : List Int} {x : Int} (h : apS l = true) (hl : l.length ≤ 3) : lix l x l.length = ixS l x := by
 rcases len3 hl with rfl | ⟨a, rfl⟩ | ⟨a, b, rfl⟩ | ⟨a, b, c, rfl⟩
 · rfl
 · simp only [List.length_cons, List.length_nil, lix, ixS, ixf, List.getD_cons_zero, Bool.cond_eq_ite, beq_iff_eq]
   grind
 · simp [apS, allN, List.getD] at h
   simp only [List.length_cons, List.length_nil, lix, ixS, ixf, List.getD_cons_zero, List.getD_cons_succ, Bool.cond_eq_ite, beq_iff_eq]
   grind
 · simp [apS, allN, List.getD] at h
   simp only [List.length_cons, List.length_nil, lix, ixS, ixf, List.getD_cons_zero, List.getD_cons_succ, Bool.cond_eq_ite, beq_iff_eq]
   grind
def outP (S : Sw) (p : Md) : Md := { p with ss := S.ou, sq := S.ss, tm := S.sT, pl := (putS p.pl S.si S.sb).1 }
theorem toldL_tr (s : Sw) (k : Int) (p : Md) (x : Sh) : toldL s k p x = ((trS s k p x).1, bif (trS s k p x).2 then [outP (trS s k p x).1 p] else []) := by
 unfold toldL trS
 cases advB (takeS s k p x) k p
 · rfl
 · cases dropB (frameS (advS (takeS s k p x) k p) x) x <;> rfl
theorem covP23 {S : Sw} {ma : Bool} {pty sq tm ss pd : Int} {pl : List UInt8} {cs : List Int} {xs : List (Int × List UInt8)} {C X : AV} {h : Hp} {n : Nat} (bc bx B : Nat) (kc kx : Blk) (hC : (∃ cap, C = .sl bc 0 cs.length cap ∧ cs.length ≤ cap) ∨ C = .sg bc 0 cs.length) (hX : (∃ cap, X = .sl bx 0 xs.length cap ∧ xs.length ≤ cap) ∨ X = .sg bx 0 xs.length)
 (hkc : hget h bc = some kc) (hkx : hget h bx = some kx) (hrc : kc.ro = false) (hrx : kx.ro = false) (hcc : kc.cells = rows int1 cs) (hcx : kx.cells = rows xtR xs)
 (hB : hget h B = some { cells := [.b ma, .i .i64 pty, .i .i64 sq, .i .i64 tm, .i .i64 ss, C, X, .i .i64 pd, .s pl] }) (n1 : B ≠ bc) (n2 : B ≠ bx) (n3 : bx ≠ bc) :
 CovS 0 (.tup [.agg S.a, .sl B 0 1 1, .i .i64 0]) h n (pushV (S, [⟨ma, pty, sq, tm, ss, cs, xs, pd, pl⟩], 0)) [] 0 := by
 refine CovS.frzH (b := bc) (x := C) (k := kc) (o := 0) (m := cs.length) (cs := rows int1 cs) (v' := .tup [.agg S.a, .sl B 0 1 1, .i .i64 0]) (h' := [(B, { cells := [.b ma, .i .i64 pty, .i .i64 sq, .i .i64 tm, .i .i64 ss, .fz (rows int1 cs) cs.length, X, .i .i64 pd, .s pl] }), (bx, kx)]) hkc hrc hC (.inl (by rw [hcc]; rfl)) FzV.refl ?_ ?_
 · exact ⟨⟨n1, _, hB, rfl, rfl, rfl, FzV.refl, FzV.refl, FzV.refl, FzV.refl, FzV.refl, FzV.hit, FzV.refl, FzV.refl, FzV.refl, trivial⟩, ⟨n3, _, hkx, rfl, rfl, rfl, FzVs.refl⟩, trivial⟩
 have hbx : hget [(B, ({ cells := [.b ma, .i .i64 pty, .i .i64 sq, .i .i64 tm, .i .i64 ss, .fz (rows int1 cs) cs.length, X, .i .i64 pd, .s pl] } : Blk)), (bx, kx)] bx = some kx := by
  simp [hget, beq_ne n2, beq_ne (Ne.symm n2)]
 refine CovS.frzH (b := bx) (x := X) (k := kx) (o := 0) (m := xs.length) (cs := rows xtR xs) (v' := .tup [.agg S.a, .sl B 0 1 1, .i .i64 0]) (h' := [(B, { cells := [.b ma, .i .i64 pty, .i .i64 sq, .i .i64 tm, .i .i64 ss, .fz (rows int1 cs) cs.length, .fz (rows xtR xs) xs.length, .i .i64 pd, .s pl] })]) hbx hrx hX (.inl (by rw [hcx]; rfl)) FzV.refl ?_ ?_
 · have hBB : hget [(B, ({ cells := [.b ma, .i .i64 pty, .i .i64 sq, .i .i64 tm, .i .i64 ss, .fz (rows int1 cs) cs.length, X, .i .i64 pd, .s pl] } : Blk)), (bx, kx)] B = some { cells := [.b ma, .i .i64 pty, .i .i64 sq, .i .i64 tm, .i .i64 ss, .fz (rows int1 cs) cs.length, X, .i .i64 pd, .s pl] } := by simp [hget]
   exact ⟨⟨n2, _, hBB, rfl, rfl, rfl, FzV.refl, FzV.refl, FzV.refl, FzV.refl, FzV.refl, FzV.refl, FzV.hit, FzV.refl, FzV.refl, trivial⟩, trivial⟩
 refine CovS.frz (b := B) (k := { cells := [.b ma, .i .i64 pty, .i .i64 sq, .i .i64 tm, .i .i64 ss, .fz (rows int1 cs) cs.length, .fz (rows xtR xs) xs.length, .i .i64 pd, .s pl] }) (h' := []) (o := 0) (m := 1) (cs := [.b ma, .i .i64 pty, .i .i64 sq, .i .i64 tm, .i .i64 ss, .fz (rows int1 cs) cs.length, .fz (rows xtR xs) xs.length, .i .i64 pd, .s pl]) (v' := pushV (S, [⟨ma, pty, sq, tm, ss, cs, xs, pd, pl⟩], 0)) (by simp [hget]) rfl (.inl ⟨1, rfl, Nat.le_refl _⟩) (.inl rfl) (FzV.tup ⟨FzV.refl, FzV.hit, FzV.refl, trivial⟩) (fun c kk hc => by simp [hget] at hc) ?_
 exact CovS.ends (Ends.pureE (pushV_bel _) rfl)
def T23 : List (Nat × Ct) := [(48, k48), (55, k55), (60, k60), (61, k46), (62, k62), (63, k100)]
theorem hT23 : Sound Try.prog (cxT T23) := Sound.cons s48 (Sound.cons s55 (Sound.cons s60 (Sound.cons s61 (Sound.cons s62 (Sound.cons s63 Sound.nil)))))
theorem w23 (s : Sw) (p : Md) (hc : pushC s p = true) : FTL Try.prog 23 [.agg s.a, .agg p.l] [] 0 (pushV (pushS s p)) [] 0 := by
 simp only [pushC, Bool.and_eq_true, decide_eq_true_eq] at hc
 obtain ⟨c1, c2, c3⟩ := hc
 have hR : pushS s p = bif goodW s then bif mdB p then bif decide (ixS s.l p.ss < 0) then (zSw, [], 4)
  else bif (dec p.pl).2.2 == 0 then ((toldL s (ixS s.l p.ss) p (dec p.pl).1).1, (toldL s (ixS s.l p.ss) p (dec p.pl).1).2, 0) else (zSw, [], (dec p.pl).2.2)
  else (zSw, [], 230) else (zSw, [], 410) := rfl
 have hsk : ∀ (h : Hp) (k : Sw → List Nat → Bool → Option (Bool × Eff)), swK h s.a k = k s [] true := fun h k => swK_a
 have hsw := swA_a s
 have hmd := md9_l p
 have hlx : goodW s = true → lix s.l p.ss s.l.length = ixS s.l p.ss := fun h => lix_eq (by simp only [goodW, Bool.and_eq_true] at h; exact h.1.2.1) (good_len h).2
 have hgr : goodW s = true → decide (8 * s.l.length ≤ growMax) = true := fun h => decide_eq_true (by have := good_len h; simp only [growMax]; omega)
 have hlen : goodW s = true → s.l.length ≤ 3 := fun h => (good_len h).2
 have htr : goodW s = true → mdB p = true → (dec p.pl).2.2 = 0 → tr62 s p (dec p.pl).1 = true := fun h1 h2 h3 => by
  have hx := (Go.Proofs.Lys.Sh.good_iff _).1 (dec_ok h3).1
  simp only [mdB, mdPre, inZ, inI, Bool.and_eq_true, decide_eq_true_eq] at h2
  simp only [tr62, h1, smN, inI, Bool.and_eq_true, decide_eq_true_eq]
  refine ⟨trivial, ?_, ?_, ?_, ?_⟩ <;> omega
 have hcs : mdB p = true → p.cs.length ≤ 15 ∧ p.xs.length ≤ 16 := fun h => ⟨(md_cs h).1, (md_cs h).2.1⟩
 have hpl : decide (p.pl.length ≤ 1000000000) = true := decide_eq_true c3
 have hQ : ∀ k x, toldL s k p x = ((trS s k p x).1, bif (trS s k p x).2 then [outP (trS s k p x).1 p] else []) := fun k x => toldL_tr s k p x
 generalize pushS s p = R at *
 refine FTL.of_cov hT23 mo Try.func23 i23_eq (by simp [i23]) (iw_of_jw ?_)
 dsimp only [i23, T23]
 generalize htS : trS s = TS at *
 generalize htL : toldL s = TL at *
 generalize htk : tr62 s = TK at *
 generalize hg : goodW s = gd at *
 generalize hm : mdB p = md at *
 obtain ⟨l, ou, st, nw, wa, ca, ai, tp, fr, kp, sq, tm, id, ba, ss, sT, si, sb⟩ := s
 obtain ⟨ma, pty, psq, ptm, pss, cs, xs, pd, pl⟩ := p
 simp only [Sw.a, Md.l] at hsw hsk hmd ⊢
 dsimp only at *
 cases gd
 · simp (maxSteps := 400000) only [go_sem, k48, hsk, hg, simprocAttr]
   rw [hR]
   exact covZ2
 have hlx := hlx rfl
 have hgr := hgr rfl
 have hlen := hlen rfl
 cases md
 · simp (maxSteps := 400000) only [go_sem, k48, k60, hsk, hmd, hg, hm, simprocAttr]
   rw [hR]
   exact covZ2
 have hcs := hcs rfl
 simp (maxSteps := 400000) only [go_sem, k48, k60, hsk, hmd, hg, hm, simprocAttr]
 have hB1 : ∀ j, belL j (rows int1 l) = true := fun j => ib j l
 have hB2 : ∀ j, belL j (rows int1 cs) = true := fun j => csB j cs
 have hB3 : ∀ j, belL j (rows xtR xs) = true := fun j => xsB j xs
 refine Loop.countI (F := ⟨Try.prog, cxT T23, [15, 19, 25, 35, 38, 48, 61], 100, 0⟩) hT23 mo l.length (fun k => True)
  (fun k => [(2, .p 0 0), (3, .p 1 0), (4, .p 2 0), (7, .i .i64 (lix l pss k)), (8, .i .i64 (k : Int))])
  (fun k => [(2, { cells := [.ns, .i .i64 0, .i .i64 0, .i .i64 0, .i .i64 0, .i .i64 0, .i .i64 0, .i .i64 0, .i .i64 0, .b false, .i .i64 0, .i .i64 0, .i .i64 0, .i .i64 0, .i .i64 0, .i .i64 0, .i .i64 0, .i .i64 0] }), (1, { cells := [.b ma, .i .i64 pty, .i .i64 psq, .i .i64 ptm, .i .i64 pss, .fz (rows int1 cs) cs.length, .fz (rows xtR xs) xs.length, .i .i64 pd, .s pl] }), (0, { cells := [.fz (rows int1 l) l.length, .i .i64 ou, .i .i64 st, .i .i64 nw, .i .i64 wa, .i .i64 ca, .i .i64 ai, .i .i64 tp, .i .i64 fr, .b kp, .i .i64 sq, .i .i64 tm, .i .i64 id, .i .i64 ba, .i .i64 ss, .i .i64 sT, .i .i64 si, .i .i64 sb] })]) 3 (by decide) trivial ?_ ?_ (fun k hk _ => ?_)
 · simp (maxSteps := 400000) only [go_sem, lix, AV.bel, belL, nblt, simprocAttr]
 · simp (maxSteps := 400000) only [go_sem, hB1, hB2, hB3, AV.bel, belL, nblt, simprocAttr]
 dsimp only [T23]
 by_cases hlt : k < l.length
 · have e1 : decide ((k : Int) < (l.length : Int)) = true := decide_eq_true (by omega)
   have e2 : decide (0 ≤ (k : Int) ∧ (k : Int) < (l.length : Int)) = true := decide_eq_true (by omega)
   have hw : IntKind.i64.wrap ((k : Int) + 1) = ((k + 1 : Nat) : Int) := by rw [wrapL (by omega) (by omega)]; omega
   obtain ⟨x, hx⟩ : ∃ x, l[k]? = some x := ⟨_, List.getElem?_eq_getElem hlt⟩
   have hr := i_at hx
   have hL : lix l pss (k + 1) = bif x == pss then (k : Int) else lix l pss k := by simp only [lix, List.getD, hx, Option.getD_some]
   generalize lix l pss (k + 1) = LN at *
   subst hL
   cases a0 : (x == pss)
   all_goals (
    try rw [a0]
    simp (maxSteps := 400000) only [go_sem, e1, e2, hr, hw, a0, hlt, hB1, hB2, hB3, AV.bel, belL, nblt, Nat.mul_one, cond_true, cond_false, simprocAttr])
 have hkl : k = l.length := by omega
 subst hkl
 have e1 : decide ((l.length : Int) < (l.length : Int)) = false := decide_eq_false (by omega)
 rw [hlx]
 cases a1 : decide (ixS l pss < 0)
 rotate_left
 · simp (maxSteps := 400000) only [go_sem, e1, a1, simprocAttr]
   rw [hR, a1]
   exact covZ2
 have hd : decV (dec pl) = .tup [.agg (dec pl).1.l, .s (dec pl).2.1, .i .i64 (dec pl).2.2] := rfl
 generalize hdd : dec pl = D at *
 obtain ⟨⟨xst, xky, xsy, xla, xid, xba, xte, xsp⟩, rs, e⟩ := D
 simp only [Go.Proofs.Lys.Sh.l] at hd
 dsimp only at *
 cases a2 : (e == 0)
 · have b2 : (e != 0) = true := by simp only [bne, a2, Bool.not_false]
   simp (maxSteps := 400000) only [go_sem, e1, a1, k46, hdd, hd, b2, simprocAttr]
   rw [hR, a1, a2]
   exact covZ2
 have b2 : (e != 0) = false := by simp only [bne, a2, Bool.not_true]
 have htr := htr rfl rfl (by simpa using a2)
 have hQ := hQ (ixS l pss) ⟨xst, xky, xsy, xla, xid, xba, xte, xsp⟩
 rw [a1, a2, hQ] at hR
 have hs8 : sh8 [.b xst, .b xky, .b xsy, .b xla, .i .i64 xid, .i .i64 xba, .i .i64 xte, .i .i64 xsp] = some ⟨xst, xky, xsy, xla, xid, xba, xte, xsp⟩ := rfl
 generalize hTS : TS (ixS l pss) ⟨ma, pty, psq, ptm, pss, cs, xs, pd, pl⟩ ⟨xst, xky, xsy, xla, xid, xba, xte, xsp⟩ = Q at *
 obtain ⟨⟨rl, rou, rst, rnw, rwa, rca, rai, rtp, rfr, rkp, rsq, rtm, rid, rba, rss, rsT, rsi, rsb⟩, b⟩ := Q
 cases b
 · simp (maxSteps := 400000) only [go_sem, e1, a1, k46, hdd, hd, b2, k55, hsw, hgr, k62, hmd, hs8, htk, htr, htS, hTS, trV, Sw.a, simprocAttr]
   rw [hR]
   exact covO (S := ⟨rl, rou, rst, rnw, rwa, rca, rai, rtp, rfr, rkp, rsq, rtm, rid, rba, rss, rsT, rsi, rsb⟩) (l := [])
 obtain ⟨hc1, hc2⟩ := hcs
 have g1 : decide (8 * cs.length ≤ growMax) = true := decide_eq_true (by simp only [growMax]; omega)
 have g2 : decide (24 * xs.length ≤ growMax) = true := decide_eq_true (by simp only [growMax]; omega)
 have ho1 := rows_one1 (f := int1) (fun _ => rfl) cs
 have ho2 := rows_one1 (f := xtR) (fun _ => rfl) xs
 have hl1 : (rows int1 cs).length = cs.length * 1 := rows_len int1_len
 have hl2 : (rows xtR xs).length = xs.length * 2 := rows_len xtR_len
 have ht1 : List.take (cs.length * 1) (rows int1 cs) = rows int1 cs := List.take_of_length_le (by omega)
 have ht1' : List.take cs.length (rows int1 cs) = rows int1 cs := List.take_of_length_le (by omega)
 have ht2 : List.take (xs.length * 2) (rows xtR xs) = rows xtR xs := List.take_of_length_le (by omega)
 rw [Nat.mul_one] at hl1
 have r0 : rows int1 ([] : List Int) = [] := rfl
 have r1 : rows xtR ([] : List (Int × List UInt8)) = [] := rfl
 cases cs with
 | nil =>
  simp only [r0, List.length_nil] at hmd ⊢
  cases xs with
  | nil =>
   simp only [r1, List.length_nil] at hmd ⊢
   simp (maxSteps := 400000) only [go_sem, e1, a1, k46, hdd, hd, b2, k55, hsw, hgr, k62, hmd, hs8, htk, htr, htS, hTS, trV, Sw.a, k100, hpl, Nat.zero_add, List.drop_zero, Nat.zero_mul, Nat.mul_one, simprocAttr]
   rw [hR]
   exact covP23 (S := ⟨rl, rou, rst, rnw, rwa, rca, rai, rtp, rfr, rkp, rsq, rtm, rid, rba, rss, rsT, rsi, rsb⟩) (cs := []) (xs := []) 4 5 6 { cells := [] } { cells := [] } (.inl ⟨0, rfl, Nat.le_refl _⟩) (.inl ⟨0, rfl, Nat.le_refl _⟩) rfl rfl rfl rfl rfl rfl rfl (by decide) (by decide) (by decide)
  | cons y xs =>
   rw [List.length_cons] at hl2 ht2 g2 hmd ⊢
   generalize hLx : rows xtR (y :: xs) = LX at *
   simp (maxSteps := 400000) only [go_sem, e1, a1, k46, hdd, hd, b2, k55, hsw, hgr, k62, hmd, hs8, htk, htr, htS, hTS, trV, Sw.a, k100, hpl, g2, ho2, hl2, ht2, Nat.zero_add, List.drop_zero, Nat.zero_mul, Nat.mul_one, simprocAttr]
   rw [hR]
   exact covP23 (S := ⟨rl, rou, rst, rnw, rwa, rca, rai, rtp, rfr, rkp, rsq, rtm, rid, rba, rss, rsT, rsi, rsb⟩) (cs := []) (xs := y :: xs) 4 6 7 { cells := [] } { cells := LX, gr := some 2 } (.inl ⟨0, rfl, Nat.le_refl _⟩) (.inr rfl) rfl rfl rfl rfl rfl hLx.symm rfl (by decide) (by decide) (by decide)
 | cons x cs =>
  rw [List.length_cons] at hl1 ht1 ht1' g1 hmd ⊢
  generalize hLc : rows int1 (x :: cs) = LC at *
  cases xs with
  | nil =>
   simp only [r1, List.length_nil] at hmd ⊢
   simp (maxSteps := 400000) only [go_sem, e1, a1, k46, hdd, hd, b2, k55, hsw, hgr, k62, hmd, hs8, htk, htr, htS, hTS, trV, Sw.a, k100, hpl, g1, ho1, hl1, ht1, ht1', Nat.zero_add, List.drop_zero, Nat.zero_mul, Nat.mul_one, simprocAttr]
   rw [hR]
   exact covP23 (S := ⟨rl, rou, rst, rnw, rwa, rca, rai, rtp, rfr, rkp, rsq, rtm, rid, rba, rss, rsT, rsi, rsb⟩) (cs := x :: cs) (xs := []) 5 6 7 { cells := LC, gr := some 1 } { cells := [] } (.inr rfl) (.inl ⟨0, rfl, Nat.le_refl _⟩) rfl rfl rfl rfl hLc.symm rfl rfl (by decide) (by decide) (by decide)
  | cons y xs =>
   rw [List.length_cons] at hl2 ht2 g2 hmd ⊢
   generalize hLx : rows xtR (y :: xs) = LX at *
   simp (maxSteps := 400000) only [go_sem, e1, a1, k46, hdd, hd, b2, k55, hsw, hgr, k62, hmd, hs8, htk, htr, htS, hTS, trV, Sw.a, k100, hpl, g1, ho1, hl1, ht1, ht1', g2, ho2, hl2, ht2, Nat.zero_add, List.drop_zero, Nat.zero_mul, Nat.mul_one, simprocAttr]
   rw [hR]
   exact covP23 (S := ⟨rl, rou, rst, rnw, rwa, rca, rai, rtp, rfr, rkp, rsq, rtm, rid, rba, rss, rsT, rsi, rsb⟩) (cs := x :: cs) (xs := y :: xs) 5 7 8 { cells := LC, gr := some 1 } { cells := LX, gr := some 2 } (.inr rfl) (.inr rfl) rfl rfl rfl rfl hLc.symm hLx.symm rfl (by decide) (by decide) (by decide)
theorem s23 : SoundAt Try.prog 23 k22 := fun args h n c E hc ht => by
 unfold k22 at hc
 split at hc
 · simp only [Option.bind_eq_some_iff, Option.some.injEq, Prod.mk.injEq] at hc
   obtain ⟨s, hs, p, hp, rfl, rfl⟩ := hc
   rw [swA_eq hs, md9_eq hp]
   exact CallOK.pure (by kernel_rfl) (by simp only [belL, AV.bel, Sw.bel, p.bel, Bool.and_self]) (pushV_bel _) (w23 _ _ ht) _ _
 · cases hc
end Go.Proofs.Lys
end
