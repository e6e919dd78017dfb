/- Texts laid as one: JitC13 JitC14. -/
import Derived.Test.YtcpgamgkbbckoaaJitCe
section
/- The reference's Put, the end. -/
namespace Go.Proofs.Jit
open Go.Ab
set_option maxRecDepth 100000
set_option maxHeartbeats 4000000
set_option linter.unusedSimpArgs false
set_option linter.unusedVariables false
theorem covP {ck ti mr of tr ji lo nx e : Int} {sd wh : Bool} {h : Hp} {n : Nat} (J : Nat) {l : List Hd} {m : Nat} {C : List AV} (hm : m = l.length) (hC : C = rows Hd.l l) (hk : hget h J = some { cells := C, gr := some 10 }) :
 CovS 0 (.tup [.agg [.i .i64 ck, .i .i64 ti, .b sd, .b wh, .i .i64 nx, .i .i64 mr, .i .i64 of, .i .i64 tr, .i .i64 ji, .i .i64 lo, .sg J 0 m], .i .i64 e]) h n (bfV (⟨ck, ti, sd, wh, nx, mr, of, tr, ji, lo, l⟩, e)) [] 0 := by
 subst hm hC
 refine CovS.frz (b := J) (k := { cells := rows Hd.l l, gr := some 10 }) (h' := []) (o := 0) (m := l.length) (cs := rows Hd.l l) (v' := bfV (⟨ck, ti, sd, wh, nx, mr, of, tr, ji, lo, l⟩, e)) hk rfl (.inr rfl) (.inl rfl) (FzV.tup ⟨FzV.agg ⟨FzV.refl, FzV.refl, FzV.refl, FzV.refl, FzV.refl, FzV.refl, FzV.refl, FzV.refl, FzV.refl, FzV.refl, FzV.hit, trivial⟩, FzV.refl, trivial⟩) (fun c kk hc => by simp [hget] at hc) ?_
 exact CovS.ends (Ends.pureE (bfV_bel _) rfl)
abbrev i16v : ICode := (.seq (.reg i16r34) (.seq (.reg i16r35) (.seq (.reg i16r36) (.seq (.reg i16r37) (.seq (.reg i16r38) .ret)))))
theorem tail16 (b : Bf) (p : Md) (at_ : Nat) (st : Int) (hat : at_ ≤ b.l.length) (hl : b.l.length ≤ 64) (R : Bf × Int) (hR : R = ({ b with l := insL b.l at_ ⟨p, st⟩ }, 0)) (e : Env)
 (he3 : eget e 3 = some (.p 0 0)) (he5 : eget e 5 = some (.p 1 0)) (he6 : eget e 6 = some (.p 2 0)) (he9 : eget e 9 = some (.i .i64 (at_ : Int))) (he10 : eget e 10 = some (.i .i64 st)) :
 Seam FS16 i16v (retK [.c 6 true 11, .t 7] fun v h' n' => CovS 0 v h' n' (bfV R) [] 0) e (h16 b p) 3 := by
 obtain ⟨ck, ti, sd, wh, nx, mr, of, tr, ji, lo, l⟩ := b
 dsimp only at hat hl hR
 have htA : List.take (at_ * 10) (rows Hd.l l) = rows Hd.l (l.take at_) := rows_take Hd.len
 have hdB := hd_drop l at_
 have hlA : (l.take at_).length = at_ := by rw [List.length_take]; omega
 have hlB : l.length - at_ = (l.drop at_).length := List.length_drop.symm
 have hBl : (l.drop at_).length ≤ 64 := by rw [List.length_drop]; omega
 have c1 : decide (0 ≤ (at_ : Int) ∧ (at_ : Int) ≤ (l.length : Int)) = true := decide_eq_true (by omega)
 have c3 : decide (0 ≤ (at_ : Int) ∧ (at_ : Int) ≤ (l.length : Int) ∧ 0 ≤ (l.length : Int)) = true := decide_eq_true (by omega)
 have hil : (insL l at_ ⟨p, st⟩).length = at_ + (1 + (l.drop at_).length) := by simp only [insL, List.length_append, hlA, List.length_singleton]
 have hic : rows Hd.l (insL l at_ ⟨p, st⟩) = rows Hd.l (l.take at_) ++ (Hd.l ⟨p, st⟩ ++ rows Hd.l (l.drop at_)) := by
  simp only [insL, rows_append]; simp [rows]
 generalize insL l at_ ⟨p, st⟩ = I at *
 generalize l.take at_ = A at *
 generalize l.drop at_ = B at *
 obtain ⟨ma, pty, sq, tm, pss, cs, xs, pd, pl⟩ := p
 simp only [h16, Bf.a, Md.l, Hd.l] at hic ⊢
 have hAl : (rows Hd.l A).length = A.length * 10 := rows_len Hd.len
 have hBlen : (rows Hd.l B).length = B.length * 10 := rows_len Hd.len
 have hoA := rows_one1 Hd.one A
 have hoB := rows_one1 Hd.one B
 refine Seam.run hT16 mo ?_
 dsimp only [FS16]
 have c0 : decide (0 ≤ (l.length : Int)) = true := decide_eq_true (by omega)
 have cg : decide (120 ≤ growMax) = true := rfl
 cases at_ with
 | zero =>
  obtain rfl : A = [] := List.eq_nil_of_length_eq_zero hlA
  cases B with
  | nil =>
   simp only [List.length_nil] at hlB hil
   simp (maxSteps := 400000) only [go_sem, he3, he5, he6, he9, he10, c1, c3, c0, cg, hdB, hlB, List.take_zero, List.length_nil, simprocAttr]
   rw [hR]
   refine covP 4 hil.symm ?_ rfl
   rw [hic]; rfl
  | cons y r =>
   simp only [List.length_cons] at hlB hil hBl hBlen
   have g2 : decide (120 * (1 + (r.length + 1)) ≤ growMax) = true := decide_eq_true (by simp only [growMax]; omega)
   have htB : List.take ((r.length + 1) * 10) (rows Hd.l (y :: r)) = rows Hd.l (y :: r) := List.take_of_length_le (by omega)
   generalize rows Hd.l (y :: r) = LB at *
   simp (maxSteps := 400000) only [go_sem, he3, he5, he6, he9, he10, c1, c3, c0, cg, hdB, hlB, List.take_zero, List.length_nil, List.drop_zero, g2, htB, hBlen, hoB, simprocAttr]
   rw [hR]
   refine covP 5 (by rw [hil]; omega) ?_ rfl
   rw [hic]; rfl
 | succ a =>
  have g1 : decide (120 * (a + 1) ≤ growMax) = true := decide_eq_true (by simp only [growMax]; omega)
  have g3 : decide (120 * (a + 1 + 1) ≤ growMax) = true := decide_eq_true (by simp only [growMax]; omega)
  rw [hlA] at hAl
  have hAl2 : ((rows Hd.l A).length = (a + 1) * 10) := hAl
  generalize rows Hd.l A = LA at *
  cases B with
  | nil =>
   simp only [List.length_nil] at hlB hil
   simp (maxSteps := 400000) only [go_sem, he3, he5, he6, he9, he10, c1, c3, c0, cg, hdB, hlB, htA, g1, g3, hAl, hoA, List.take_zero, List.length_nil, List.drop_zero, simprocAttr]
   rw [hR]
   refine covP 5 (by rw [hil]) ?_ rfl
   rw [hic]; rfl
  | cons y r =>
   simp only [List.length_cons] at hlB hil hBl hBlen
   have g2 : decide (120 * (a + 1 + 1 + (r.length + 1)) ≤ growMax) = true := decide_eq_true (by simp only [growMax]; omega)
   have htB : List.take ((r.length + 1) * 10) (rows Hd.l (y :: r)) = rows Hd.l (y :: r) := List.take_of_length_le (by omega)
   generalize rows Hd.l (y :: r) = LB at *
   simp (maxSteps := 400000) only [go_sem, he3, he5, he6, he9, he10, c1, c3, c0, cg, hdB, hlB, htA, g1, g3, hAl, hoA, List.take_zero, List.length_nil, List.drop_zero, g2, htB, hBlen, hoB, simprocAttr]
   refine andB_i (decide_eq_true (by rw [List.length_append, hAl2]; simp only [List.length_cons, List.length_nil]; omega)) ?_
   rw [hR]
   refine covP 6 (by rw [hil]; omega) ?_ rfl
   rw [hic, List.append_assoc]
abbrev i16u : ICode := (.seq (.reg i16r21) (.seq (.seq (.reg i16r22) (.cond (.t 111) (.seq (.reg i16r23) (.seq (.reg i16r24) (.seq (.reg i16r25) (.seq (.reg i16r26) (.reg i16r27))))) (.seq (.reg i16r28) (.seq (.reg i16r29) (.seq (.reg i16r30) (.reg i16r31)))))) (.seq (.reg i16r32) (.seq (.reg i16r33) i16v))))
def putOK (b : Bf) (now st : Int) : Prop := 0 ≤ now ∧ now ≤ 1099511627776 ∧ 1 ≤ b.ck ∧ b.ck ≤ 96 ∧ 0 ≤ st ∧ st ≤ 1152921504606846976 ∧ -1152921504606846976 ≤ b.tr ∧ b.tr ≤ 1152921504606846976 ∧ 0 ≤ b.ji ∧ b.ji ≤ 1048576
theorem mid16 (b : Bf) (p : Md) (now : Int) (at_ : Nat) (st : Int) (hat : at_ ≤ b.l.length) (hl : b.l.length ≤ 64) (hok : putOK b now st) (R : Bf × Int) (hR : R = (putAt b now p at_ st, 0)) (e : Env) (he1 : eget e 1 = some (.i .i64 now))
 (he3 : eget e 3 = some (.p 0 0)) (he5 : eget e 5 = some (.p 1 0)) (he6 : eget e 6 = some (.p 2 0)) (he9 : eget e 9 = some (.i .i64 (at_ : Int))) (he10 : eget e 10 = some (.i .i64 st)) :
 Seam FS16 i16u (retK [.c 6 true 11, .t 7] fun v h' n' => CovS 0 v h' n' (bfV R) [] 0) e (h16 b p) 3 := by
 obtain ⟨ck, ti, sd, wh, nx, mr, of, tr, ji, lo, l⟩ := b
 simp only [putOK] at hok
 obtain ⟨o1, o2, o3, o4, o5, o6, o7, o8, o9, o10⟩ := hok
 have hnc : 0 ≤ now * ck ∧ now * ck ≤ 1099511627776 * 96 := ⟨Int.mul_nonneg o1 (by omega), Int.mul_le_mul o2 o4 (by omega) (by omega)⟩
 have w1 : IntKind.i64.wrap (now * ck) = now * ck := wrapL (by omega) (by omega)
 have w2 : IntKind.i64.wrap (now * ck - st) = now * ck - st := wrapL (by omega) (by omega)
 have w3 : IntKind.i64.wrap (now * ck - st - tr) = now * ck - st - tr := wrapL (by omega) (by omega)
 have w4 : IntKind.i64.wrap (tr - (now * ck - st)) = tr - (now * ck - st) := wrapL (by omega) (by omega)
 have hTT := fun (B : Bf) => tail16 B p at_ st
 dsimp only [putAt] at hR
 generalize hT : now * ck - st = T at *
 have w5 : IntKind.i64.wrap (ji + min (max (T - tr) (tr - T)) 65535) = ji + min (max (T - tr) (tr - T)) 65535 := wrapL (by omega) (by omega)
 have w6 : IntKind.i64.wrap (ji + 8) = ji + 8 := wrapL (by omega) (by omega)
 have m1 : (ji + 8).tdiv 16 = (ji + 8) / 16 := Int.tdiv_eq_ediv_of_nonneg (by omega)
 have m2 : IntKind.i64.wrap ((ji + 8) / 16) = (ji + 8) / 16 := wrapL (by omega) (by omega)
 have w7 : IntKind.i64.wrap (ji + min (max (T - tr) (tr - T)) 65535 - (ji + 8) / 16) = ji + min (max (T - tr) (tr - T)) 65535 - (ji + 8) / 16 := wrapL (by omega) (by omega)
 obtain ⟨ma, pty, sq, tm, pss, cs, xs, pd, pl⟩ := p
 simp only [h16, Bf.a, Md.l] at hTT ⊢
 refine Seam.part hT16 mo ?_
 dsimp only [FS16]
 simp (maxSteps := 400000) only [go_sem, he1, he3, he5, he6, he9, he10, w1, hT, w2, simprocAttr]
 refine Seam.part hT16 mo ?_
 try dsimp only [T16]
 cases sd
 · simp (maxSteps := 400000) only [go_sem, he1, he3, he5, he6, he9, he10, simprocAttr]
   refine Seam.part hT16 mo ?_
   try dsimp only [T16]
   simp (maxSteps := 400000) only [go_sem, he1, he3, he5, he6, he9, he10, simprocAttr]
   refine Seam.part hT16 mo ?_
   try dsimp only [T16]
   simp (maxSteps := 400000) only [go_sem, he1, he3, he5, he6, he9, he10, simprocAttr]
   exact hTT ⟨ck, now, true, true, sq, st, T, T, ji, lo, l⟩ hat hl R hR _ (by exact he3) he5 he6 he9 he10
 · simp (maxSteps := 400000) only [go_sem, he1, he3, he5, he6, he9, he10, w3, w4, w5, w6, m1, m2, w7, simprocAttr]
   refine Seam.part hT16 mo ?_
   try dsimp only [T16]
   simp (maxSteps := 400000) only [go_sem, he1, he3, he5, he6, he9, he10, simprocAttr]
   refine Seam.part hT16 mo ?_
   try dsimp only [T16]
   simp (maxSteps := 400000) only [go_sem, he1, he3, he5, he6, he9, he10, simprocAttr]
   exact hTT ⟨ck, now, true, wh, nx, max mr st, min of T, T, ji + min (max (T - tr) (tr - T)) 65535 - (ji + 8) / 16, lo, l⟩ hat hl R hR _ (by exact he3) he5 he6 he9 he10
end Go.Proofs.Jit
end
section
/- The reference's Put, the whole. -/
namespace Go.Proofs.Jit
open Go.Ab
set_option maxRecDepth 100000
set_option maxHeartbeats 4000000
set_option linter.unusedSimpArgs false
set_option linter.unusedVariables false
theorem heldB_sq : ∀ {l : List Hd} {nx mr last : Int}, heldB nx mr last l = true → sqOK l = true
 | [], _, _, _, _ => rfl
 | x :: r, nx, mr, last, h => by
  simp only [heldB, Bool.and_eq_true] at h
  have := heldB_sq h.2.2.2.2
  simp only [sqOK, List.all_cons, Bool.and_eq_true] at this ⊢
  exact ⟨mdB_sq h.1, this⟩
theorem good_mid {b : Bf} (hg : goodB b = true) (hs : b.sd = true) : sqOK b.l = true ∧ inI 0 65535 b.nx = true ∧ inI 0 1152921504606846976 b.mr = true ∧ (-1152921504606846976 ≤ b.tr ∧ b.tr ≤ 1152921504606846976) := by
 simp only [goodB, hs, cond_true, midB, Bool.and_eq_true, decide_eq_true_eq] at hg
 obtain ⟨_, ⟨g1, g2, g3, g4⟩, g5, _⟩ := hg
 have g3 := inI_t g3
 exact ⟨heldB_sq g5, g1, g2, by omega⟩
theorem good_head {b : Bf} (hg : goodB b = true) : inI 1 96 b.ck = true ∧ inI 0 1099511627776 b.ti = true ∧ inI 0 1048576 b.ji = true := by
 simp only [goodB, headB, Bool.and_eq_true] at hg
 exact ⟨hg.1.1, hg.1.2.1, hg.1.2.2.1⟩
theorem good_zero {b : Bf} (hg : goodB b = true) (hs : b.sd = false) : b.tr = 0 ∧ b.l.length = 0 := by
 simp only [goodB, hs, cond_false, emptyB, zerosB, Bool.and_eq_true, beq_iff_eq] at hg
 exact ⟨hg.2.2.1.2.2.2.1, hg.2.2.2⟩
theorem w16 (b : Bf) (now : Int) (p : Md) (hl : b.l.length ≤ 9223372036854775807) : FTL Try.prog 16 [.agg b.a, .i .i64 now, .agg p.l] [] 0 (bfV (putS b now p)) [] 0 := by
 have hba := bfA_a b
 have hll : decide (b.l.length ≤ 9223372036854775807) = true := decide_eq_true hl
 have h9 := md9_l p
 have hk48 : ∀ (h : Hp) n, k48 [.agg b.a, .i .i64 now] h n = some (true, { v := .i .i64 (lateB b now), n }) := fun h n => by simp only [k48, hba, Option.bind_some, hll]
 have hk37 : ∀ (h : Hp) n, k37 [.agg p.l] h n = some (true, { v := .b (mdB p), n }) := fun h n => by simp only [k37, h9, Option.bind_some]
 have hgd : lateB b now = 0 → goodB b = true ∧ inI b.ti 1099511627776 now = true := fun h => lateB_0 h
 have hgm := fun e e2 => good_mid (b := b) e e2
 have hgh := fun e => good_head (b := b) e
 have hgz := fun e e2 => good_zero (b := b) e e2
 have hln := fun e => good_len (b := b) e
 have hmq := fun h => mdB_sq (p := p) h
 have hmt := fun h => mdB_tm (p := p) h
 generalize hR : putS b now p = R
 unfold putS at hR
 have hmid := fun at_ st => mid16 b p now at_ st
 have hlp := fun far st hl hsq hnx => @loop16 b p now far st hl hsq hnx
 generalize lateB b now = E at *
 generalize mdB p = mb at *
 generalize hps : stampS b p = S at *
 unfold stampS at hps
 obtain ⟨ck, ti, sd, wh, nx, mr, of, tr, ji, lo, l⟩ := b
 obtain ⟨ma, pty, sq, tm, pss, cs, xs, pd, pl⟩ := p
 dsimp only at hR hln hmq hmt hps hgd
 simp only [h16, Bf.a, Md.l] at hk48 hk37 hmid hlp ⊢
 refine FTL.of_seamC (cx := cxT T16) Try.func16 i16_eq (by simp [i16]) ?_
 dsimp only [i16]
 refine Seam.part hT16 mo ?_
 simp (maxSteps := 400000) only [go_sem, simprocAttr]
 refine Seam.part hT16 mo ?_
 try dsimp only [T16]
 by_cases hE : E = 0
 rotate_left
 · have e1 : (E != 0) = true := by simp [bne, hE]
   rw [if_neg hE] at hR
   simp (maxSteps := 400000) only [go_sem, hk48, e1, simprocAttr]
   rw [← hR]
   exact covN
 obtain ⟨hg, hnow⟩ := hgd hE
 subst hE
 rw [if_pos rfl] at hR
 replace hln := hln hg
 obtain ⟨hck, hti, hji⟩ := hgh hg
 replace hck := inI_t hck
 replace hti := inI_t hti
 replace hji := inI_t hji
 replace hnow := inI_t hnow
 dsimp only at hck hti hji hnow
 simp (maxSteps := 400000) only [go_sem, hk48, simprocAttr]
 refine Seam.part hT16 mo ?_
 try dsimp only [T16]
 cases mb
 · simp (maxSteps := 400000) only [go_sem, hk37, simprocAttr]
   rw [← hR]
   exact covN
 simp only [cond_true] at hR
 replace hmq := hmq rfl
 replace hmt := hmt rfl
 have htm := inI_t hmt
 simp (maxSteps := 400000) only [go_sem, hk37, simprocAttr]
 refine Seam.part hT16 mo ?_
 try dsimp only [T16]
 have w1 : IntKind.i64.wrap (1099511627776 + tm) = 1099511627776 + tm := wrapL (by omega) (by omega)
 simp (maxSteps := 400000) only [go_sem, w1, simprocAttr]
 refine Seam.seq ?_
 cases sd
 · simp only [cond_false] at hR
   obtain ⟨z1, z2⟩ := hgz hg rfl
   dsimp only at z1 z2
   refine Seam.run hT16 mo ?_
   try dsimp only [T16]
   simp (maxSteps := 400000) only [go_sem, simprocAttr]
   refine hmid 0 (1099511627776 + tm) (Nat.zero_le _) hln ⟨by omega, by omega, hck.1, hck.2, by omega, by omega, ?_, ?_, hji.1, hji.2⟩ R hR.symm _ rfl rfl rfl rfl rfl rfl
   · dsimp only; omega
   · dsimp only; omega
 simp only [cond_true] at hR
 obtain ⟨hsq, hnx, hmr, htr⟩ := hgm hg rfl
 dsimp only at hsq hnx hmr htr
 have hmr := inI_t hmr
 have hfar := lead_rng sq nx
 have hk38 : ∀ (h : Hp) n, k38 [.i .i64 sq, .i .i64 nx, .i .i64 16] h n = some (true, { v := .i .i64 (lead sq nx), n }) := fun h n => by simp only [k38, hmq, hnx, Bool.and_self]
 refine Seam.part hT16 mo ?_
 try dsimp only [T16]
 simp (maxSteps := 400000) only [go_sem, simprocAttr]
 refine Seam.run hT16 mo ?_
 try dsimp only [T16]
 cases f1 : decide (lead sq nx < 0)
 rotate_left
 · rw [f1] at hR
   simp (maxSteps := 400000) only [go_sem, hk38, f1, simprocAttr]
   rw [← hR]
   exact covN
 rw [f1] at hR
 simp only [Bool.false_or] at hR
 simp (maxSteps := 400000) only [go_sem, hk38, f1, simprocAttr]
 have hPle := pos_le nx (lead sq nx) l
 have hpL : ∀ j, belL j [AV.b ma, .i .i64 pty, .i .i64 sq, .i .i64 tm, .i .i64 pss, .fz (rows int1 cs) cs.length, .fz (rows xtR xs) xs.length, .i .i64 pd, .s pl] = true := fun j => mdlB j ⟨ma, pty, sq, tm, pss, cs, xs, pd, pl⟩
 have hLb : ∀ j, belL j (rows Hd.l l) = true := fun j => hrB j l
 refine hlp (lead sq nx) (1099511627776 + tm) hln hsq hnx ?_ ?_ (fun e' g1 g3 g5 g6 g9 g11 => ?_)
 · simp (maxSteps := 400000) only [go_sem, AV.bel, belL, nblt, simprocAttr]
 · simp (maxSteps := 400000) only [go_sem, hLb, csB, xsB, AV.bel, belL, nblt, simprocAttr]
 have hl32 := lead32_rng tm (mr % 4294967296)
 have hmm : inI 0 4294967295 (mr % 4294967296) = true := inI_of (by omega)
 have hk38b : ∀ (h : Hp) n, k38 [.i .i64 tm, .i .i64 (mr % 4294967296), .i .i64 32] h n = some (true, { v := .i .i64 (lead32 tm (mr % 4294967296)), n }) := fun h n => by simp only [k38, hmt, hmm, Bool.and_self]
 have m1 : mr.tmod 4294967296 = mr % 4294967296 := Int.tmod_eq_emod_of_nonneg (by omega)
 have m2 : IntKind.i64.wrap (mr % 4294967296) = mr % 4294967296 := wrapL (by omega) (by omega)
 have wS : IntKind.i64.wrap (mr + lead32 tm (mr % 4294967296)) = S := by rw [← hps]; exact wrapL (by omega) (by omega)
 have n4 : decide ((l.length : Int) ≥ 64) = decide (64 ≤ l.length) := decide_eq_decide.2 (by omega)
 clear hlp
 generalize hP : pos nx (lead sq nx) l = P at *
 by_cases hlt : P < l.length
 · have c1 : decide ((P : Int) < (l.length : Int)) = true := decide_eq_true (by omega)
   have c2 : decide (0 ≤ (P : Int) ∧ (P : Int) < (l.length : Int)) = true := decide_eq_true (by omega)
   obtain ⟨x, hx⟩ : ∃ x, l[P]? = some x := ⟨_, List.getElem?_eq_getElem hlt⟩
   have hdp : dupB l P sq = (x.p.sq == sq) := by simp only [dupB, hx]
   have g2 := hd_ix hx (j := 2) (by decide)
   rw [hdp] at hR
   obtain ⟨⟨xma, xty, xsq, xtm, xss, xcs, xxs, xpd, xpl⟩, xt⟩ := x
   simp only [Hd.l] at g2
   dsimp only at hR
   cases e1 : (xsq == sq)
   rotate_left
   · rw [e1] at hR
     simp (maxSteps := 400000) only [go_sem, g1, g3, g5, g6, g9, g11, c1, c2, g2, e1, simprocAttr]
     rw [← hR]
     exact covN
   rw [e1] at hR
   simp only [cond_false] at hR
   cases b1 : decide (lead sq nx > 511)
   rotate_left
   · rw [b1] at hR
     simp (maxSteps := 400000) only [go_sem, g1, g3, g5, g6, g9, g11, c1, c2, g2, e1, m1, m2, hk38b, wS, b1, simprocAttr]
     rw [← hR]
     exact covN
   cases b2 : decide (S < 0)
   rotate_left
   · rw [b1, b2] at hR
     simp (maxSteps := 400000) only [go_sem, g1, g3, g5, g6, g9, g11, c1, c2, g2, e1, m1, m2, hk38b, wS, b1, b2, simprocAttr]
     rw [← hR]
     exact covN
   cases b3 : decide (S > 1152921504606846976)
   rotate_left
   · rw [b1, b2, b3] at hR
     simp (maxSteps := 400000) only [go_sem, g1, g3, g5, g6, g9, g11, c1, c2, g2, e1, m1, m2, hk38b, wS, b1, b2, b3, simprocAttr]
     rw [← hR]
     exact covN
   rw [b1, b2, b3] at hR
   cases b4 : decide (64 ≤ l.length)
   rotate_left
   · rw [b4] at hR
     simp (maxSteps := 400000) only [go_sem, g1, g3, g5, g6, g9, g11, c1, c2, g2, e1, m1, m2, hk38b, wS, b1, b2, b3, n4, b4, simprocAttr]
     rw [← hR]
     exact covN
   rw [b4] at hR
   simp only [Bool.or_self, cond_false] at hR
   simp (maxSteps := 400000) only [go_sem, g1, g3, g5, g6, g9, g11, c1, c2, g2, e1, m1, m2, hk38b, wS, b1, b2, b3, n4, b4, simprocAttr]
   have b2 := of_decide_eq_false b2
   have b3 := of_decide_eq_false b3
   exact hmid P S hPle hln ⟨by omega, by omega, hck.1, hck.2, by omega, by omega, htr.1, htr.2, hji.1, hji.2⟩ R hR.symm _ g1 g3 g5 g6 g9 rfl
 · have c1 : decide ((P : Int) < (l.length : Int)) = false := decide_eq_false (by omega)
   have hdp : dupB l P sq = false := by simp only [dupB, List.getElem?_eq_none (by omega : l.length ≤ P)]
   rw [hdp] at hR
   simp only [cond_false] at hR
   cases b1 : decide (lead sq nx > 511)
   rotate_left
   · rw [b1] at hR
     simp (maxSteps := 400000) only [go_sem, g1, g3, g5, g6, g9, g11, c1, m1, m2, hk38b, wS, b1, simprocAttr]
     rw [← hR]
     exact covN
   cases b2 : decide (S < 0)
   rotate_left
   · rw [b1, b2] at hR
     simp (maxSteps := 400000) only [go_sem, g1, g3, g5, g6, g9, g11, c1, m1, m2, hk38b, wS, b1, b2, simprocAttr]
     rw [← hR]
     exact covN
   cases b3 : decide (S > 1152921504606846976)
   rotate_left
   · rw [b1, b2, b3] at hR
     simp (maxSteps := 400000) only [go_sem, g1, g3, g5, g6, g9, g11, c1, m1, m2, hk38b, wS, b1, b2, b3, simprocAttr]
     rw [← hR]
     exact covN
   rw [b1, b2, b3] at hR
   cases b4 : decide (64 ≤ l.length)
   rotate_left
   · rw [b4] at hR
     simp (maxSteps := 400000) only [go_sem, g1, g3, g5, g6, g9, g11, c1, m1, m2, hk38b, wS, b1, b2, b3, n4, b4, simprocAttr]
     rw [← hR]
     exact covN
   rw [b4] at hR
   simp only [Bool.or_self, cond_false] at hR
   simp (maxSteps := 400000) only [go_sem, g1, g3, g5, g6, g9, g11, c1, m1, m2, hk38b, wS, b1, b2, b3, n4, b4, simprocAttr]
   have b2 := of_decide_eq_false b2
   have b3 := of_decide_eq_false b3
   exact hmid P S hPle hln ⟨by omega, by omega, hck.1, hck.2, by omega, by omega, htr.1, htr.2, hji.1, hji.2⟩ R hR.symm _ g1 g3 g5 g6 g9 rfl
def k16 : Ct
 | [.agg c, .i .i64 now, .agg q], _, n => (bfA c).bind fun b => (md9 q).bind fun p => some (decide (b.l.length ≤ 9223372036854775807), { v := bfV (putS b now p), n })
 | _, _, _ => none
theorem s16 : SoundAt Try.prog 16 k16 := fun args h n c E hc ht => by
 unfold k16 at hc
 split at hc
 · simp only [Option.bind_eq_some_iff] at hc
   obtain ⟨b, hd, p, hp, he⟩ := hc
   cases he
   rw [bfA_eq hd, md9_eq hp]
   exact CallOK.pure (by kernel_rfl) (by simp only [belL, AV.bel, Bf.bel, Md.bel, Bool.and_self]) (bfV_bel _) (w16 b _ p (of_decide_eq_true ht)) _ _
 · cases hc
end Go.Proofs.Jit
end
