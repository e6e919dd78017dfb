/- Texts laid as one: JitC9 JitC10. -/
import Derived.Test.YtcpgamgkbbckoaaJitCc
import Derived.Test.YtcpgamgkbbckoaaAbGvs
import Derived.Test.YtcpgamgkbbckoaaAbShs
section
/- Take. -/
namespace Go.Proofs.Jit
open Go.Ab
set_option maxRecDepth 100000
set_option maxHeartbeats 4000000
set_option linter.unusedSimpArgs false
set_option linter.unusedVariables false
theorem w52 (L : List AV) (m : Nat) (hL : belL 0 L = true) : FTL Try.prog 52 [.fz L m] [] 0 (.fn 62 [.p 0 0]) [(0, { cells := [.fz L m] })] 1 := by
 have hLb : ∀ j, belL j L = true := fun j => belL_mono0 _ hL
 have hLr : ∀ ψ, renL ψ L = L := fun ψ => renL_fix0 _ hL
 refine FTL.of_iw Sound.nil mo Try.func52 i52_eq (by simp [i52]) (iw_of_jw ?_)
 dsimp only [i52]
 simp (maxSteps := 400000) only [go_sem, simprocAttr]
 refine Ends.R [] ?_ ?_ ?_ ?_ ?_
 · decide
 · decide
 · simp (maxSteps := 400000) only [go_sem, AV.ren, renL, AV.bel, belL, nblt, simprocAttr]
 · simp (maxSteps := 400000) only [go_sem, AV.ren, renL, AV.bel, belL, nblt, hLb, simprocAttr]
 · simp (maxSteps := 400000) only [go_sem, AV.ren, renL, AV.bel, belL, nblt, Blk.ren, hLb, hLr, simprocAttr]
def k52 : Ct
 | [.fz L m], _, n => some (belL 0 L, { v := .fn 62 [.p n 0], n := n + 1, nw := [(n, { cells := [.fz L m] })] })
 | _, _, _ => none
theorem s52 : SoundAt Try.prog 52 k52 := fun args h n c E hc ht => by
 unfold k52 at hc
 split at hc
 · rename_i L m
   cases hc
   have := CallOK.new1 (h := h) (n := n) (by kernel_rfl) (by simp only [belL, AV.bel, ht, Bool.and_self]) (by simp only [belL, AV.bel, ht, Bool.and_self]) rfl (w52 L m ht)
   simpa [AV.ren, renL] using this
 · cases hc
/-! what Take does -/
def tkB (c : Bf) (v : Hd) (N : Nat) : Bf := { c with nx := (v.p.sq + 1) % 65536, l := c.l.drop N }
def tkF (c : Bf) (x0 v : Hd) (N : Nat) : Bf × List Md × Int :=
 bif c.wh && ((x0.p.sq == c.nx) && v.p.ma) then (tkB c v N, frT c.l N, 0)
 else bif decide (c.lo + ((v.p.sq + 1) % 65536 - c.nx) % 65536 > 1099511627776) then (zBf, [], 6)
 else ({ tkB c v N with wh := v.p.ma, lo := c.lo + ((v.p.sq + 1) % 65536 - c.nx) % 65536 }, [], 0)
def tkS (b : Bf) (now : Int) : Bf × List Md × Int :=
 if lateB b now = 0 then
  bif (b.l.length == 0) || decide (now < dueS b) then (zBf, [], 4)
  else match b.l[0]?, b.l[frN b.l - 1]? with
   | some x0, some v => tkF { b with ti := now } x0 v (frN b.l)
   | _, _ => (zBf, [], 4)
 else (zBf, [], lateB b now)
def tkA (r : Bf × List Md × Int) : AV := .tup [.agg r.1.a, .fz (rows Md.l r.2.1) r.2.1.length, .i .i64 r.2.2]
theorem tkA_bel (r : Bf × List Md × Int) : (tkA r).bel 0 = true := by simp only [tkA, AV.bel, belL, Bf.bel, mrB, Bool.and_self]
theorem covT_n {e : Int} {h : Hp} {n : Nat} : CovS 0 (.tup [.agg [.i .i64 0, .i .i64 0, .b false, .b false, .i .i64 0, .i .i64 0, .i .i64 0, .i .i64 0, .i .i64 0, .i .i64 0, .ns], .ns, .i .i64 e]) h n (tkA (zBf, [], e)) [] 0 := by
 refine CovS.frzN (l := []) (v' := tkA (zBf, [], e)) (FzV.tup ⟨FzV.agg ⟨FzV.refl, FzV.refl, FzV.refl, FzV.refl, FzV.refl, FzV.refl, FzV.refl, FzV.refl, FzV.refl, FzV.refl, FzV.hit, trivial⟩, FzV.hit, FzV.refl, trivial⟩) ?_
 exact CovS.ends (Ends.pureE rfl rfl)
theorem covT_b {b : Bf} {e : Int} {h : Hp} {n : Nat} : CovS 0 (.tup [.agg b.a, .ns, .i .i64 e]) h n (tkA (b, [], e)) [] 0 := by
 refine CovS.frzN (l := []) (v' := tkA (b, [], e)) (FzV.tup ⟨FzV.refl, FzV.hit, FzV.refl, trivial⟩) ?_
 exact CovS.ends (Ends.pureE (tkA_bel _) rfl)
theorem covT_g {b : Bf} {e : Int} {h : Hp} {n j : Nat} {l : List Md} (hk : hget h j = some { cells := rows Md.l l, gr := some 9 }) : CovS 0 (.tup [.agg b.a, .sg j 0 l.length, .i .i64 e]) h n (tkA (b, l, e)) [] 0 := by
 refine CovS.frz (b := j) (k := { cells := rows Md.l l, gr := some 9 }) (h' := []) (o := 0) (m := l.length) (cs := rows Md.l l) (v' := tkA (b, l, e)) hk rfl (.inr rfl) (.inl rfl) (FzV.tup ⟨FzV.refl, FzV.hit, FzV.refl, trivial⟩) (fun c kk hc => by simp [hget] at hc) ?_
 exact CovS.ends (Ends.pureE (tkA_bel _) rfl)
def T23 : List (Nat × Ct) := [(40, k40), (50, kDu), (52, k52)]
theorem hT23 : Sound Try.prog (cxT T23) := Sound.cons s40 (Sound.cons s50 (Sound.cons s52 Sound.nil))
noncomputable abbrev FS23 : Fx := ⟨Try.prog, cxT T23, [18, 36, 81, 110], 146, 0⟩
abbrev i23t : ICode := (.seq (.reg i23r11) (.seq (.reg i23r12) (.seq (.seq (.dreg i23r13) (.cond (.t 81) (.seq (.dreg i23r14) (.seq (.reg i23r15) (.seq (.seq (.reg i23r16) (.cond (.t 110) (.seq (.reg i23r17) .ret) .skip)) (.seq (.dreg i23r18) (.reg i23r19))))) (.dreg i23r20))) (.seq (.reg i23r21) (.seq (.dreg i23r22) .ret)))))
theorem md_at {l : List Md} {k : Nat} {x : Md} (h : l[k]? = some x) : List.take 9 (List.drop (k * 9) (rows Md.l l)) = x.l := rows_at Md.len h
theorem hd_drop (l : List Hd) (N : Nat) : List.drop (N * 10) (rows Hd.l l) = rows Hd.l (l.drop N) := rows_drop Hd.len
theorem tail23 (c : Bf) (x0 v : Hd) (N : Nat) (hN1 : 1 ≤ N) (hN : N ≤ c.l.length) (hl : c.l.length ≤ 64) (h0 : c.l[0]? = some x0) (hv : c.l[N - 1]? = some v) (hs : inI 0 65535 v.p.sq = true) (hnx : inI 0 65535 c.nx = true) (hlo : inI 0 1099511627776 c.lo = true)
 (R : Bf × List Md × Int) (hR : R = tkF c x0 v N) (e : Env) (he4 : eget e 4 = some (.p 0 0)) (he5 : eget e 5 = some (.p 1 0)) (he7 : eget e 7 = some (.p 2 0)) :
 Seam FS23 i23t (retK [.c 4 true 11, .c 5 false 1, .t 6] fun v h' n' => CovS 0 v h' n' (tkA R) [] 0) e (hT c c.l (.sg 4 0 N) (fL 4 (frT c.l N))) 5 := by
 have hfl := frT_len (l := c.l) (k := N) hN
 have g0 : (frT c.l N)[0]? = some x0.p := by
  simp only [frT, List.getElem?_map]
  rw [List.getElem?_take_of_lt (by omega), h0]; rfl
 have gv : (frT c.l N)[N - 1]? = some v.p := by
  simp only [frT, List.getElem?_map]
  rw [List.getElem?_take_of_lt (by omega), hv]; rfl
 have m0 : (rows Md.l (frT c.l N))[2]? = some (.i .i64 x0.p.sq) := by
  have := md_at g0
  have h2 : (List.take 9 (List.drop (0 * 9) (rows Md.l (frT c.l N))))[2]? = x0.p.l[2]? := by rw [this]
  rw [List.getElem?_take_of_lt (by omega), List.getElem?_drop] at h2
  exact h2
 have mv := md_at gv
 have hs := inI_t hs
 have hnx := inI_t hnx
 have hlo := inI_t hlo
 have w1 : IntKind.i64.wrap ((N : Int) - 1) = ((N - 1 : Nat) : Int) := by rw [wrapL (by omega) (by omega)]; omega
 have w2 : IntKind.i64.wrap (v.p.sq + 1) = v.p.sq + 1 := wrapL (by omega) (by omega)
 have w3 : IntKind.i64.wrap ((v.p.sq + 1) % 65536 - c.nx) = (v.p.sq + 1) % 65536 - c.nx := wrapL (by omega) (by omega)
 have w4 : IntKind.i64.wrap (c.lo + ((v.p.sq + 1) % 65536 - c.nx) % 65536) = c.lo + ((v.p.sq + 1) % 65536 - c.nx) % 65536 := wrapL (by omega) (by omega)
 have c1 : decide (0 ≤ ((N - 1 : Nat) : Int) ∧ ((N - 1 : Nat) : Int) < (N : Int)) = true := decide_eq_true (by omega)
 have c0 : decide ((0 : Int) < (N : Int)) = true := decide_eq_true (by omega)
 have hdr := hd_drop c.l N
 have hdl : (c.l.drop N).length = c.l.length - N := List.length_drop
 unfold tkF tkB at hR
 generalize frT c.l N = fr at *
 have n1 : (x0.p.sq != c.nx) = !(x0.p.sq == c.nx) := rfl
 generalize x0.p.sq = q0 at *
 obtain ⟨ck, ti, sd, wh, nx, mr, of, tr, ji, lo, l⟩ := c
 obtain ⟨⟨ma, pty, sq, tm, pss, cs, xs, pd, pl⟩, xt⟩ := v
 simp only [Md.l] at mv
 dsimp only at w2 w3 w4 n1 hR hdr hdl
 have c3 : decide (0 ≤ (N : Int) ∧ (N : Int) ≤ (l.length : Int) ∧ 0 ≤ (l.length : Int)) = true := decide_eq_true (by dsimp only at hN; omega)
 refine Seam.run hT23 mo ?_
 dsimp only [FS23]
 generalize hL' : lo + ((sq + 1) % 65536 - nx) % 65536 = lo' at *
 cases wh
 · cases b1 : decide (lo' > 1099511627776)
   · rw [b1] at hR
     simp (maxSteps := 400000) only [go_sem, hT, fL, Bf.a, he4, he5, he7, w1, w2, w3, w4, c1, c0, mv, m0, and16, hL', b1, c3, n1, simprocAttr]
     rw [hR, hdr, ← hdl]
     exact covT_b (b := ⟨ck, ti, sd, ma, (sq + 1) % 65536, mr, of, tr, ji, lo', l.drop N⟩) (e := 0)
   · rw [b1] at hR
     simp (maxSteps := 400000) only [go_sem, hT, fL, Bf.a, he4, he5, he7, w1, w2, w3, w4, c1, c0, mv, m0, and16, hL', b1, c3, n1, simprocAttr]
     rw [hR]
     exact covT_n
 cases e1 : (q0 == nx)
 · rw [e1] at hR
   cases b1 : decide (lo' > 1099511627776)
   · rw [b1] at hR
     simp (maxSteps := 400000) only [go_sem, hT, fL, Bf.a, he4, he5, he7, w1, w2, w3, w4, c1, c0, mv, m0, and16, hL', b1, c3, n1, e1, simprocAttr]
     rw [hR, hdr, ← hdl]
     exact covT_b (b := ⟨ck, ti, sd, ma, (sq + 1) % 65536, mr, of, tr, ji, lo', l.drop N⟩) (e := 0)
   · rw [b1] at hR
     simp (maxSteps := 400000) only [go_sem, hT, fL, Bf.a, he4, he5, he7, w1, w2, w3, w4, c1, c0, mv, m0, and16, hL', b1, c3, n1, e1, simprocAttr]
     rw [hR]
     exact covT_n
 rw [e1] at hR
 cases ma
 · cases b1 : decide (lo' > 1099511627776)
   · rw [b1] at hR
     simp (maxSteps := 400000) only [go_sem, hT, fL, Bf.a, he4, he5, he7, w1, w2, w3, w4, c1, c0, mv, m0, and16, hL', b1, c3, n1, e1, simprocAttr]
     rw [hR, hdr, ← hdl]
     exact covT_b (b := ⟨ck, ti, sd, false, (sq + 1) % 65536, mr, of, tr, ji, lo', l.drop N⟩) (e := 0)
   · rw [b1] at hR
     simp (maxSteps := 400000) only [go_sem, hT, fL, Bf.a, he4, he5, he7, w1, w2, w3, w4, c1, c0, mv, m0, and16, hL', b1, c3, n1, e1, simprocAttr]
     rw [hR]
     exact covT_n
 · simp (maxSteps := 400000) only [go_sem, hT, fL, Bf.a, he4, he5, he7, w1, w2, w3, w4, c1, c0, mv, m0, and16, c3, n1, e1, simprocAttr]
   have hfl2 : AV.sg 4 0 N = AV.sg 4 0 fr.length := by rw [hfl]
   rw [hR, hdr, ← hdl, hfl2]
   refine covT_g (b := ⟨ck, ti, sd, true, (sq + 1) % 65536, mr, of, tr, ji, lo, l.drop N⟩) (e := 0) (l := fr) (j := 4) ?_
   rfl
theorem good_held {b : Bf} (hg : goodB b = true) (hne : (b.l.length == 0) = false) : sqOK b.l = true ∧ inI 0 65535 b.nx = true ∧ inI 0 1099511627776 b.lo = true := by
 have aux : ∀ (l : List Hd) (nx mr last : Int), heldB nx mr last l = true → sqOK l = true := by
  intro l
  induction l with
  | nil => intros; rfl
  | cons x r ih =>
   intro nx mr last h
   simp only [heldB, Bool.and_eq_true] at h
   have := ih _ _ _ h.2.2.2.2
   simp only [sqOK, List.all_cons, Bool.and_eq_true] at this ⊢
   exact ⟨mdB_sq h.1, this⟩
 obtain ⟨ck, ti, sd, wh, nx, mr, of, tr, ji, lo, l⟩ := b
 simp only [goodB, headB, Bool.and_eq_true] at hg
 dsimp only at hne
 obtain ⟨⟨_, _, _, e4⟩, hg⟩ := hg
 cases sd
 · simp only [cond_false, emptyB, Bool.and_eq_true, hne] at hg
   simp at hg
 · simp only [cond_true, midB, Bool.and_eq_true, decide_eq_true_eq] at hg
   exact ⟨aux _ _ _ _ hg.2.1, hg.1.1, e4⟩
theorem rf23 (c : Bf) (x0 v : Hd) (hl : c.l.length ≤ 64) (h0 : c.l[0]? = some x0) (hv : c.l[frN c.l - 1]? = some v) (hsq : sqOK c.l = true) (hnx : inI 0 65535 c.nx = true) (hlo : inI 0 1099511627776 c.lo = true) (R : Bf × List Md × Int) (hR : R = tkF c x0 v (frN c.l)) :
 Seam FS23 (.block 0 (.rfunc (.t 43) [44] i23a9 i23b9)) (thenK (retK [.c 4 true 11, .c 5 false 1, .t 6] fun v h' n' => CovS 0 v h' n' (tkA R) [] 0) (Seam FS23 i23t (retK [.c 4 true 11, .c 5 false 1, .t 6] fun v h' n' => CovS 0 v h' n' (tkA R) [] 0)))
  [(4, .p 0 0), (5, .p 1 0), (7, .p 2 0), (43, .fn 62 [.p 3 0])] (hT c c.l .ns []) 4 := by
 have hN1 : 1 ≤ frN c.l := by
  cases hc : c.l with
  | nil => rw [hc] at h0; cases h0
  | cons a r => simp only [frN]; omega
 have hsv : inI 0 65535 v.p.sq = true := by
  simp only [sqOK, List.all_eq_true] at hsq
  exact hsq v (List.mem_of_getElem? hv)
 refine Seam.block ?_
 refine RFunc.intro (F := FS23) (n' := 5) (v' := .tup []) (h' := hK c c.l (frN c.l)) hT23 mo [5] [.p 1 0] rfl (by kernel_rfl) rfl rfl rfl (fun i t a h1 h2 => ?_) (fun L r hY => ?_) (fun b k hb => ?_) (by decide) ?_
 · match i with
   | 0 => simp at h1 h2; subst h1; subst h2; rfl
   | i + 1 => simp at h1
 · exact w62 (fun cs as' h1 n1 h2 n2 q1 q2 q3 q4 q5 => hY cs as' h1 n1 h2 n2 q1 q2 q3 q4 (by exact q5)) c x0 c.l (frN c.l) h0 (by omega) hsq rfl
 · refine nylH_spec ?_ hb
   unfold hK
   rw [if_neg (by omega)]
   simp only [nylH, hT, fL, nylL, AV.nyl, rows_nyl hd_nyl, rows_nyl md_nyl, bf_nyl, Bool.and_self]
 · show Seam FS23 i23t _ _ _ _
   unfold hK
   rw [if_neg (by omega)]
   exact tail23 c x0 v (frN c.l) hN1 (frN_le _) hl h0 hv hsv hnx hlo R hR _ rfl rfl rfl
theorem w23 (b : Bf) (now : Int) (hl : b.l.length ≤ 9223372036854775807) (hf : finB b.l = true) (hg : b.rg = true) : FTL Try.prog 23 [.agg b.a, .i .i64 now] [] 0 (tkA (tkS b now)) [] 0 := by
 have hba := bfA_a b
 have hll : decide (b.l.length ≤ 9223372036854775807) = true := decide_eq_true hl
 have hgd : lateB b now = 0 → goodB b = true := fun h => (lateB_0 h).1
 have hbb := fun e => good_held (b := b) e
 have hdu := fun e => good_due (b := b) e
 have hln := fun e => good_len (b := b) e
 have hk40 : ∀ (h : Hp) n, k40 [.agg b.a, .i .i64 now] h n = if lateB b now = 0 then some (true, { v := .tup [.p n 0, .i .i64 0], n := n + 1, nw := [(n, { cells := Bf.a { b with ti := now } })] }) else some (true, { v := .tup [.np, .i .i64 (lateB b now)], n }) := fun h n => by
  simp only [k40, hba, Option.bind_some, hf, hg, hll, Bool.and_self]
 generalize hR : tkS b now = R
 unfold tkS at hR
 have hbc : ∀ (h : Hp) n, dueOK b = true → kDu [.agg (Bf.a { b with ti := now })] h n = some (true, { v := .i .i64 (dueS b), n }) := fun h n e => by
  have e2 : dueOK { b with ti := now } = true := e
  simp only [kDu, bfA_a, Option.bind_some, e2]; rfl
 have hrf := fun x0 v => rf23 { b with ti := now } x0 v
 generalize lateB b now = E at *
 generalize hD : dueS b = D at *
 have hlB : ∀ j, belL j (rows Hd.l b.l) = true := fun j => hrB j b.l
 have h52 : ∀ (h : Hp) n, k52 [.fz (rows Hd.l b.l) b.l.length] h n = some (true, { v := .fn 62 [.p n 0], n := n + 1, nw := [(n, { cells := [.fz (rows Hd.l b.l) b.l.length] })] }) := fun h n => by simp only [k52, hlB]
 obtain ⟨ck, ti, sd, wh, nx, mr, of, tr, ji, lo, l⟩ := b
 dsimp only at hR hrf hbb hdu hln h52
 simp only [Bf.a] at hk40 hbc ⊢
 have n1 : ((l.length : Int) == 0) = (l.length == 0) := by rw [Bool.eq_iff_iff]; simp
 refine FTL.of_seamC (cx := cxT T23) Try.func23 i23_eq (by simp [i23]) ?_
 dsimp only [i23]
 refine Seam.part hT23 mo ?_
 simp (maxSteps := 400000) only [go_sem, simprocAttr]
 refine Seam.part hT23 mo ?_
 try dsimp only [T23]
 by_cases hE : E = 0
 rotate_left
 · have e1 : (E != 0) = true := by simp [bne, hE]
   rw [if_neg hE] at hR
   simp only [if_neg hE] at hk40
   simp (maxSteps := 400000) only [go_sem, hk40, simprocAttr]
   refine Seam.part hT23 mo ?_
   try dsimp only [T23]
   simp (maxSteps := 400000) only [go_sem, e1, simprocAttr]
   rw [← hR]
   exact covT_n
 replace hgd := hgd hE
 subst hE
 simp only [if_true] at hk40 hR
 have hln := hln hgd
 simp (maxSteps := 400000) only [go_sem, hk40, simprocAttr]
 refine Seam.part hT23 mo ?_
 try dsimp only [T23]
 simp (maxSteps := 400000) only [go_sem, simprocAttr]
 refine Seam.part hT23 mo ?_
 try dsimp only [T23]
 cases a1 : (l.length == 0)
 rotate_left
 · rw [a1] at hR
   simp (maxSteps := 400000) only [go_sem, n1, a1, simprocAttr]
   rw [← hR]
   exact covT_n
 obtain ⟨hsq, hnx, hlo⟩ := hbb hgd a1
 have hbc := fun h n => hbc h n (hdu hgd a1)
 rw [a1] at hR
 cases a2 : decide (now < D)
 rotate_left
 · rw [a2] at hR
   simp (maxSteps := 400000) only [go_sem, n1, a1, a2, hbc, simprocAttr]
   rw [← hR]
   exact covT_n
 rw [a2] at hR
 obtain ⟨x0, h0⟩ : ∃ x, l[0]? = some x := ⟨_, List.getElem?_eq_getElem (by simp at a1; exact List.length_pos_iff.2 a1)⟩
 have hN1 : 1 ≤ frN l := by
  cases l with
  | nil => cases h0
  | cons a r => simp only [frN]; omega
 obtain ⟨v, hv⟩ : ∃ x, l[frN l - 1]? = some x := ⟨_, List.getElem?_eq_getElem (by have := frN_le l; omega)⟩
 rw [h0, hv] at hR
 have hrf := hrf x0 v hln h0 hv hsq hnx hlo R hR.symm
 simp (maxSteps := 400000) only [go_sem, n1, a1, a2, hbc, simprocAttr]
 refine Seam.seq ?_
 refine Seam.part hT23 mo ?_
 try dsimp only [T23]
 simp (maxSteps := 400000) only [go_sem, h52, simprocAttr]
 have hLr : ∀ ψ, renL ψ (rows Hd.l l) = rows Hd.l l := fun ψ => hrR ψ l
 refine Seam.ren [(0, 1), (1, 2), (2, 3), (3, 4)] hrf (by decide) (by decide) ?_ ?_
 · simp (maxSteps := 400000) only [go_sem, AV.ren, renL, AV.bel, belL, nblt, simprocAttr]
 · simp (maxSteps := 400000) only [go_sem, hT, Bf.a, Blk.ren, AV.ren, renL, AV.bel, belL, nblt, hlB, hLr, simprocAttr]
def k23 : Ct
 | [.agg c, .i .i64 now], _, n => (bfA c).bind fun b => some (decide (b.l.length ≤ 9223372036854775807) && (finB b.l && b.rg), { v := tkA (tkS b now), n })
 | _, _, _ => none
theorem s23 : SoundAt Try.prog 23 k23 := fun args h n c E hc ht => by
 unfold k23 at hc
 split at hc
 · simp only [Option.bind_eq_some_iff] at hc
   obtain ⟨b, hd, he⟩ := hc
   cases he
   rw [bfA_eq hd]
   simp only [Bool.and_eq_true, decide_eq_true_eq] at ht
   exact CallOK.pure (by kernel_rfl) (by simp only [belL, AV.bel, Bf.bel, Bool.and_self]) (tkA_bel _) (w23 b _ ht.1 ht.2.1 ht.2.2) _ _
 · cases hc
end Go.Proofs.Jit
end
section
/- The reference's Take. -/
namespace Go.Proofs.Jit
open Go.Ab
set_option maxRecDepth 100000
set_option maxHeartbeats 4000000
set_option linter.unusedSimpArgs false
set_option linter.unusedVariables false
end Go.Proofs.Jit
end
