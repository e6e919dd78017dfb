/- Texts laid as one: FlzC8 FlzC9. -/
import Derived.Test.YtlokbfkdgnopeaaGreatDoorFlzCb
section
/- The iterator over a message's pieces. -/
namespace Go.Proofs.Flz
open Go.Ab Go.Proofs.Flt
set_option maxRecDepth 100000
set_option maxHeartbeats 4000000
set_option linter.unusedSimpArgs false
set_option linter.unusedVariables false
theorem appL_sn {pn : Option Value} {v : AV} {n : Nat} {rd : List Nat} {b : Nat} {k : Blk} {x : Nat × Blk} {h : Hp} : (Eff.mk v n rd [(b, some k)] [x] pn).appL h = hset (x :: h) b k := (rfl)
theorem appL_sgn {pn : Option Value} {v : AV} {n : Nat} {rd : List Nat} {b c : Nat} {k : Blk} {x : Nat × Blk} {h : Hp} : (Eff.mk v n rd [(b, some k), (c, none)] [x] pn).appL h = hset (hdel (x :: h) c) b k := (rfl)
attribute [go_sem ↓] appL_sn appL_sgn
def pK (x : Nt) (sz k : Nat) : Pc := ⟨x.kd, x.bd.length, x.sq, (min (k * sz) x.bd.length : Nat), if k = 0 then [] else (cutP x sz (k - 1)).pt⟩
def cL (x : Nt) (sz k : Nat) : List (List UInt8) := mapN (fun k => pcO (cutP x sz k)) k
def hK (x : Nt) (sz k : Nat) : Hp := if k = 0 then hP x (sz : Int) .ns [] else hP x (sz : Int) (.sg 5 0 k) (lS 5 (cL x sz k))
theorem pcB_of {p : Pc} (h1 : 0 ≤ p.kd) (h2 : 0 ≤ p.ln) (h3 : 0 ≤ p.sq) (h4 : 0 ≤ p.ofs) (h5 : p.pt.length ≤ 1000000) : pcB p = true := by simp [pcB, h1, h2, h3, h4, h5]
theorem cutN_lt {n sz k : Nat} (hs : 1 ≤ sz) (h : k < cutN n sz) : k = 0 ∨ k * sz < n := by
 unfold cutN at h
 split at h
 · omega
 · right
   have h1 : (k + 1) * sz ≤ n + sz - 1 := by
    have := Nat.div_mul_le_self (n + sz - 1) sz
    have h2 : (k + 1) * sz ≤ (n + sz - 1) / sz * sz := Nat.mul_le_mul_right _ h
    omega
   rw [Nat.succ_mul] at h1; omega
theorem cutN_ge {n sz : Nat} (hs : 1 ≤ sz) : 0 < cutN n sz ∧ n ≤ cutN n sz * sz ∧ cutN n sz ≤ n + 1 := by
 unfold cutN
 split
 · omega
 · have h1 := Nat.lt_div_mul_add (a := n + sz - 1) (b := sz) (by omega)
   have h2 := Nat.div_le_self (n + sz - 1) sz
   have h3 : (n + sz - 1) / sz ≤ n := by
    rw [Nat.div_le_iff_le_mul_add_pred (by omega)]
    have : n ≤ sz * n := Nat.le_mul_of_pos_left _ (by omega)
    omega
   refine ⟨Nat.div_pos (by omega) (by omega), by omega, by omega⟩
theorem w76 {L : Nat} {r : Go.Loop} (hY : YBc L r) (x : Nt) (sz m : Nat) (hx : noteB x = true) (hsz : 1 ≤ sz ∧ sz ≤ 1100) (hm : cutN x.bd.length sz = m) :
 FTL Tryz.prog 76 [yv L r, .p 2 0, .p 3 0] (hP x (sz : Int) .ns []) 4 (.tup []) (hP x (sz : Int) (.sg 4 0 m) (lS 4 (cL x sz m))) 5 := by
 simp only [noteB, Bool.and_eq_true, decide_eq_true_eq] at hx
 obtain ⟨x1, x2, x3⟩ := hx
 have x1 := inW_t x1
 have x2 := inW_t x2
 obtain ⟨hm0, hm1, hm2⟩ := cutN_ge (n := x.bd.length) (sz := sz) hsz.1
 rw [hm] at hm0 hm1 hm2
 have hlt0 := fun k h => cutN_lt (n := x.bd.length) (sz := sz) (k := k) hsz.1 h
 rw [hm] at hlt0
 refine FTL.of_iw (cx := cxT []) Sound.nil mo Tryz.func76 i76_eq (by simp [i76]) (iw_of_jw ?_)
 dsimp only [i76]
 have hcl : ∀ k, (cL x sz k).length = k := fun k => mapN_len k
 have hR : ∀ k, HpR 6 [] ((4, { cells := (pK x sz k).l }) :: hK x sz k) ((4, { cells := (pK x sz k).l }) :: hK x sz k) := fun k => by
  unfold hK
  split
  · simp (maxSteps := 400000) only [go_sem, hP, lS, Nt.l, Pc.l, Blk.ren, AV.ren, renL, AV.bel, belL, nblt, srB, srR, simprocAttr]
  · simp (maxSteps := 400000) only [go_sem, hP, lS, Nt.l, Pc.l, Blk.ren, AV.ren, renL, AV.bel, belL, nblt, srB, srR, simprocAttr]
 have hK0 : hP x (sz : Int) .ns [] = hK x sz 0 := rfl
 have hp0 : (pK x sz 0).l = [.i .i64 x.kd, .i .i64 (x.bd.length : Int), .i .i64 x.sq, .i .i64 0, .s []] := by simp [pK, Pc.l]
 have hR0 := hR 0
 rw [← hK0, hp0] at hR0
 simp only [hP, Nt.l] at hR0 ⊢
 simp (maxSteps := 400000) only [go_sem, simprocAttr]
 refine Loop.stepX (F := ⟨Tryz.prog, cxT [], [21, 38], 46, 4⟩) mo (X := Nat) (fun k => k ≤ m) (fun k => m + 1 - k)
  (fun k => [(0, yv L r), (1, .p 2 0), (2, .p 3 0), (4, .p 4 0), (5, .b (k == 0))]) (fun k => (4, { cells := (pK x sz k).l }) :: hK x sz k) 6 0 (fun k => k + 1) [] (fun _ => [(5, 12)]) (by decide) (by decide) (fun _ => by decide) (Nat.zero_le _) ?_ ?_ (fun k hk => ?_)
 · have z : ((0 : Nat) == 0) = true := rfl
   simp (maxSteps := 400000) only [go_sem, z, yv, AV.ren, renL, AV.bel, belL, nblt, simprocAttr]
 · rw [hp0]; exact hR0
 have hpl : (pK x sz k).l = [.i .i64 x.kd, .i .i64 (x.bd.length : Int), .i .i64 x.sq, .i .i64 ((min (k * sz) x.bd.length : Nat) : Int), .s (if k = 0 then [] else (cutP x sz (k - 1)).pt)] := rfl
 by_cases hlt : k < m
 · -- a piece
   have hcp : pcB (cutP x sz k) = true := by
    refine pcB_of (p := cutP x sz k) (show 0 ≤ x.kd by omega) (show (0 : Int) ≤ (x.bd.length : Int) by omega) (show 0 ≤ x.sq by omega) (show (0 : Int) ≤ ((k * sz : Nat) : Int) by omega) ?_
    show (List.take sz (List.drop (k * sz) x.bd)).length ≤ 1000000
    rw [List.length_take, List.length_drop]; omega
   have hko : min (k * sz) x.bd.length = k * sz := by
    rcases hlt0 k hlt with h | h
    · subst h; simp
    · omega
   have hle : k * sz ≤ x.bd.length := by omega
   have hptl : (cutP x sz k).pt.length = min sz (x.bd.length - k * sz) := by rw [cutP, List.length_take, List.length_drop]
   have hn1 : hK x sz (k + 1) = hP x (sz : Int) (.sg 5 0 (k + 1)) (lS 5 (cL x sz (k + 1))) := rfl
   obtain ⟨o, ho⟩ : ∃ o, o = k * sz := ⟨_, rfl⟩
   obtain ⟨o1, ho1⟩ : ∃ o1, o1 = min (o + sz) x.bd.length := ⟨_, rfl⟩
   have hpn : (pK x sz (k + 1)).l = [.i .i64 x.kd, .i .i64 (x.bd.length : Int), .i .i64 x.sq, .i .i64 (o1 : Int), .s (cutP x sz k).pt] := by
    have e : o1 = min ((k + 1) * sz) x.bd.length := by rw [ho1, ho, Nat.succ_mul]
    rw [e]; simp [pK, Pc.l]
   have hcl1 : cL x sz (k + 1) = cL x sz k ++ [pcO (cutP x sz k)] := rfl
   have hcpl : (cutP x sz k).l = [.i .i64 x.kd, .i .i64 (x.bd.length : Int), .i .i64 x.sq, .i .i64 (o : Int), .s (cutP x sz k).pt] := by rw [ho]; rfl
   have hpe : List.take (o1 - o) (List.drop o x.bd) = (cutP x sz k).pt := by
    rw [ho1, ho]
    show _ = List.take sz (List.drop (k * sz) x.bd)
    rcases Nat.le_total (k * sz + sz) x.bd.length with h | h
    · rw [Nat.min_eq_left h, Nat.add_sub_cancel_left]
    · rw [Nat.min_eq_right h, List.take_of_length_le (by rw [List.length_drop]; omega), List.take_of_length_le (by rw [List.length_drop]; omega)]
   have hpe2 : List.drop o (List.take o1 x.bd) = (cutP x sz k).pt := by rw [List.drop_take]; exact hpe
   rw [← ho] at hko hle hptl
   have w1 : IntKind.i64.wrap ((o : Int) + (sz : Int)) = ((o + sz : Nat) : Int) := by rw [wrapL (by omega) (by omega)]; omega
   have w2 : IntKind.i64.wrap ((o : Int) + ((cutP x sz k).pt.length : Int)) = (o1 : Int) := by
    rw [hptl, wrapL (by omega) (by omega)]; omega
   have mn : min ((o + sz : Nat) : Int) (x.bd.length : Int) = (o1 : Int) := by omega
   have d1 : decide (0 ≤ (o : Int) ∧ (o : Int) ≤ (o1 : Int) ∧ (o1 : Int) ≤ (x.bd.length : Int)) = true := decide_eq_true (by omega)
   have d2 : decide ((o : Int) ≤ (o1 : Int) ∧ (o1 : Int) ≤ (x.bd.length : Int)) = true := decide_eq_true (by omega)
   have hsk : m + 1 - (k + 1) < m + 1 - k := by omega
   have hk1 : k + 1 ≤ m := hlt
   have kz : (k + 1 == 0) = false := by simp
   rw [← ho] at hpl
   rw [hpl, hko, hn1, hpn]
   by_cases hk0 : k = 0
   · subst hk0
     have hc := callZ hY x (sz : Int) (cutP x sz 0) hcp { cells := (cutP x sz 0).l }
     refine ⟨_, cx1_sound hc, ?_⟩
     have e0 : hK x sz 0 = hP x (sz : Int) .ns [] := rfl
     rw [e0, hcl1]
     have ec : cL x sz 0 = [] := rfl
     rw [ec, List.nil_append]
     have z : ((0 : Nat) == 0) = true := rfl
     rw [hcpl]
     generalize (cutP x sz 0).pt = part at *
     generalize pcO (cutP x sz 0) = oct at *
     have hoB : ∀ j, belL j (strR oct) = true := fun j => rfl
     have hoR : ∀ ψ, renL ψ (strR oct) = strR oct := fun ψ => rfl
     obtain ⟨kd, sq, bd⟩ := x
     dsimp only at *
     simp (maxSteps := 400000) only [go_sem, cx1_at, hP, lS, yv, z, w1, w2, mn, hpe2, d1, d2, hsk, hk1, kz, Nt.l, Blk.ren, AV.ren, renL, AV.bel, belL, nblt, srB, srR, rows_cons, rows_nil, hoB, hoR, List.append_nil, simprocAttr]
     omega
   · have hc := callG hY x (sz : Int) (cutP x sz k) hcp (cL x sz k) (by rw [hcl]; omega) { cells := (cutP x sz k).l }
     have ek : hK x sz k = hP x (sz : Int) (.sg 5 0 k) (lS 5 (cL x sz k)) := if_neg hk0
     rw [hcl, ← hcl1] at hc
     refine ⟨_, cx1_sound hc, ?_⟩
     have z : (k == 0) = false := by simpa using hk0
     have d3 : decide ((o : Int) < (x.bd.length : Int)) = true := decide_eq_true (by rcases hlt0 k hlt with h | h <;> omega)
     rw [ek, hcpl, if_neg hk0]
     generalize (cutP x sz (k - 1)).pt = part0 at *
     generalize (cutP x sz k).pt = part at *
     generalize pcO (cutP x sz k) = oct at *
     generalize cL x sz (k + 1) = l1 at *
     generalize cL x sz k = l0 at *
     generalize cL x sz m = lm at *
     obtain ⟨kd, sq, bd⟩ := x
     dsimp only at *
     simp (maxSteps := 400000) only [go_sem, cx1_at, hP, lS, yv, z, w1, w2, mn, hpe2, d1, d2, d3, hsk, hk1, kz, Nt.l, Blk.ren, AV.ren, renL, AV.bel, belL, nblt, srB, srR, simprocAttr]
     omega
 · obtain rfl : k = m := by omega
   have hk0 : k ≠ 0 := by omega
   have ek : hK x sz k = hP x (sz : Int) (.sg 5 0 k) (lS 5 (cL x sz k)) := if_neg hk0
   refine ⟨_, Sound.nil, ?_⟩
   have z : (k == 0) = false := by simpa using hk0
   have o1 : min (k * sz) x.bd.length = x.bd.length := by omega
   have d3 : decide ((x.bd.length : Int) < (x.bd.length : Int)) = false := decide_eq_false (by omega)
   rw [hpl, ek, o1]
   generalize (if k = 0 then [] else (cutP x sz (k - 1)).pt) = part0 at *
   generalize cL x sz k = l0 at *
   obtain ⟨kd, sq, bd⟩ := x
   dsimp only at *
   simp (maxSteps := 400000) only [go_sem, hP, lS, z, d3, Nt.l, simprocAttr]
   refine Ends.R [(4, 5)] (by decide) (by decide) rfl rfl ?_
   simp (maxSteps := 400000) only [go_sem, hP, lS, Blk.ren, AV.ren, renL, AV.bel, belL, nblt, srB, srR, Nt.l, simprocAttr]
end Go.Proofs.Flz
end
section
/- Contracts: pieces, Cut. -/
namespace Go.Proofs.Flz
open Go.Ab Go.Proofs.Flt
set_option maxRecDepth 100000
set_option maxHeartbeats 4000000
set_option linter.unusedSimpArgs false
set_option linter.unusedVariables false
theorem nt_t3 (x : Nt) : List.take 3 x.l = x.l := rfl
def ctV (r : List (List UInt8) × Int) : AV := .tup [.fz (rows strR r.1) r.1.length, .i .i64 r.2]
theorem ctV_bel (r : List (List UInt8) × Int) : (ctV r).bel 0 = true := by simp only [ctV, AV.bel, belL, srB, Bool.and_self]
theorem cov_n {e : Int} {h : Hp} {n : Nat} : CovS 0 (.tup [.ns, .i .i64 e]) h n (ctV ([], e)) [] 0 := by
 refine CovS.frzN (l := []) (v' := ctV ([], e)) (FzV.tup ⟨FzV.hit, FzV.refl, trivial⟩) ?_
 exact CovS.ends (Ends.pureE (ctV_bel _) rfl)
theorem cov_g {e : Int} {h : Hp} {n j : Nat} {l : List (List UInt8)} (hk : hget h j = some { cells := rows strR l, gr := some 1 }) : CovS 0 (.tup [.sg j 0 l.length, .i .i64 e]) h n (ctV (l, e)) [] 0 := by
 refine CovS.frz (b := j) (k := { cells := rows strR l, gr := some 1 }) (h' := []) (o := 0) (m := l.length) (cs := rows strR l) (v' := ctV (l, e)) hk rfl (.inr rfl) (.inl rfl) (FzV.tup ⟨FzV.hit, FzV.refl, trivial⟩) (fun c kk hc => by simp [hget] at hc) ?_
 exact CovS.ends (Ends.pureE (ctV_bel _) rfl)
abbrev iT10 : ICode := (.seq (.reg i10r11) .ret)
theorem rf7 (x : Nt) (sz m : Nat) (hx : noteB x = true) (hsz : 1 ≤ sz ∧ sz ≤ 1100) (hm : cutN x.bd.length sz = m) (R : List (List UInt8) × Int) (hR : R = (cL x sz m, 0)) :
 Seam F7 (.block 1 (.rfunc (.t 21) [22] i10a9 i10b9)) (thenK (retK [.t 4, .t 5] fun v h' n' => CovS 0 v h' n' (ctV R) [] 0) (Seam F7 iT10 (retK [.t 4, .t 5] fun v h' n' => CovS 0 v h' n' (ctV R) [] 0)))
  [(6, .p 1 0), (21, .fn 76 [.p 2 0, .p 3 0])] (hP x (sz : Int) .ns []) 4 := by
 refine Seam.block ?_
 have hcl : (cL x sz m).length = m := mapN_len m
 refine RFunc.intro (F := F7) (n' := 5) (v' := .tup []) (h' := hP x (sz : Int) (.sg 4 0 m) (lS 4 (cL x sz m))) hTC7 mo [6] [.p 1 0] rfl (by kernel_rfl) rfl rfl rfl (fun i t a h1 h2 => ?_) (fun L r hY => ?_) (fun b k hb => ?_) (by decide) ?_
 · match i with
   | 0 => simp at h1 h2; subst h1; subst h2; rfl
   | i + 1 => simp at h1
 · exact w76 (fun cs as' h1 n1 h2 n2 q1 q2 q3 q4 q5 => hY cs as' h1 n1 h2 n2 q1 q2 q3 q4 q5) x sz m hx hsz hm
 · refine nylH_spec ?_ hb
   simp only [nylH, hP, lS, nylL, AV.nyl, rows_nyl str_nyl, nt_nyl, Bool.and_self]
 · show Seam F7 iT10 _ _ _ _
   refine Seam.run (F := F7) hTC7 mo ?_
   dsimp only [F7, TC7]
   generalize hq : cL x sz m = l at *
   subst hcl
   simp (maxSteps := 400000) only [go_sem, hP, lS, simprocAttr]
   rw [hR]
   exact cov_g rfl
theorem w10 (x : Nt) (sz : Int) : FTL Tryz.prog 10 [.agg x.l, .i .i64 sz] [] 0 (ctV (cutS x sz)) [] 0 := by
 have hck : ∀ (h : Hp) n, k12 [.agg x.l] h n = some (true, { v := .i .i64 (if noteB x then 0 else 190), n }) := fun h n => by simp only [k12, nt3_l, Option.bind_some]
 have hpc : ∀ (h : Hp) n, k44 [.agg x.l, .i .i64 sz] h n = some (true, { v := .fn 76 [.p n 0, .p (n + 1) 0], n := n + 2, nw := [(n, { cells := x.l }), (n + 1, { cells := [.i .i64 sz] })] }) := fun h n => by simp only [k44, nt3_l, Option.bind_some]
 refine FTL.of_seamC (cx := cxT TC7) Tryz.func10 i10_eq (by simp [i10]) ?_
 dsimp only [i10]
 refine Seam.part (F := F7) hTC7 mo ?_
 dsimp only [F7, TC7]
 simp (maxSteps := 400000) only [go_sem, simprocAttr]
 refine Seam.part (F := F7) hTC7 mo ?_
 dsimp only [F7, TC7]
 cases a : noteB x
 · have hR : cutS x sz = ([], 190) := by simp only [cutS, a, cond_false]
   rw [hR]
   simp (maxSteps := 400000) only [go_sem, List.drop_zero, nt_t3, Nt.len, hck, a, Bool.false_eq_true, simprocAttr]
   exact cov_n
 cases b1 : decide (sz < 1)
 rotate_left
 · have hR : cutS x sz = ([], 2) := by
    have : inW (sz - 1) 1099 = false := by
     have := of_decide_eq_true b1
     simp only [inW, Bool.and_eq_false_iff, decide_eq_false_iff_not]; omega
    simp only [cutS, a, this, cond_true, cond_false]
   rw [hR]
   simp (maxSteps := 400000) only [go_sem, List.drop_zero, nt_t3, Nt.len, hck, a, b1, simprocAttr]
   exact cov_n
 cases b2 : decide (sz > 1100)
 rotate_left
 · have hR : cutS x sz = ([], 2) := by
    have : inW (sz - 1) 1099 = false := by
     have := of_decide_eq_true b2
     simp only [inW, Bool.and_eq_false_iff, decide_eq_false_iff_not]; omega
    simp only [cutS, a, this, cond_true, cond_false]
   rw [hR]
   simp (maxSteps := 400000) only [go_sem, List.drop_zero, nt_t3, Nt.len, hck, a, b1, b2, simprocAttr]
   exact cov_n
 have h1 := of_decide_eq_false b1
 have h2 := of_decide_eq_false b2
 have hR : cutS x sz = (cL x sz.toNat (cutN x.bd.length sz.toNat), 0) := by
  simp only [cutS, a, inW_of (show 0 ≤ sz - 1 ∧ sz - 1 ≤ 1099 by omega), cond_true]; rfl
 generalize cutS x sz = R at *
 simp (maxSteps := 400000) only [go_sem, List.drop_zero, nt_t3, Nt.len, hck, a, b1, b2, simprocAttr]
 refine Seam.part (F := F7) hTC7 mo ?_
 dsimp only [F7, TC7]
 simp (maxSteps := 400000) only [go_sem, simprocAttr]
 refine Seam.seq ?_
 refine Seam.part (F := F7) hTC7 mo ?_
 dsimp only [F7, TC7]
 simp (maxSteps := 400000) only [go_sem, List.drop_zero, nt_t3, Nt.len, hpc, simprocAttr]
 obtain ⟨s, rfl⟩ : ∃ s : Nat, sz = (s : Int) := ⟨sz.toNat, by omega⟩
 refine Seam.ren [] (rf7 x s _ a (by omega) rfl R (by rw [hR, Int.toNat_natCast])) (by decide) (by decide) ?_ ?_
 · simp (maxSteps := 400000) only [go_sem, AV.ren, renL, AV.bel, belL, nblt, simprocAttr]
 · obtain ⟨kd, sq, bd⟩ := x
   simp (maxSteps := 400000) only [go_sem, hP, Nt.l, Blk.ren, AV.ren, renL, AV.bel, belL, nblt, simprocAttr]
def k10 : Ct
 | [.agg c, .i .i64 sz], _, n => (nt3 c).bind fun x => some (true, { v := ctV (cutS x sz), n })
 | _, _, _ => none
theorem s10 : SoundAt Tryz.prog 10 k10 := fun args h n c E hc ht => by
 unfold k10 at hc
 split at hc
 · simp only [Option.bind_eq_some_iff] at hc
   obtain ⟨x, hx, he⟩ := hc
   cases he
   rw [nt3_eq hx]
   exact CallOK.pure (by kernel_rfl) rfl (ctV_bel _) (w10 x _) _ _
 · cases hc
end Go.Proofs.Flz
end
