/- Texts laid as one: ResM9 ResM10. -/
import Derived.Test.YthnmkedknannhaaResMc
import Derived.Test.YthnmkedknannhaaResMb
import Derived.Test.YthnmkedknannhaaResD1
section
/- The contract of old. -/
namespace Go.Proofs.Res
open Go.Ab
set_option maxRecDepth 100000
set_option maxHeartbeats 4000000
set_option linter.unusedSimpArgs false
set_option linter.unusedVariables false
def TM82 : List (Nat × Ct) := [(52, k52), (96, k96)]
theorem hTM82 : Sound Try.prog (cxT TM82) := Sound.cons s52 (Sound.cons s96 Sound.nil)
theorem w82 (h : Hs) (now : Int) (hl : h.l.length ≤ 1000000000000) : FTL Try.prog 82 [.agg h.a, .i .i64 now] [] 0 (.i .i64 (lateH h now)) [] 0 := by
 have hha := hsA_a h
 have hll : decide (h.l.length ≤ 1000000000000) = true := decide_eq_true hl
 have hk : ∀ (hp : Hp) n, k96 [.agg h.a] hp n = some (true, { v := .b (goodH h), n }) := fun hp n => by simp only [k96, hha, Option.bind_some, hll]
 have hR : lateH h now = bif goodH h then (bif inI h.ti 1099511627776 now then 0 else 2) else 281 := rfl
 generalize lateH h now = R at *
 generalize goodH h = g at *
 obtain ⟨ti, ss, ty, nx, l⟩ := h
 dsimp only at hR
 simp only [Hs.a] at hk ⊢
 refine FTL.of_iw hTM82 mo Try.func82 i82_eq (by simp [i82]) (iw_of_jw ?_)
 dsimp only [i82, TM82]
 cases g
 · simp (maxSteps := 400000) only [go_sem, hk, simprocAttr]
   exact Ends.pureE rfl (by rw [hR]; rfl)
 · cases a1 : inI ti 1099511627776 now
   all_goals
    rw [a1] at hR
    simp (maxSteps := 400000) only [go_sem, hk, k52, a1, simprocAttr]
    exact Ends.pureE rfl (by rw [hR]; rfl)
def k82 : Ct
 | [.agg c, .i .i64 now], _, n => (hsA c).bind fun h => some (decide (h.l.length ≤ 1000000000000), { v := .i .i64 (lateH h now), n })
 | _, _, _ => none
theorem s82 : SoundAt Try.prog 82 k82 := fun args h n c E hc ht => by
 unfold k82 at hc
 split at hc
 · simp only [Option.bind_eq_some_iff] at hc
   obtain ⟨hs, hd, he⟩ := hc
   cases he
   rw [hsA_eq hd]
   exact CallOK.pure (by kernel_rfl) (by simp only [belL, AV.bel, Hs.bel, Bool.and_self]) rfl (w82 hs _ (of_decide_eq_true ht)) _ _
 · cases hc
end Go.Proofs.Res
end
section
/- The contract of the reference's Keep. -/
namespace Go.Proofs.Res
open Go.Ab
set_option maxRecDepth 100000
set_option maxHeartbeats 4000000
set_option linter.unusedSimpArgs false
set_option linter.unusedVariables false
theorem gKp (q : List Kp) : (gQ Kp.l 11 q).plain = true := (gQ_is (f := Kp.l) Kp.bel Kp.len q).pl
theorem gKcap (q : List Kp) : (gQ Kp.l 11 q).capOK := by unfold gQ; split <;> trivial
def TM95 : List (Nat × Ct) := [(53, k53)]
theorem hTM95 : Sound Try.prog (cxT TM95) := Sound.cons s53 Sound.nil
theorem w95 (a b : Int) (ha : inI 0 65535 a = true) (hb : inI 0 65535 b = true) : FTL Try.prog 95 [.i .i64 a, .i .i64 b] [] 0 (.b (decide (lead a b > 0))) [] 0 := by
 refine FTL.of_iw hTM95 mo Try.func95 i95_eq (by simp [i95]) (iw_of_jw ?_)
 dsimp only [i95, TM95]
 simp (maxSteps := 400000) only [go_sem, k53, ha, hb, simprocAttr]
 exact Ends.pureE rfl rfl
def k95 : Ct
 | [.i .i64 a, .i .i64 b], _, n => some (inI 0 65535 a && inI 0 65535 b, { v := .b (decide (lead a b > 0)), n })
 | _, _, _ => none
theorem s95 : SoundAt Try.prog 95 k95 := fun args h n c E hc ht => by
 unfold k95 at hc
 split at hc
 · cases hc
   simp only [Bool.and_eq_true] at ht
   exact CallOK.pure (by kernel_rfl) rfl rfl (w95 _ _ ht.1 ht.2) _ _
 · cases hc
theorem covH_q {ti ss ty nx e : Int} {h : Hp} {n : Nat} {q : List Kp} {b : Nat} (hk : hasS h (gQ Kp.l 11 q) b) : CovS 0 (.tup [.agg [.i .i64 ti, .i .i64 ss, .i .i64 ty, .i .i64 nx, (gQ Kp.l 11 q).v b], .i .i64 e]) h n (rsH (⟨ti, ss, ty, nx, q⟩, e)) [] 0 := by
 refine CovS.frzS (h' := []) (v' := rsH (⟨ti, ss, ty, nx, q⟩, e)) (gQ_is (f := Kp.l) Kp.bel Kp.len q) (gQ_fresh q) (gKcap q) hk (FzV.tup ⟨FzV.agg ⟨FzV.refl, FzV.refl, FzV.refl, FzV.refl, FzV.hit, trivial⟩, FzV.refl, trivial⟩) (fun c kk hc => by simp [hget] at hc) ?_
 exact CovS.ends (Ends.pureE (rsH_bel _) rfl)
def TM81 : List (Nat × Ct) := [(53, k53), (82, k82), (87, k87), (95, k95)]
theorem hTM81 : Sound Try.prog (cxT TM81) := Sound.cons s53 (Sound.cons s82 (Sound.cons s87 (Sound.cons s95 Sound.nil)))
abbrev hM81 (ti ss ty nx : Int) (l : List Kp) (P : List AV) (q : List Kp) : Hp := (gQ Kp.l 11 q).h 3 ++ [(2, { cells := [.i .i64 0, .i .i64 0, .i .i64 0, .i .i64 0, .ns] }), (1, { cells := P }), (0, { cells := [.i .i64 ti, .i .i64 ss, .i .i64 ty, .i .i64 nx, .fz (rows Kp.l l) l.length] })]
theorem loop81 (ti ss ty nx now lq d : Int) (l : List Kp) (hl : l.length ≤ 64) (hnow : inI 0 1099511627776 now = true) (hlp : ∀ x ∈ l, okK x = true) (hlq : inI 0 65535 lq = true)
 (ma : Bool) (pty sq tm pss pd : Int) (cs : List Int) (xs : List Xt) (pl : List UInt8) (hsq : inI 0 65535 sq = true) (hd : lead sq lq = d) (hlast : 0 < l.length → (rows Kp.l l)[(l.length - 1) * 11 + 2]? = some (.i .i64 lq)) {K : Kont} {e : Env} {h : Hp} {n : Nat}
 (he : EnvR 4 [] e [(1, .i .i64 now), (3, .p 0 0), (5, .p 1 0), (6, .p 2 0), (9, .i .i64 (l.length : Int)), (10, (gQ Kp.l 11 []).v 3), (11, .i .i64 0)])
 (hh : HpR 4 [] h (hM81 ti ss ty nx l (Md.l ⟨ma, pty, sq, tm, pss, cs, xs, pd, pl⟩) []))
 (hK : ∀ e', eget e' 1 = some (.i .i64 now) → eget e' 3 = some (.p 0 0) → eget e' 5 = some (.p 1 0) → eget e' 6 = some (.p 2 0) → eget e' 10 = some ((gQ Kp.l 11 (keepK now lq d l)).v 3) → K (.exit 0) e' (hM81 ti ss ty nx l (Md.l ⟨ma, pty, sq, tm, pss, cs, xs, pd, pl⟩) (keepK now lq d l)) 4) :
 Ab.Loop Try.prog [18, 23, 43, 47, 84, 95] 108 0 i81l17 K e h n := by
 have hcB : ∀ j, belL j (rows int1 cs) = true := fun j => csB j cs
 have hxB : ∀ j, belL j (rows xtR xs) = true := fun j => xsB j xs
 have hcR : ∀ g, renL g (rows int1 cs) = rows int1 cs := fun g => renL_fix0 _ (rows_bel int1_bel)
 have hxR : ∀ g, renL g (rows xtR xs) = rows xtR xs := fun g => renL_fix0 _ (rows_bel xtR_bel)
 have hnow := inI_t hnow
 simp only [Md.l] at hh hK
 refine Loop.stepR (F := ⟨Try.prog, cxT TM81, [18, 23, 43, 47, 84, 95], 108, 0⟩) hTM81 mo (X := Nat) (fun k => k ≤ l.length) (fun k => l.length - k)
  (fun k => [(1, .i .i64 now), (3, .p 0 0), (5, .p 1 0), (6, .p 2 0), (9, .i .i64 (l.length : Int)), (10, (gQ Kp.l 11 (keepK now lq d (l.take k))).v 3), (11, .i .i64 (k : Int))])
  (fun k => hM81 ti ss ty nx l [.b ma, .i .i64 pty, .i .i64 sq, .i .i64 tm, .i .i64 pss, .fz (rows int1 cs) cs.length, .fz (rows xtR xs) xs.length, .i .i64 pd, .s pl] (keepK now lq d (l.take k))) 4 0 (fun k => k + 1) []
  (fun k => match l[k]? with | some x => if goneK now lq d x then [] else [(3, 5)] | none => []) (by decide) (by decide) (fun k => by split <;> (try split) <;> decide) (Nat.zero_le _) he hh (fun k hk => ?_)
 dsimp only [TM81]
 by_cases hlt : k < l.length
 · have c1 : decide ((k : Int) < (l.length : Int)) = true := decide_eq_true (by omega)
   have c2 : decide (0 ≤ (k : Int) ∧ (k : Int) < (l.length : Int)) = true := decide_eq_true (by omega)
   have hw : IntKind.i64.wrap ((k : Int) + 1) = ((k + 1 : Nat) : Int) := by rw [wrapL (by omega) (by omega)]; omega
   have hw2 : IntKind.i64.wrap ((l.length : Int) - 1) = ((l.length - 1 : Nat) : Int) := by rw [wrapL (by omega) (by omega)]; omega
   have c3 : decide (0 ≤ ((l.length - 1 : Nat) : Int) ∧ ((l.length - 1 : Nat) : Int) < (l.length : Int)) = true := decide_eq_true (by omega)
   obtain ⟨x, hx⟩ : ∃ x, l[k]? = some x := ⟨_, List.getElem?_eq_getElem hlt⟩
   have hry := hlast (by omega)
   have hr := kp_at hx
   have hr2 : (rows Kp.l l)[k * 11 + 2]? = some (.i .i64 x.p.sq) := rows_get (f := Kp.l) (z := 11) (j := 2) (v := .i .i64 x.p.sq) Kp.len hx rfl
   have hr9 : (rows Kp.l l)[k * 11 + 9]? = some (.i .i64 x.ti) := rows_get (f := Kp.l) (z := 11) (j := 9) (v := .i .i64 x.ti) Kp.len hx rfl
   have hxo := hlp x (List.mem_of_getElem? hx)
   simp only [okK, Bool.and_eq_true] at hxo
   obtain ⟨hxs, hxt⟩ := hxo
   have hxt := inI_t hxt
   have hk1 : ∀ (h : Hp) n, k53 [.i .i64 x.p.sq, .i .i64 lq, .i .i64 16] h n = some (true, { v := .i .i64 (lead x.p.sq lq), n }) := fun h n => by simp only [k53, hxs, hlq, Bool.and_self]
   have hk2 : ∀ (h : Hp) n, k53 [.i .i64 sq, .i .i64 lq, .i .i64 16] h n = some (true, { v := .i .i64 d, n }) := fun h n => by simp only [k53, hsq, hlq, Bool.and_self, hd]
   have hrg := lead_rng x.p.sq lq
   have hrg2 := lead_rng sq lq
   rw [hd] at hrg2
   have hg : goneK now lq d x = (decide (now - x.ti > 2000) || decide (lead x.p.sq lq - d < -16384)) := rfl
   have hwa : IntKind.i64.wrap (now - x.ti) = now - x.ti := wrapL (by omega) (by omega)
   have hwb : IntKind.i64.wrap (lead x.p.sq lq - d) = lead x.p.sq lq - d := wrapL (by omega) (by omega)
   have n1 : decide (now - x.ti ≤ 2000) = !decide (now - x.ti > 2000) := by rw [Bool.eq_iff_iff]; simp
   have n2 : decide (lead x.p.sq lq - d ≥ -16384) = !decide (lead x.p.sq lq - d < -16384) := by rw [Bool.eq_iff_iff]; simp
   have hsn : keepK now lq d (l.take (k + 1)) = keepK now lq d (l.take k) ++ (if !goneK now lq d x then [x] else []) := snoc_f (p := fun x => !goneK now lq d x) hx
   have hsk : l.length - (k + 1) < l.length - k := by omega
   have hfl : (keepK now lq d (l.take k)).length ≤ 64 := Nat.le_trans (List.length_filter_le _ _) (Nat.le_trans (List.length_take_le _ _) (by omega))
   rw [hsn, hx]
   dsimp only
   generalize keepK now lq d (l.take k) = q at *
   generalize lead x.p.sq lq = ld at *
   generalize goneK now lq d x = G at *
   have gm : decide (128 * (q.length + 1) ≤ growMax) = true := decide_eq_true (by simp only [growMax]; omega)
   have zR : (rows Kp.l q).length = q.length * 11 := rows_len Kp.len
   have pk := gKp q
   have pk' := gKp (q ++ [x])
   have hB1 := fun j => csB j x.p.cs
   have hB2 := fun j => xsB j x.p.xs
   cases b1 : decide (now - x.ti > 2000)
   · cases b2 : decide (ld - d < -16384)
     · rw [b1, b2] at hg
       subst hg
       simp only [Bool.or_self, Bool.not_false, if_true, if_false, Bool.false_eq_true, hM81]
       rw [gQ_snoc] at pk' ⊢
       obtain ⟨⟨xma, xty, xsq, xtm, xss, xcs, xxs, xpd, xpl⟩, xt, xa⟩ := x
       simp only [Kp.l] at pk' hr hr2 hr9
       simp (maxSteps := 400000) only [go_sem, c1, c2, c3, hw, hw2, hr, hr2, hr9, hry, hk1, hk2, hwa, hwb, n1, n2, b1, b2, gm, zR, pk, pk', hsk, hlt, AV.bel, belL, nblt, Blk.ren, renL, AV.ren, krB, krR, hcB, hxB, hcR, hxR, hB1, hB2, Kp.l, Nat.add_zero, simprocAttr]
       exact hlt
     · rw [b1, b2] at hg
       subst hg
       simp only [Bool.false_or, Bool.not_true, if_true, if_false, Bool.false_eq_true, List.append_nil, hM81]
       simp (maxSteps := 400000) only [go_sem, c1, c2, c3, hw, hw2, hr2, hr9, hry, hk1, hk2, hwa, hwb, n1, n2, b1, b2, pk, hsk, hlt, AV.bel, belL, nblt, Blk.ren, renL, AV.ren, krB, krR, hcB, hxB, hcR, hxR, Nat.add_zero, simprocAttr]
       exact hlt
   · rw [b1] at hg
     simp only [Bool.true_or] at hg
     subst hg
     simp only [Bool.not_true, if_true, if_false, Bool.false_eq_true, List.append_nil, hM81]
     simp (maxSteps := 400000) only [go_sem, c1, c2, c3, hw, hw2, hr2, hr9, hry, hk1, hk2, hwa, hwb, n1, n2, b1, pk, hsk, hlt, AV.bel, belL, nblt, Blk.ren, renL, AV.ren, krB, krR, hcB, hxB, hcR, hxR, Nat.add_zero, simprocAttr]
     exact hlt
 · have c1 : decide ((k : Int) < (l.length : Int)) = false := decide_eq_false (by omega)
   obtain rfl : k = l.length := by omega
   rw [List.take_length]
   generalize keepK now lq d l = q at *
   have pk := gKp q
   simp only [hM81]
   simp (maxSteps := 400000) only [go_sem, c1, pk, simprocAttr]
   exact hK _ rfl rfl rfl rfl rfl
theorem w81 (hs : Hs) (now : Int) (p : Md) (hl : hs.l.length ≤ 1000000000000) : FTL Try.prog 81 [.agg hs.a, .i .i64 now, .agg p.l] [] 0 (rsH (keepS hs now p)) [] 0 := by
 have hha := hsA_a hs
 have hll : decide (hs.l.length ≤ 1000000000000) = true := decide_eq_true hl
 have h9 := md9_l p
 have hk87 : ∀ (h : Hp) n, k87 [.agg p.l] h n = some (true, { v := .b (mdB p), n }) := fun h n => by simp only [k87, h9, Option.bind_some]
 have hk82 : ∀ (h : Hp) n, k82 [.agg hs.a, .i .i64 now] h n = some (true, { v := .i .i64 (lateH hs now), n }) := fun h n => by simp only [k82, hha, Option.bind_some, hll]
 have hgk := goodH_k (h := hs) (now := now)
 have hg64 : lateH hs now = 0 → hs.l.length ≤ 64 := fun h => goodH_len (lateH_0 h).1
 generalize hRR : keepS hs now p = R
 unfold keepS keptL stepK at hRR
 generalize lateH hs now = E at *
 have hmq := fun h => mdB_sq (p := p) h
 generalize mdB p = mb at *
 obtain ⟨ti, ss, ty, nx, l⟩ := hs
 obtain ⟨ma, pty, sq, tm, pss, cs, xs, pd, pl⟩ := p
 dsimp only at hRR hl hg64 hgk hmq
 simp only [Hs.a, Md.l] at hk82 hk87 ⊢
 refine FTL.of_cov (cx := cxT TM81) hTM81 mo Try.func81 i81_eq (by simp [i81]) (iw_of_jw ?_)
 dsimp only [i81, TM81]
 by_cases hE : E = 0
 rotate_left
 · have e1 : (E != 0) = true := by simp [bne, hE]
   rw [if_neg hE] at hRR
   simp (maxSteps := 400000) only [go_sem, hk82, e1, simprocAttr]
   rw [← hRR]
   exact covH_n
 subst hE
 simp only [if_true] at hRR
 obtain ⟨hok, hnow, hlq⟩ := hgk rfl
 have hl64 := hg64 rfl
 have hcB : ∀ j, belL j (rows int1 cs) = true := fun j => csB j cs
 have hxB : ∀ j, belL j (rows xtR xs) = true := fun j => xsB j xs
 have hcR : ∀ g, renL g (rows int1 cs) = rows int1 cs := fun g => renL_fix0 _ (rows_bel int1_bel)
 have hxR : ∀ g, renL g (rows xtR xs) = rows xtR xs := fun g => renL_fix0 _ (rows_bel xtR_bel)
 cases mb
 · simp (maxSteps := 400000) only [go_sem, hk82, hk87, simprocAttr]
   rw [← hRR]
   exact covH_n
 simp only [cond_true] at hRR
 have hpsq := hmq rfl
 have hlp : ∀ x ∈ l, okK x = true := fun x hx => by rw [List.all_eq_true] at hok; exact hok x hx
 have hrg := lead_rng sq (lastQ l)
 have hk95 : ∀ (h : Hp) n, k95 [.i .i64 sq, .i .i64 (lastQ l)] h n = some (true, { v := .b (decide (lead sq (lastQ l) > 0)), n }) := fun h n => by simp only [k95, hpsq, hlq, Bool.and_self]
 have hk53 : ∀ (h : Hp) n, k53 [.i .i64 sq, .i .i64 (lastQ l), .i .i64 16] h n = some (true, { v := .i .i64 (lead sq (lastQ l)), n }) := fun h n => by simp only [k53, hpsq, hlq, Bool.and_self]
 have hlast : 0 < l.length → (rows Kp.l l)[(l.length - 1) * 11 + 2]? = some (.i .i64 (lastQ l)) := fun h0 => by
  obtain ⟨y, hy⟩ : ∃ y, l[l.length - 1]? = some y := ⟨_, List.getElem?_eq_getElem (by omega)⟩
  have hlqy : lastQ l = y.p.sq := by simp only [lastQ, hy]
  rw [hlqy]
  exact rows_get (f := Kp.l) (z := 11) (j := 2) (v := .i .i64 y.p.sq) Kp.len hy rfl
 generalize hlqq : lastQ l = lq at *
 have hkx : ∀ x ∈ l, ∀ (h : Hp) n, k53 [.i .i64 x.p.sq, .i .i64 lq, .i .i64 16] h n = some (true, { v := .i .i64 (lead x.p.sq lq), n }) := fun x hx h n => by
  have := hlp x hx
  simp only [okK, Bool.and_eq_true] at this
  simp only [k53, this.1, hlq, Bool.and_self]
 generalize hd : lead sq lq = d at *
 have hstp : (bif decide (0 < l.length) then d else 0) = d ∨ l = [] := by
  cases l with
  | nil => exact .inr rfl
  | cons x r => left; rw [decide_eq_true (by simp)]; rfl
 have hkeep : keepK now lq (bif decide (0 < l.length) then d else 0) l = keepK now lq d l := by
  rcases hstp with h | h
  · rw [h]
  · rw [h]; rfl
 rw [hkeep] at hRR
 have n1 : decide (d > 0) = !decide (d ≤ 0) := by rw [Bool.eq_iff_iff]; simp
 have hql : (keepK now lq d l).length ≤ 64 := Nat.le_trans (List.length_filter_le _ _) hl64
 have lp := fun (K : Kont) (e : Env) (h : Hp) (n : Nat) => loop81 ti ss ty nx now lq d l hl64 hnow hlp hlq ma pty sq tm pss pd cs xs pl hpsq hd hlast (K := K) (e := e) (h := h) (n := n)
 simp only [Md.l] at lp
 generalize hq' : keepK now lq d l = q at *
 by_cases h0 : 0 < l.length
 · have c0 : decide ((l.length : Int) > 0) = true := decide_eq_true (by omega)
   have c0' : decide (0 < l.length) = true := decide_eq_true h0
   have hry := hlast h0
   have hw2 : IntKind.i64.wrap ((l.length : Int) - 1) = ((l.length - 1 : Nat) : Int) := by rw [wrapL (by omega) (by omega)]; omega
   have c3 : decide (0 ≤ ((l.length - 1 : Nat) : Int) ∧ ((l.length - 1 : Nat) : Int) < (l.length : Int)) = true := decide_eq_true (by omega)
   rw [c0'] at hRR
   simp only [Bool.true_and] at hRR
   cases b1 : decide (d ≤ 0)
   rotate_left
   · rw [b1] at hRR
     simp (maxSteps := 400000) only [go_sem, hk82, hk87, c0, c3, hry, hw2, hk95, n1, b1, simprocAttr]
     rw [← hRR]
     exact covH_n
   rw [b1] at hRR
   simp only [cond_false] at hRR
   simp (maxSteps := 400000) only [go_sem, hk82, hk87, c0, c3, hry, hw2, hk95, n1, b1, simprocAttr]
   refine lp _ _ _ _ ?_ ?_ (fun e' g1 g3 g5 g6 g10 => ?_)
   · simp (maxSteps := 400000) only [go_sem, gQ_nil, fv_n, AV.bel, belL, nblt, AV.ren, renL, simprocAttr]
   · simp (maxSteps := 400000) only [go_sem, hM81, gQ_nil, fh_n, AV.bel, belL, nblt, Blk.ren, AV.ren, renL, krB, krR, hcB, hxB, hcR, hxR, simprocAttr]
   ·
    have n64 : ((q.length : Int) == 64) = (q.length == 64) := by rw [Bool.eq_iff_iff]; simp; omega
    have pk := gKp q
    have zR : (rows Kp.l q).length = q.length * 11 := rows_len Kp.len
    have gm : decide (128 * (q.length + 1) ≤ growMax) = true := decide_eq_true (by simp only [growMax]; omega)
    cases b2 : (q.length == 64)
    · simp only [cut64, b2, cond_false] at hRR
      have pk' := gKp (q ++ [⟨⟨ma, pty, sq, tm, pss, cs, xs, pd, pl⟩, now, -1⟩])
      simp (maxSteps := 400000) only [go_sem, hM81, g1, g3, g5, g6, g10, gQ_len, n64, b2, gm, zR, pk, simprocAttr]
      rw [← hRR]
      have hq5 := (gQ_snoc (f := Kp.l) (z := 11) (l := q) (a := ⟨⟨ma, pty, sq, tm, pss, cs, xs, pd, pl⟩, now, -1⟩)).symm
      simp only [Kp.l] at hq5
      rw [hq5]
      exact covH_q (by rw [hasS_hit]; trivial)
    · have b2' : q.length = 64 := by simpa using b2
      simp only [cut64, b2, cond_true] at hRR
      have hrd := rows_drop Kp.len q 1
      have gm : decide (128 * 64 ≤ growMax) = true := rfl
      have gm' : decide (8192 ≤ growMax) = true := rfl
      rw [b2'] at zR n64
      have hgq : gQ Kp.l 11 q = .sg { cells := rows Kp.l q, gr := some 11 } 0 64 := by unfold gQ; rw [b2']; rfl
      simp only [hgq, hM81, fv_sg, fh_sg] at g10 ⊢
      simp (maxSteps := 400000) only [go_sem, g1, g3, g5, g6, g10, n64, b2', zR, gm, gm', simprocAttr]
      refine andB_i (decide_eq_true (Or.inr trivial)) ?_
      rw [← hRR]
      refine covH_g (C := rows Kp.l (q.drop 1) ++ [AV.b ma, .i .i64 pty, .i .i64 sq, .i .i64 tm, .i .i64 pss, .fz (rows int1 cs) cs.length, .fz (rows xtR xs) xs.length, .i .i64 pd, .s pl, .i .i64 now, .i .i64 (-1)]) ?_ ?_ ?_
      · rw [← hrd]; rfl
      · rw [rows_append]; rfl
      · simp [b2']
 · have hle : l = [] := List.eq_nil_of_length_eq_zero (by omega)
   subst hle
   have hqe : q = [] := hq'.symm
   subst hqe
   simp only [List.length_nil, Nat.lt_irrefl, decide_false, Bool.false_and, cond_false] at hRR
   simp only [List.length_nil] at lp hk82
   simp (maxSteps := 400000) only [go_sem, hk82, hk87, simprocAttr]
   refine lp _ _ _ _ ?_ ?_ (fun e' g1 g3 g5 g6 g10 => ?_)
   · simp (maxSteps := 400000) only [go_sem, gQ_nil, fv_n, AV.bel, belL, nblt, AV.ren, renL, simprocAttr]
   · simp (maxSteps := 400000) only [go_sem, hM81, gQ_nil, fh_n, AV.bel, belL, nblt, Blk.ren, AV.ren, renL, krB, krR, hcB, hxB, hcR, hxR, simprocAttr]
   ·
    have gm : decide (128 * (([] : List Kp).length + 1) ≤ growMax) = true := rfl
    have zR : (rows Kp.l ([] : List Kp)).length = ([] : List Kp).length * 11 := rfl
    have pk := gKp []
    have n64 : ((([] : List Kp).length : Int) == 64) = false := rfl
    simp (maxSteps := 400000) only [go_sem, hM81, g1, g3, g5, g6, g10, gQ_len, n64, gm, zR, pk, simprocAttr]
    refine andB_i (decide_eq_true (by decide)) ?_
    rw [← hRR]
    have hq5 := (gQ_snoc (f := Kp.l) (z := 11) (l := []) (a := ⟨⟨ma, pty, sq, tm, pss, cs, xs, pd, pl⟩, now, -1⟩)).symm
    simp only [Kp.l] at hq5
    rw [hq5]
    exact covH_q (by rw [hasS_hit]; trivial)
def k81 : Ct
 | [.agg c, .i .i64 now, .agg b], _, n => (hsA c).bind fun h => (md9 b).bind fun p => some (decide (h.l.length ≤ 1000000000000), { v := rsH (keepS h now p), n })
 | _, _, _ => none
theorem s81 : SoundAt Try.prog 81 k81 := fun args h n c E hc ht => by
 unfold k81 at hc
 split at hc
 · simp only [Option.bind_eq_some_iff] at hc
   obtain ⟨hs, hd, p, hp, he⟩ := hc
   cases he
   rw [hsA_eq hd, md9_eq hp]
   exact CallOK.pure (by kernel_rfl) (by simp only [belL, AV.bel, Hs.bel, Md.bel, Bool.and_self]) (rsH_bel _) (w81 hs _ p (of_decide_eq_true ht)) _ _
 · cases hc
end Go.Proofs.Res
end
