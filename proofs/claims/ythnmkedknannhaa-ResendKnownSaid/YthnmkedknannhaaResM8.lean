/- The contract of Keep. -/
import Derived.Test.YthnmkedknannhaaResM7
namespace Go.Proofs.Res
open Go.Ab
set_option maxRecDepth 100000
set_option maxHeartbeats 4000000
set_option linter.unusedSimpArgs false
set_option linter.unusedVariables false

def zH : Hs := ⟨0, 0, 0, 0, []⟩
def stepK (h : Hs) (p : Md) : Int := bif decide (0 < h.l.length) then lead p.sq (lastQ h.l) else 0
def cut64 (q : List Kp) : List Kp := bif q.length == 64 then q.drop 1 else q
def keptL (h : Hs) (now : Int) (p : Md) : List Kp := cut64 (keepK now (lastQ h.l) (stepK h p) h.l) ++ [⟨p, now, -1⟩]
def keepS (h : Hs) (now : Int) (p : Md) : Hs × Int :=
  if lateH h now = 0 then
    bif mdB p then bif decide (0 < h.l.length) && decide (lead p.sq (lastQ h.l) ≤ 0) then (zH, 10) else (⟨now, h.ss, h.ty, h.nx, keptL h now p⟩, 0)
    else (zH, 230)
  else (zH, lateH h now)
def rsH (r : Hs × Int) : AV := .tup [.agg r.1.a, .i .i64 r.2]
theorem rsH_bel (r : Hs × Int) : (rsH r).bel 0 = true := by simp only [rsH, AV.bel, belL, Hs.bel, Bool.and_self]
theorem covH_n {ti ss ty nx e : Int} {h : Hp} {n : Nat} : CovS 0 (.tup [.agg [.i .i64 ti, .i .i64 ss, .i .i64 ty, .i .i64 nx, .ns], .i .i64 e]) h n (rsH (⟨ti, ss, ty, nx, []⟩, e)) [] 0 := by
  refine CovS.frzN (l := []) (v' := rsH (⟨ti, ss, ty, nx, []⟩, e)) (FzV.tup ⟨FzV.agg ⟨FzV.refl, FzV.refl, FzV.refl, FzV.refl, FzV.hit, trivial⟩, FzV.refl, trivial⟩) ?_
  exact CovS.ends (Ends.pureE rfl rfl)
theorem covH_g {ti ss ty nx e : Int} {h : Hp} {n j m : Nat} {C : List AV} {l : List Kp} (hk : hget h j = some { cells := C, gr := some 11 }) (hC : C = rows Kp.l l) (hm : m = l.length) : CovS 0 (.tup [.agg [.i .i64 ti, .i .i64 ss, .i .i64 ty, .i .i64 nx, .sg j 0 m], .i .i64 e]) h n (rsH (⟨ti, ss, ty, nx, l⟩, e)) [] 0 := by
  subst hC hm
  refine CovS.frz (b := j) (k := { cells := rows Kp.l l, gr := some 11 }) (h' := []) (o := 0) (m := l.length) (cs := rows Kp.l l) (v' := rsH (⟨ti, ss, ty, nx, l⟩, e)) hk rfl (.inr rfl) (.inl rfl) (FzV.tup ⟨FzV.agg ⟨FzV.refl, FzV.refl, FzV.refl, FzV.refl, FzV.hit, trivial⟩, FzV.refl, trivial⟩) (fun c kk hc => by simp [hget] at hc) ?_
  exact CovS.ends (Ends.pureE (rsH_bel _) rfl)
theorem rows_drop {α : Type} {f : α → List AV} {z : Nat} (hf : ∀ a, (f a).length = z) : ∀ (l : List α) (m : Nat), (rows f l).drop (m * z) = rows f (l.drop m)
  | [], m => by simp [rows]
  | a :: l, 0 => by simp [rows]
  | a :: l, m + 1 => by
    have e : rows f (a :: l) = f a ++ rows f l := rfl
    rw [List.drop_succ_cons, e, ← rows_drop hf l m, List.drop_append]
    have h1 : List.drop ((m + 1) * z) (f a) = [] := List.drop_of_length_le (by rw [hf, Nat.succ_mul]; omega)
    have h2 : (m + 1) * z - (f a).length = m * z := by rw [hf, Nat.succ_mul]; omega
    rw [h1, h2, List.nil_append]
def TM33 : List (Nat × Ct) := [(51, k51), (67, k67), (68, k68), (69, k69)]
theorem hTM33 : Sound Try.prog (cxT TM33) := Sound.cons s51 (Sound.cons s67 (Sound.cons s68 (Sound.cons s69 Sound.nil)))
theorem goodH_k {h : Hs} {now : Int} (e : lateH h now = 0) : h.l.all okK = true ∧ inI 0 1099511627776 now = true ∧ inI 0 65535 (lastQ h.l) = true := by
  obtain ⟨hg, hn⟩ := lateH_0 e
  simp only [goodH, headH, Bool.and_eq_true] at hg
  obtain ⟨⟨h1, h2, h3⟩, h4, h5⟩ := hg
  have hn := inI_t hn
  have h1 := inI_t h1
  simp only [TT] at h1
  rw [List.all_eq_true] at h4
  have key : ∀ (l : List Kp) (f ld lq : Int), 0 ≤ f → chH h.ti lq f ld l = true → ∀ x ∈ l, 0 ≤ x.ti ∧ x.ti ≤ h.ti := by
    intro l
    induction l with
    | nil => intro f ld lq hf hc x hx; cases hx
    | cons y r ih =>
      intro f ld lq hf hc x hx
      simp only [chH, Bool.and_eq_true] at hc
      have := inI_t hc.1
      rcases List.mem_cons.1 hx with rfl | hx
      · omega
      · exact ih _ _ _ (by omega) hc.2.2.2 x hx
  refine ⟨List.all_eq_true.2 (fun x hx => ?_), inI_of (by omega), ?_⟩
  · have := key _ _ _ _ (Int.le_refl _) h5 x hx
    simp only [okK, mdB_sq (h4 x hx), Bool.true_and]
    exact inI_of (by omega)
  · unfold lastQ
    split
    · rename_i x hx
      exact mdB_sq (h4 x (List.mem_of_getElem? hx))
    · rfl
theorem w33 (hs : Hs) (now : Int) (p : Md) (hl : hs.l.length ≤ 1000000000000) (hf : finH hs = true) (hpf : p.fin = true) : FTL Try.prog 33 [.agg hs.a, .i .i64 now, .agg p.l] [] 0 (rsH (keepS hs now p)) [] 0 := by
  have hha := hsA_a hs
  have hll : decide (hs.l.length ≤ 1000000000000) = true := decide_eq_true hl
  have h9 := md9_l p
  have hk68 : ∀ (h : Hp) n, k68 [.agg p.l] h n = some (true, { v := .i .i64 (if mdB p then 0 else 230), n }) := fun h n => by
    simp only [k68, h9, Option.bind_some, hpf]
  have hgk := goodH_k (h := hs) (now := now)
  have hg64 : lateH hs now = 0 → hs.l.length ≤ 64 := fun h => goodH_len (lateH_0 h).1
  generalize hRR : keepS hs now p = R
  unfold keepS keptL stepK at hRR
  have hk67 : ∀ (h : Hp) n, k67 [.agg hs.a, .i .i64 now] h n = if lateH hs now = 0 then (match hs.l with
    | [] => some (true, { v := .tup [.p n 0, .i .i64 0], n := n + 1, nw := [(n, { cells := stC0 hs now .ze })] })
    | x :: r => some (true, { v := .tup [.p n 0, .i .i64 0], n := n + 2, nw := [(n, { cells := stC0 hs now (.sg (n + 1) 0 hs.l.length) }), (n + 1, { cells := rows Kp.l hs.l, gr := some 11 })] }))
    else some (true, { v := .tup [.np, .i .i64 (lateH hs now)], n }) := fun h n => by
    simp only [k67, hha, Option.bind_some, hf, hll, Bool.and_self]
    rfl
  generalize lateH hs now = E at *
  have hmq := fun h => mdB_sq (p := p) h
  generalize mdB p = mb at *
  obtain ⟨ti, ss, ty, nx, l⟩ := hs
  obtain ⟨ma, pty, sq, tm, pss, cs, xs, pd, pl⟩ := p
  dsimp only at hRR hl hg64 hgk hk67 hmq
  simp only [Hs.a, Md.l, stC0] at hk67 hk68 ⊢
  refine FTL.of_cov (cx := cxT TM33) hTM33 mo Try.func33 i33_eq (by simp [i33]) (iw_of_jw ?_)
  dsimp only [i33, TM33]
  by_cases hE : E = 0
  rotate_left
  · have e1 : (E != 0) = true := by simp [bne, hE]
    rw [if_neg hE] at hRR
    simp only [if_neg hE] at hk67
    simp (config := { maxSteps := 400000 }) only [go_sem, hk67, e1, simprocAttr]
    rw [← hRR]
    exact covH_n
  subst hE
  simp only [if_true] at hk67 hRR
  obtain ⟨hok, hnow, hlq⟩ := hgk rfl
  have hl64 := hg64 rfl
  have hcB : ∀ j, belL j (rows int1 cs) = true := fun j => csB j cs
  have hxB : ∀ j, belL j (rows xtR xs) = true := fun j => xsB j xs
  cases l with
  | nil =>
    simp only [List.length_nil] at hk67 hRR
    cases mb
    · simp only [Bool.false_eq_true, if_false] at hk68
      simp (config := { maxSteps := 400000 }) only [go_sem, hk67, hk68, simprocAttr]
      rw [← hRR]
      exact covH_n
    simp only [if_true] at hk68
    have hq : okN 0 now = true := by simp only [okN, hnow, Bool.and_true]; rfl
    have h0 : inI (-40000) 40000 0 = true := rfl
    have gm : decide (128 ≤ growMax) = true := rfl
    simp (config := { maxSteps := 400000 }) only [go_sem, hk67, hk68, k69, int1, oneB, hq, h0, gm, simprocAttr]
    rw [← hRR]
    refine covH_g (hC := rfl) ?_ ?_ <;> rfl
  | cons x r =>
    have hu := kp_un (x :: r)
    simp only at hk67
    have hpos : 0 < (x :: r).length := by simp
    generalize x :: r = l at *
    have c0 : decide ((l.length : Int) > 0) = true := decide_eq_true (by omega)
    have c0' : decide (0 < l.length) = true := decide_eq_true hpos
    rw [c0'] at hRR
    simp only [cond_true, Bool.true_and] at hRR
    cases mb
    · simp only [Bool.false_eq_true, if_false] at hk68
      simp (config := { maxSteps := 400000 }) only [go_sem, hk67, hk68, simprocAttr]
      rw [← hRR]
      exact covH_n
    simp only [if_true] at hk68
    simp only [cond_true] at hRR
    obtain ⟨y, hy⟩ : ∃ y, l[l.length - 1]? = some y := ⟨_, List.getElem?_eq_getElem (by omega)⟩
    have hry : (rows Kp.l l)[(l.length - 1) * 11 + 2]? = some (.i .i64 y.p.sq) := rows_get (f := Kp.l) (z := 11) (j := 2) (v := .i .i64 y.p.sq) Kp.len hy rfl
    have hlqy : lastQ l = y.p.sq := by simp only [lastQ, hy]
    rw [hlqy] at hRR hlq
    generalize y.p.sq = lq at *
    have hw2 : IntKind.i64.wrap ((l.length : Int) - 1) = ((l.length - 1 : Nat) : Int) := by rw [wrapL (by omega) (by omega)]; omega
    have c3 : decide (0 ≤ ((l.length - 1 : Nat) : Int) ∧ ((l.length - 1 : Nat) : Int) < (l.length : Int)) = true := decide_eq_true (by omega)
    have hk51 : ∀ (h : Hp) n, k51 [.i .i64 sq, .i .i64 lq] h n = some (true, { v := .i .i64 (lead sq lq), n }) := fun h n => by simp only [k51, hmq rfl, hlq, Bool.and_self]
    have hrg := lead_rng sq lq
    generalize lead sq lq = d at *
    cases b1 : decide (d ≤ 0)
    rotate_left
    · rw [b1] at hRR
      simp (config := { maxSteps := 400000 }) only [go_sem, hk67, hk68, c0, c3, hry, hw2, hk51, b1, simprocAttr]
      rw [← hRR]
      exact covH_n
    rw [b1] at hRR
    simp only [cond_false] at hRR
    have hq : okN lq now = true := by simp only [okN, hlq, hnow, Bool.and_true]
    have h0 : inI (-40000) 40000 d = true := inI_of (by omega)
    have hlm : decide (l.length ≤ 1000000000) = true := decide_eq_true (by omega)
    have hql : (keepK now lq d l).length ≤ 64 := Nat.le_trans (List.length_filter_le _ _) hl64
    generalize hq' : keepK now lq d l = q at *
    have zR : (rows Kp.l q).length = q.length * 11 := rows_len Kp.len
    have n64 : ((q.length : Int) == 64) = (q.length == 64) := by rw [Bool.eq_iff_iff]; simp; omega
    cases b2 : (q.length == 64)
    · simp only [cut64, b2, cond_false] at hRR
      have gm : decide (128 * (q.length + 1) ≤ growMax) = true := decide_eq_true (by simp only [growMax]; omega)
      simp (config := { maxSteps := 400000 }) only [go_sem, hk67, hk68, c0, c3, hry, hw2, hk51, b1, k69, int1, oneB, hu, hq, h0, hok, hlm, hq', n64, b2, zR, gm, simprocAttr]
      rw [← hRR]
      refine covH_g (C := rows Kp.l q ++ [AV.b ma, .i .i64 pty, .i .i64 sq, .i .i64 tm, .i .i64 pss, .fz (rows int1 cs) cs.length, .fz (rows xtR xs) xs.length, .i .i64 pd, .s pl, .i .i64 now, .i .i64 (-1)]) ?_ ?_ ?_
      · rfl
      · rw [rows_append]; rfl
      · simp
    · have b2' : q.length = 64 := by simpa using b2
      simp only [cut64, b2, cond_true] at hRR
      have hrd := rows_drop Kp.len q 1
      have gm : decide (128 * 64 ≤ growMax) = true := rfl
      have gm' : decide (8192 ≤ growMax) = true := rfl
      rw [b2'] at zR
      simp (config := { maxSteps := 400000 }) only [go_sem, hk67, hk68, c0, c3, hry, hw2, hk51, b1, k69, int1, oneB, hu, hq, h0, hok, hlm, hq', n64, b2', zR, gm, gm', simprocAttr]
      refine andB_i (decide_eq_true (Or.inr trivial)) ?_
      rw [← hRR]
      refine covH_g (C := rows Kp.l (q.drop 1) ++ [AV.b ma, .i .i64 pty, .i .i64 sq, .i .i64 tm, .i .i64 pss, .fz (rows int1 cs) cs.length, .fz (rows xtR xs) xs.length, .i .i64 pd, .s pl, .i .i64 now, .i .i64 (-1)]) ?_ ?_ ?_
      · rw [← hrd]; rfl
      · rw [rows_append]; rfl
      · simp [b2']
def k33 : Ct
  | [.agg c, .i .i64 now, .agg b], _, n => (hsA c).bind fun h => (md9 b).bind fun p => some (decide (h.l.length ≤ 1000000000000) && finH h && p.fin, { v := rsH (keepS h now p), n })
  | _, _, _ => none
theorem s33 : SoundAt Try.prog 33 k33 := fun args h n c E hc ht => by
  unfold k33 at hc
  split at hc
  · simp only [Option.bind_eq_some_iff] at hc
    obtain ⟨hs, hd, p, hp, he⟩ := hc
    cases he
    rw [hsA_eq hd, md9_eq hp]
    simp only [Bool.and_eq_true, decide_eq_true_eq] at ht
    exact CallOK.pure (by kernel_rfl) (by simp only [belL, AV.bel, Hs.bel, Md.bel, Bool.and_self]) (rsH_bel _) (w33 hs _ p ht.1.1 ht.1.2 ht.2) _ _
  · cases hc
end Go.Proofs.Res
