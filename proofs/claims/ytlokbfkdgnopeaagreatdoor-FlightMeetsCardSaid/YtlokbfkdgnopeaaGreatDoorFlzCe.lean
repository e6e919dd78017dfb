/- Texts laid as one: FlzC11 FlzC12 FlzC13 FlzC14. -/
import Derived.Test.YtlokbfkdgnopeaaGreatDoorFlzCa
import Derived.Test.YtlokbfkdgnopeaaGreatDoorFlzShelf
import Derived.Test.YtlokbfkdgnopeaaGreatDoorAbShelf
import Derived.Test.YtlokbfkdgnopeaaGreatDoorFlzC10
import Derived.Test.YtlokbfkdgnopeaaGreatDoorAbGvs
import Derived.Test.YtlokbfkdgnopeaaGreatDoorAbRfs
section
/- Contracts of the library: Trim, Repeat. -/
namespace Go.Proofs.Flz
open Go.Ab Go.Proofs.Flt
set_option maxRecDepth 100000
set_option maxHeartbeats 4000000
set_option linter.unusedSimpArgs false
set_option linter.unusedVariables false
theorem trimB_nil (s : List UInt8) : (Go.Lib.trimB s 0 != []) = !zer s := by
 have h1 : ∀ l : List UInt8, (l.dropWhile (· == 0) = []) ↔ l.all (· == 0) = true := fun l => by
  induction l with
  | nil => simp
  | cons a r ih =>
   rw [List.dropWhile_cons]
   cases h : (a == 0)
   · simp [h]
   · simp only [if_true, ih, List.all_cons, h, Bool.true_and]
 have h2 : Go.Lib.trimB s 0 = [] ↔ zer s = true := by
  show ((s.reverse.dropWhile (· == 0)).reverse.dropWhile (· == 0) = []) ↔ _
  rw [h1, List.all_reverse]
  constructor
  · intro h
    have : s.reverse.dropWhile (· == 0) = [] := by
     cases hd : s.reverse.dropWhile (· == 0) with
     | nil => rfl
     | cons a r =>
      exfalso
      rw [hd, List.all_cons, Bool.and_eq_true] at h
      have := List.head?_dropWhile_not (· == 0) s.reverse
      rw [hd] at this
      simp only [List.head?_cons] at this
      rw [h.1] at this; simp at this
    rw [h1, List.all_reverse] at this
    exact this
  · intro h
    have : s.reverse.dropWhile (· == 0) = [] := by rw [h1, List.all_reverse]; exact h
    rw [this]; rfl
 cases hz : zer s
 · rw [Bool.not_false, bne_iff_ne]; intro e; rw [h2, hz] at e; cases e
 · rw [Bool.not_true, bne_eq_false_iff_eq]; exact h2.2 hz
theorem w81 (s : List UInt8) (hs : s.length ≤ 9223372036854775807) : FTL Tryz.prog 81 [.s s, .s [0]] [] 0 (.s (Go.Lib.trimB s 0)) [] 0 := FTL.of_below (fun D φ us ha => by
 obtain ⟨u, m, rfl, h1, h2⟩ := ha.uncons
 obtain ⟨u', m', rfl, h3, h4⟩ := h2.uncons
 obtain rfl := h4.unnil
 cases h1
 cases h3
 refine ⟨_, .s (Go.Lib.trimB s 0), fun w => ?_⟩
 refine (Tryz.strings_Trim_one ⟨s.toArray⟩ 0 (by decide) w (by show s.toArray.size ≤ _; simpa using hs)).mono fun e w' he => ⟨?_, ?_⟩
 · rw [he.1]
 · rcases he.2 with rfl | rfl
   · exact Go.RowKit.Below.refl _ _
   · exact (Go.RowKit.Below.refl _ _).drew) (by kernel_rfl)
def k81 : Ct
 | [.s s, .s [0]], _, n => some (decide (s.length ≤ 9223372036854775807), { v := .s (Go.Lib.trimB s 0), n })
 | _, _, _ => none
theorem s81 : SoundAt Tryz.prog 81 k81 := fun args h n c E hc ht => by
 unfold k81 at hc
 split at hc
 · cases hc; exact CallOK.pure (by kernel_rfl) rfl rfl (w81 _ (of_decide_eq_true ht)) _ _
 · cases hc
theorem w36 (s : List UInt8) (c : Nat) (hc : s.length * c ≤ 1000000) (hc2 : c ≤ 1000000) : FTL Tryz.prog 36 [.s s, .i .i64 (c : Int)] [] 0 (.s (Go.Lib.repeatL s c)) [] 0 := FTL.of_below (fun D φ us ha => by
 obtain ⟨u, m, rfl, h1, h2⟩ := ha.uncons
 obtain ⟨u', m', rfl, h3, h4⟩ := h2.uncons
 obtain rfl := h4.unnil
 cases h1
 cases h3
 refine ⟨_, .s (Go.Lib.repeatL s c), fun w => ?_⟩
 refine (Tryz.strings_Repeat ⟨s.toArray⟩ c w (by omega) (by
  show s.toArray.size * c ≤ _
  simp only [List.size_toArray]; omega)).mono fun e w' he => ⟨?_, he.2⟩
 rw [he.1]) (by kernel_rfl)
def k36 : Ct
 | [.s s, .i .i64 c], _, n => some (decide (0 ≤ c ∧ s.length * c.toNat ≤ 1000000 ∧ c ≤ 1000000), { v := .s (Go.Lib.repeatL s c.toNat), n })
 | _, _, _ => none
theorem s36 : SoundAt Tryz.prog 36 k36 := fun args h n c E hc ht => by
 unfold k36 at hc
 split at hc
 · rename_i s c
   cases hc
   obtain ⟨h0, h1, h2⟩ := of_decide_eq_true ht
   have := w36 s c.toNat h1 (by omega)
   rw [Int.toNat_of_nonneg h0] at this
   exact CallOK.pure (by kernel_rfl) rfl rfl this _ _
 · cases hc
end Go.Proofs.Flz
end
section
/- Contracts: Clone of ranges, the half's sound. -/
namespace Go.Proofs.Flz
open Go.Ab Go.Proofs.Flt
set_option maxRecDepth 100000
set_option maxHeartbeats 4000000
set_option linter.unusedSimpArgs false
set_option linter.unusedVariables false
theorem w60_0 (L : List AV) : FTL Tryz.prog 60 [.fz L 0] [] 0 .ze [] 0 := cln_0 mo Tryz.func60 (z := 2) (bytes := 16) (zs := [.i .i64 0, .i .i64 0]) i60_eq L
theorem w60_1 (x : Int × Int) (l : List (Int × Int)) (hl : l.length ≤ 1000000000) : FTL Tryz.prog 60 [.fz (rows gp (x :: l)) (l.length + 1)] [] 0 (.sg 0 0 (l.length + 1)) [(0, { cells := rows gp (x :: l), gr := some 2 })] 1 :=
 cln_1 mo Tryz.func60 (z := 2) (bytes := 16) (zs := [.i .i64 0, .i .i64 0]) i60_eq (by rw [rows_len gp_len]; rfl) (rows_one1 gp_one _) (rows_bel gp_bel) (by simp only [growMax]; omega)
def k60 : Ct
 | [.fz L m], _, n => (unrows 2 gp2 m L).bind fun l => match l with
  | [] => some (true, { v := .ze, n })
  | x :: r => some (decide (r.length ≤ 1000000000), { v := .sg n 0 (r.length + 1), n := n + 1, nw := [(n, { cells := rows gp (x :: r), gr := some 2 })] })
 | [.ns], _, n => some (true, { v := .ze, n })
 | _, _, _ => none
theorem s60 : SoundAt Tryz.prog 60 k60 := fun args h n c E hc ht => by
 unfold k60 at hc
 split at hc
 · rename_i L m
   simp only [Option.bind_eq_some_iff] at hc
   obtain ⟨l, hl, hc⟩ := hc
   obtain ⟨rfl, hm⟩ := unrows_eq (f := gp) (fun c a h => gp2_eq h) hl
   subst hm
   split at hc
   · cases hc
     exact CallOK.pure (by kernel_rfl) rfl rfl (w60_0 _) _ _
   · rename_i x r
     cases hc
     have := CallOK.new1 (h := h) (n := n) (by kernel_rfl) (by simp only [belL, AV.bel, rows_bel gp_bel, Bool.and_self]) (rows_bel gp_bel) rfl (w60_1 x r (of_decide_eq_true ht))
     simpa [AV.ren] using this
 · cases hc
   exact CallOK.pure (by kernel_rfl) rfl rfl (FTL.wkaH Wka.ns (w60_0 [])) _ _
 · cases hc
/-! the half -/
def atG (got : List (Int × Int)) (k : Nat) : Int := if k = 0 then 0 else match got[k - 1]? with | some x => x.2 | none => 0
theorem got_at {ln : Int} : ∀ {l : List (Int × Int)} {b : Option Int} {k : Nat} {x : Int × Int}, gotB ln b l = true → l[k]? = some x → 0 ≤ x.1 ∧ x.1 < x.2 ∧ x.2 ≤ ln ∧ (k = 0 → ∀ e, b = some e → e < x.1) ∧ (0 < k → ∀ y, l[k - 1]? = some y → y.2 < x.1)
 | [], _, k, x, _, h => by simp at h
 | y :: r, b, 0, x, hg, h => by
  simp only [List.getElem?_cons_zero, Option.some.injEq] at h
  subst h
  simp only [gotB, Bool.and_eq_true, decide_eq_true_eq] at hg
  obtain ⟨h1, h2, h3, h4, _⟩ := hg
  refine ⟨h1, h2, h3, fun _ e he => ?_, fun h => absurd h (by omega)⟩
  subst he
  simpa using h4
 | y :: r, b, k + 1, x, hg, h => by
  simp only [List.getElem?_cons_succ] at h
  simp only [gotB, Bool.and_eq_true, decide_eq_true_eq] at hg
  obtain ⟨h1, h2, h3, h4, h5⟩ := hg
  have ih := got_at h5 h
  refine ⟨ih.1, ih.2.1, ih.2.2.1, fun h => absurd h (by omega), fun _ z hz => ?_⟩
  cases k with
  | zero => simp at hz; subst hz; exact ih.2.2.2.1 rfl _ rfl
  | succ k => exact ih.2.2.2.2 (by omega) z (by simpa using hz)
theorem atG_rng {ln : Int} {got : List (Int × Int)} (hg : gotB ln none got = true) (h0 : 0 ≤ ln) {k : Nat} (hk : k ≤ got.length) : 0 ≤ atG got k ∧ atG got k ≤ ln ∧ ∀ x, got[k]? = some x → atG got k ≤ x.1 ∧ x.1 ≤ ln ∧ 0 ≤ x.1 ∧ x.2 ≤ ln := by
 by_cases hk0 : k = 0
 · subst hk0
   refine ⟨by simp [atG], by simp [atG]; exact h0, fun x hx => ?_⟩
   have := got_at hg hx
   simp only [atG, if_pos]; omega
 · obtain ⟨y, hy⟩ : ∃ y, got[k - 1]? = some y := ⟨_, List.getElem?_eq_getElem (by omega)⟩
   have e : atG got k = y.2 := by simp only [atG, if_neg hk0, hy]
   have hyy := got_at hg hy
   rw [e]
   refine ⟨by omega, by omega, fun x hx => ?_⟩
   have hxx := got_at hg hx
   have := hxx.2.2.2.2 (by omega) y hy
   omega
theorem atG_s {got : List (Int × Int)} {k : Nat} {x : Int × Int} (h : got[k]? = some x) : atG got (k + 1) = x.2 := by
 simp only [atG, if_neg (Nat.succ_ne_zero k), Nat.add_sub_cancel, h]
theorem gap_s {bd : List UInt8} {ln : Int} {got : List (Int × Int)} {k : Nat} {x : Int × Int} (h : got[k]? = some x) : gapB bd ln (atG got k) (got.drop k) = (zer ((bd.drop (atG got k).toNat).take (x.1 - atG got k).toNat) && gapB bd ln (atG got (k + 1)) (got.drop (k + 1))) := by
 have hlt := (List.getElem?_eq_some_iff.1 h).1
 rw [List.drop_eq_getElem_cons hlt, gapB, atG_s h]
 rw [List.getElem?_eq_getElem hlt] at h
 rw [Option.some.inj h]
end Go.Proofs.Flz
end
section
/- The contract of the half's sound. -/
namespace Go.Proofs.Flz
open Go.Ab Go.Proofs.Flt
set_option maxRecDepth 100000
set_option maxHeartbeats 4000000
set_option linter.unusedSimpArgs false
set_option linter.unusedVariables false
theorem got_len {ln : Int} {got : List (Int × Int)} (hg : gotB ln none got = true) (h0 : 0 ≤ ln) : (got.length : Int) ≤ ln := by
 have : ∀ (k : Nat) x, got[k]? = some x → (k : Int) + 1 ≤ x.2 := fun k => by
  induction k with
  | zero => intro x hx; have := got_at hg hx; omega
  | succ k ih =>
   intro x hx
   have h1 := (List.getElem?_eq_some_iff.1 hx).1
   obtain ⟨y, hy⟩ : ∃ y, got[k]? = some y := ⟨_, List.getElem?_eq_getElem (by omega)⟩
   have h2 := ih y hy
   have h3 := got_at hg hx
   have := h3.2.2.2.2 (by omega) y (by simpa using hy)
   omega
 rcases Nat.eq_zero_or_pos got.length with h | h
 · omega
 · obtain ⟨y, hy⟩ : ∃ y, got[got.length - 1]? = some y := ⟨_, List.getElem?_eq_getElem (by omega)⟩
   have h1 := this _ y hy
   have h2 := got_at hg hy
   omega
def TC13 : List (Nat × Ct) := [(48, k48), (79, k79), (60, k60), (81, k81)]
theorem hTC13 : Sound Tryz.prog (cxT TC13) := Sound.cons s48 <| Sound.cons s79 <| Sound.cons s60 <| Sound.cons s81 Sound.nil
noncomputable abbrev F13 : Fx := ⟨Tryz.prog, cxT TC13, [39, 45, 61, 72], 76, 0⟩
theorem w55 (h : Flt.Hf) (hl : h.got.length ≤ 9223372036854775807) (hl2 : h.bd.length ≤ 9223372036854775807) : FTL Tryz.prog 55 [.agg h.l] [] 0 (.b (halfB h)) [] 0 := by
 have hh5 := hf5_l h
 obtain ⟨kd, ln, sq, bd, got⟩ := h
 have hH : halfB ⟨kd, ln, sq, bd, got⟩ = (inW kd 255 && (inW ln 4000 && (((bd.length : Int) == ln) && (((got.length == 0) == (ln == 0)) && (gotB ln none got && gapB bd ln 0 got))))) := rfl
 have hu : unrows 2 gp2 got.length (rows gp got) = some got := unrows_rows gp_len gp2_l got
 have hll : decide (got.length ≤ 9223372036854775807) = true := decide_eq_true hl
 simp only [Flt.Hf.l] at hh5 ⊢
 refine FTL.of_seam (cx := cxT TC13) Tryz.func55 i55_eq (by simp [i55]) ?_
 dsimp only [i55]
 refine Seam.part (F := F13) hTC13 mo ?_
 dsimp only [F13, TC13]
 simp (maxSteps := 400000) only [go_sem, simprocAttr]
 refine Seam.part (F := F13) hTC13 mo ?_
 dsimp only [F13, TC13]
 have hb := fun j => grB j got
 rw [hH]
 cases c1 : inW kd 255
 · simp (maxSteps := 400000) only [go_sem, k48, c1, AV.bel, belL, nblt, hb, simprocAttr]
   exact Ends.pureE rfl rfl
 cases c2 : inW ln 4000
 · simp (maxSteps := 400000) only [go_sem, k48, c1, c2, AV.bel, belL, nblt, hb, simprocAttr]
   exact Ends.pureE rfl rfl
 cases c3 : ((bd.length : Int) == ln)
 · have c3' : ((bd.length : Int) != ln) = true := by simp only [bne, c3, Bool.not_false]
   simp (maxSteps := 400000) only [go_sem, k48, c1, c2, c3, c3', AV.bel, belL, nblt, hb, simprocAttr]
   exact Ends.pureE rfl rfl
 have c3' : ((bd.length : Int) != ln) = false := by simp only [bne, c3, Bool.not_true]
 have e4 : (got.length == 0) = ((got.length : Int) == 0) := by rw [Bool.eq_iff_iff]; simp
 rw [e4]
 cases c4 : (((got.length : Int) == 0) == (ln == 0))
 · simp (maxSteps := 400000) only [go_sem, k48, c1, c2, c3, c3', c4, AV.bel, belL, nblt, hb, simprocAttr]
   exact Ends.pureE rfl rfl
 have hsn : ∀ (h : Hp) n b, hget h b = some { cells := [.i .i64 kd, .i .i64 ln, .i .i64 sq, .s bd, .fz (rows gp got) got.length] } → k79 [.fz (rows gp got) got.length, .fn 80 [.p b 0]] h n = some (true, { v := .b (gotB ln none got), n, rd := [b] }) := fun h n b hb => by
  simp only [k79, hu, Option.bind_some, hb, hh5, hll]
 simp (maxSteps := 400000) only [go_sem, k48, c1, c2, c3, c3', c4, AV.bel, belL, nblt, hb, simprocAttr]
 refine Seam.part (F := F13) hTC13 mo ?_
 dsimp only [F13, TC13]
 cases c5 : gotB ln none got
 · simp (maxSteps := 400000) only [go_sem, hsn, c5, AV.bel, belL, nblt, hb, simprocAttr]
   exact Ends.pureE rfl rfl
 simp (maxSteps := 400000) only [go_sem, hsn, c5, AV.bel, belL, nblt, hb, simprocAttr]
 refine Seam.part (F := F13) hTC13 mo ?_
 dsimp only [F13, TC13]
 simp (maxSteps := 400000) only [go_sem, simprocAttr]
 have h2 := inW_t c2
 have hbl : (bd.length : Int) = ln := by simpa using c3
 have hgl := got_len c5 h2.1
 have hrng := fun k hk => atG_rng c5 h2.1 (k := k) hk
 obtain ⟨R, hR⟩ : ∃ R, R = gapB bd ln 0 got := ⟨_, rfl⟩
 simp only [Bool.true_and, ← hR]
 -- the ranges, with the end behind them
 obtain ⟨G, hG⟩ : ∃ G, G = rows gp (got ++ [(ln, ln)]) := ⟨_, rfl⟩
 have hGb : ∀ j, belL j G = true := fun j => by rw [hG]; exact grB j _
 have hGr : ∀ ψ, renL ψ G = G := fun ψ => by rw [hG]; exact grR ψ _
 have hGk : ∀ k x, (got ++ [(ln, ln)])[k]? = some x → List.take 2 (List.drop (k * 2) G) = gp x := fun k x hx => by rw [hG]; exact rows_at gp_len hx
 have hGa : rows gp got ++ [.i .i64 ln, .i .i64 ln] = G := by rw [hG, rows_append]; rfl
 have zR : (rows gp got).length = got.length * 2 := rows_len gp_len
 obtain ⟨aE, haE⟩ : ∃ aE : Nat → Int, aE = fun k => if k ≤ got.length then atG got k else ln := ⟨_, rfl⟩
 have loop : ∀ (j : Nat) (_ : j = 2 ∨ j = 3) (e : Env) (h : Hp) (n : Nat), EnvIn (j + 1) e [(1, .p 0 0), (3, .i .i64 (aE 0)), (58, .sg j 0 (got.length + 1)), (59, .i .i64 ((got.length + 1 : Nat) : Int)), (60, .i .i64 ((0 : Nat) : Int))] →
  HpIn (j + 1) h [(j, { cells := G, gr := some 2 }), (0, { cells := [.i .i64 kd, .i .i64 ln, .i .i64 sq, .s bd, .fz (rows gp got) got.length] })] →
  Go.Ab.Loop Tryz.prog [39, 45, 61, 72] 76 0 i55l13 (blockK 0 (thenK (retK [.t 2] fun v h' n' => Ab.Ends 0 v h' n' (.b R) [] 0) (jw ⟨Tryz.prog, cxT [(48, k48), (79, k79), (60, k60), (81, k81)], [39, 45, 61, 72], 76, 0⟩ (.seq (.reg i55r14) .ret) (retK [.t 2] fun v h' n' => Ab.Ends 0 v h' n' (.b R) [] 0)))) e h n := by
  intro j hj e h n he hh
  refine Loop.countI (F := F13) hTC13 mo (got.length + 1) (fun k => (k ≤ got.length → gapB bd ln (atG got k) (got.drop k) = R) ∧ (k = got.length + 1 → R = true))
   (fun k => [(1, .p 0 0), (3, .i .i64 (aE k)), (58, .sg j 0 (got.length + 1)), (59, .i .i64 ((got.length + 1 : Nat) : Int)), (60, .i .i64 (k : Int))])
   (fun k => [(j, { cells := G, gr := some 2 }), (0, { cells := [.i .i64 kd, .i .i64 ln, .i .i64 sq, .s bd, .fz (rows gp got) got.length] })]) (j + 1) (Nat.zero_le _) ⟨fun _ => hR.symm, fun h => by omega⟩ he hh (fun k hk hok => ?_)
  dsimp only [F13, TC13]
  by_cases hlt : k < got.length + 1
  · obtain ⟨x, hx⟩ : ∃ x, (got ++ [(ln, ln)])[k]? = some x := ⟨_, List.getElem?_eq_getElem (by simp; omega)⟩
    have hr := hGk k x hx
    have hka : aE k = atG got k := by rw [haE]; exact if_pos (by omega)
    obtain ⟨r1, r2, r3⟩ := hrng k (by omega)
    have hgap := hok.1 (by omega)
    have hxx : atG got k ≤ x.1 ∧ x.1 ≤ ln ∧ 0 ≤ x.1 ∧ x.2 = aE (k + 1) ∧ gapB bd ln (atG got k) (got.drop k) = (zer ((bd.drop (atG got k).toNat).take (x.1 - atG got k).toNat) && (if k < got.length then gapB bd ln (atG got (k + 1)) (got.drop (k + 1)) else true)) := by
     by_cases hkl : k < got.length
     · rw [List.getElem?_append_left hkl] at hx
       have := r3 x hx
       refine ⟨this.1, this.2.1, this.2.2.1, ?_, ?_⟩
       · rw [haE]; show x.2 = if k + 1 ≤ got.length then atG got (k + 1) else ln; rw [if_pos (by omega), atG_s hx]
       · rw [if_pos hkl]; exact gap_s hx
     · have e : k = got.length := by omega
       subst e
       rw [List.getElem?_append_right (Nat.le_refl _), Nat.sub_self] at hx
       cases hx
       refine ⟨r2, Int.le_refl _, h2.1, ?_, ?_⟩
       · rw [haE]; exact (if_neg (by omega)).symm
       · rw [if_neg (by omega), List.drop_length, gapB, Bool.and_true]
    obtain ⟨q1, q2, q3, q4, q5⟩ := hxx
    rw [q5] at hgap
    have c1' : decide ((k : Int) < ((got.length + 1 : Nat) : Int)) = true := decide_eq_true (by omega)
    have c2' : decide (0 ≤ (k : Int) ∧ (k : Int) < ((got.length + 1 : Nat) : Int)) = true := decide_eq_true (by omega)
    have hw : IntKind.i64.wrap ((k : Int) + 1) = ((k + 1 : Nat) : Int) := by rw [wrapL (by omega) (by omega)]; omega
    have d1 : decide (0 ≤ atG got k ∧ atG got k ≤ x.1 ∧ x.1 ≤ (bd.length : Int)) = true := decide_eq_true (by omega)
    have hsl : (bd.drop (atG got k).toNat).take (x.1 - atG got k).toNat = List.drop (atG got k).toNat (List.take x.1.toNat bd) := by
     rw [List.drop_take]; congr 1; omega
    rw [hsl] at hgap
    have hzz := trimB_nil (List.drop (atG got k).toNat (List.take x.1.toNat bd))
    have hzl : (List.drop (atG got k).toNat (List.take x.1.toNat bd)).length ≤ bd.length := by rw [List.length_drop, List.length_take]; omega
    have htr : ∀ (h : Hp) n, k81 [.s (List.drop (atG got k).toNat (List.take x.1.toNat bd)), .s [0]] h n = some (true, { v := .s (Go.Lib.trimB (List.drop (atG got k).toNat (List.take x.1.toNat bd)) 0), n }) := fun h n => by
     simp only [k81, decide_eq_true (show (List.drop (atG got k).toNat (List.take x.1.toNat bd)).length ≤ 9223372036854775807 by omega)]
    rw [hka]
    obtain ⟨x1, x2⟩ := x
    dsimp only at *
    subst q4
    generalize atG got k = a at *
    generalize hsub : List.drop a.toNat (List.take x1.toNat bd) = sub at *
    generalize Go.Lib.trimB sub 0 = tb at *
    simp only [gp] at hr
    cases hz : zer sub
    · rw [hz, Bool.not_false] at hzz
      have hz2 : (tb == ([] : List UInt8)) = false := by
       cases he : (tb == ([] : List UInt8)) with
       | false => rfl
       | true => rw [bne, he] at hzz; cases hzz
      rw [hz, Bool.false_and] at hgap
      rw [← hgap]
      rcases hj with rfl | rfl
      all_goals
       simp (maxSteps := 400000) only [go_sem, c1', c2', hr, d1, hsub, htr, hzz, hz2, simprocAttr]
       exact Ends.pureE rfl rfl
    · rw [hz, Bool.not_true] at hzz
      have hz2 : (tb == ([] : List UInt8)) = true := by
       cases he : (tb == ([] : List UInt8)) with
       | true => rfl
       | false => rw [bne, he] at hzz; cases hzz
      rw [hz, Bool.true_and] at hgap
      have hnext : (k + 1 ≤ got.length → gapB bd ln (atG got (k + 1)) (got.drop (k + 1)) = R) ∧ (k + 1 = got.length + 1 → R = true) := by
       refine ⟨fun h => ?_, fun h => ?_⟩
       · rw [if_pos (by omega)] at hgap; exact hgap
       · rw [if_neg (by omega)] at hgap; exact hgap.symm
      generalize ((k + 1 ≤ got.length → gapB bd ln (atG got (k + 1)) (got.drop (k + 1)) = R) ∧ (k + 1 = got.length + 1 → R = true)) = NX at *
      rcases hj with rfl | rfl
      all_goals
       simp (maxSteps := 400000) only [go_sem, c1', c2', hr, d1, hsub, htr, hzz, hz2, hw, hlt, hnext, AV.bel, belL, nblt, hb, hGb, simprocAttr]
  · have c1' : decide ((k : Int) < ((got.length + 1 : Nat) : Int)) = false := decide_eq_false (by omega)
    have hRt := hok.2 (by omega)
    rw [hRt]
    rcases hj with rfl | rfl
    all_goals
     simp (maxSteps := 400000) only [go_sem, c1', simprocAttr]
     exact Ends.pureE rfl rfl
 have a0 : aE 0 = 0 := by rw [haE]; rfl
 rw [a0] at loop
 refine Seam.run (F := F13) hTC13 mo ?_
 dsimp only [F13, TC13]
 cases got with
 | nil =>
  have hk : ∀ (h : Hp) n, k60 [.fz (rows gp []) 0] h n = some (true, { v := .ze, n }) := fun h n => rfl
  simp (maxSteps := 400000) only [go_sem, hk, AV.bel, belL, nblt, hb, List.length_nil, growMax, simprocAttr]
  refine loop 2 (.inl rfl) _ _ _ ?_ ?_
  · simp (maxSteps := 400000) only [go_sem, AV.bel, belL, nblt, List.length_nil, simprocAttr]
  · rw [hG]
    simp (maxSteps := 400000) only [go_sem, AV.bel, belL, nblt, hb, List.length_nil, rows_cons, rows_nil, gp, List.nil_append, simprocAttr]
 | cons x r =>
  have hk : ∀ (h : Hp) n, k60 [.fz (rows gp (x :: r)) (r.length + 1)] h n = some (true, { v := .sg n 0 (r.length + 1), n := n + 1, nw := [(n, { cells := rows gp (x :: r), gr := some 2 })] }) := fun h n => by
   simp only [List.length_cons] at hu
   simp only [k60, hu, Option.bind_some, decide_eq_true (show r.length ≤ 1000000000 by simp only [List.length_cons] at hgl; omega)]
  have gm : decide (16 * (r.length + 1 + 1) ≤ growMax) = true := decide_eq_true (by simp only [growMax, List.length_cons] at *; omega)
  simp only [List.length_cons] at zR hgl hb ⊢
  simp (maxSteps := 400000) only [go_sem, hk, AV.bel, belL, nblt, hb, gm, zR, hGa, simprocAttr]
  refine loop 3 (.inr rfl) _ _ _ ?_ ?_
  · simp (maxSteps := 400000) only [go_sem, AV.bel, belL, nblt, List.length_cons, simprocAttr]
  · simp (maxSteps := 400000) only [go_sem, AV.bel, belL, nblt, hb, hGb, List.length_cons, simprocAttr]
end Go.Proofs.Flz
end
section
/- Contracts: CheckJoiner. -/
namespace Go.Proofs.Flz
open Go.Ab Go.Proofs.Flt
set_option maxRecDepth 100000
set_option maxHeartbeats 4000000
set_option linter.unusedSimpArgs false
set_option linter.unusedVariables false
def hfF (x : Flt.Hf) : Bool := decide (x.got.length ≤ 9223372036854775807) && decide (x.bd.length ≤ 9223372036854775807)
def k55 : Ct
 | [.agg c], _, n => (hf5 c).bind fun h => some (hfF h, { v := .b (halfB h), n })
 | _, _, _ => none
theorem s55 : SoundAt Tryz.prog 55 k55 := fun args h n c E hc ht => by
 unfold k55 at hc
 split at hc
 · simp only [Option.bind_eq_some_iff] at hc
   obtain ⟨x, hx, he⟩ := hc
   cases he
   rw [hf5_eq hx]
   simp only [hfF, Bool.and_eq_true, decide_eq_true_eq] at ht
   exact CallOK.pure (by kernel_rfl) (by simp only [belL, AV.bel, x.bel, Bool.and_self]) rfl (w55 x ht.1 ht.2) _ _
 · cases hc
theorem hrB (j : Nat) (l : List Flt.Hf) : belL j (rows Flt.Hf.l l) = true := belL_mono0 _ (rows_bel Flt.Hf.bel)
def isH (nx : Int) (b : Option Flt.Hf) (x : Flt.Hf) : Bool := decide (nx ≤ x.sq) && (decide (x.sq < min (nx + 4) 65536) && ((match b with | some e => decide (x.sq > e.sq) | none => true) && (halfB x && (decide (x.sq > nx) || !doneB x))))
theorem hsB_snd (nx : Int) : ∀ (b : Option Flt.Hf) (l : List Flt.Hf), hsB nx (b.map (·.sq)) l = sndB (isH nx) b l
 | _, [] => rfl
 | b, x :: r => by
  have ih := hsB_snd nx (some x) r
  simp only [Option.map_some] at ih
  simp only [hsB, sndB, isH, ih]
  cases b <;> simp only [Option.map_some, Option.map_none, Bool.and_assoc]
def TC14 : List (Nat × Ct) := [(55, k55), (56, k56)]
theorem hTC14 : Sound Tryz.prog (cxT TC14) := Sound.cons s55 (Sound.cons s56 Sound.nil)
theorem w54 (j : Jn) (hj : inW j.nx 65536 = true) (l : List Flt.Hf) (k : Nat) (x : Flt.Hf) (hx : l[k]? = some x) (hf : hfF x = true) : FTL Tryz.prog 54 [bef 5 (rows Flt.Hf.l l) k, .agg x.l, .fp j.a 0] [] 0 (.b (isH j.nx (prv l k) x)) [] 0 := by
 have hh5 := hf5_l x
 have hfg : decide (x.got.length ≤ 9223372036854775807) = true := by simp only [hfF, Bool.and_eq_true] at hf; exact hf.1
 have h50 : ∀ (h : Hp) n, k55 [.agg x.l] h n = some (true, { v := .b (halfB x), n }) := fun h n => by simp only [k55, hh5, Option.bind_some, hf]
 have h40 : ∀ (h : Hp) n, k56 [.agg x.l] h n = some (true, { v := .b (doneB x), n }) := fun h n => by simp only [k56, hh5, Option.bind_some, hfg]
 have hI : isH j.nx (prv l k) x = (decide (j.nx ≤ x.sq) && (decide (x.sq < min (j.nx + 4) 65536) && ((match prv l k with | some e => decide (x.sq > e.sq) | none => true) && (halfB x && (decide (x.sq > j.nx) || !doneB x))))) := rfl
 generalize halfB x = HB at *
 generalize doneB x = DB at *
 obtain ⟨nx, hs⟩ := j
 have hnx := inW_t hj
 dsimp only at hnx hI ⊢
 obtain ⟨kd, ln, sq, bd, got⟩ := x
 simp only [Jn.a, Flt.Hf.l] at h50 h40 ⊢
 dsimp only at hI
 have hb := fun j => grB j got
 have hb2 := fun j => hrB j hs
 refine FTL.of_iw hTC14 mo Tryz.func54 i54_eq (by simp [i54]) (iw_of_jw ?_)
 dsimp only [i54, TC14]
 have w4 : IntKind.i64.wrap (nx + 4) = nx + 4 := wrapL (by omega) (by omega)
 cases a1 : decide (sq ≥ nx)
 · rw [hI, show decide (nx ≤ sq) = false from a1, Bool.false_and]
   simp (maxSteps := 400000) only [go_sem, a1, AV.bel, belL, nblt, hb, hb2, simprocAttr]
   exact Ends.pureE rfl rfl
 rw [show decide (nx ≤ sq) = true from a1, Bool.true_and] at hI
 cases a2 : decide (sq < min (nx + 4) 65536)
 · rw [hI, a2, Bool.false_and]
   simp (maxSteps := 400000) only [go_sem, a1, a2, w4, AV.bel, belL, nblt, hb, hb2, simprocAttr]
   exact Ends.pureE rfl rfl
 rw [a2, Bool.true_and] at hI
 rw [hI]
 by_cases hk : k = 0
 · have e : bef 5 (rows Flt.Hf.l l) k = .np := if_pos hk
   have e2 : prv l k = none := if_pos hk
   rw [e, e2]
   cases HB
   · simp (maxSteps := 400000) only [go_sem, a1, a2, w4, h50, AV.bel, belL, nblt, hb, hb2, simprocAttr]
     exact Ends.pureE rfl rfl
   cases a4 : decide (sq > nx)
   · cases DB
     · simp (maxSteps := 400000) only [go_sem, a1, a2, w4, h50, h40, a4, AV.bel, belL, nblt, hb, hb2, simprocAttr]
       exact Ends.pureE rfl rfl
     · simp (maxSteps := 400000) only [go_sem, a1, a2, w4, h50, h40, a4, AV.bel, belL, nblt, hb, hb2, simprocAttr]
       exact Ends.pureE rfl rfl
   · simp (maxSteps := 400000) only [go_sem, a1, a2, w4, h50, h40, a4, AV.bel, belL, nblt, hb, hb2, simprocAttr]
     exact Ends.pureE rfl rfl
 · have e : bef 5 (rows Flt.Hf.l l) k = .fp (rows Flt.Hf.l l) ((k - 1) * 5) := if_neg hk
   have hkl := (List.getElem?_eq_some_iff.1 hx).1
   obtain ⟨y, hy⟩ : ∃ y, l[k - 1]? = some y := ⟨_, List.getElem?_eq_getElem (by omega)⟩
   have e2 : prv l k = some y := by rw [prv, if_neg hk, hy]
   have g1 := rows_get (f := Flt.Hf.l) (z := 5) (j := 2) Flt.Hf.len hy rfl
   rw [e, e2]
   have hlb := fun j => hrB j l
   generalize rows Flt.Hf.l l = L at *
   cases a3 : decide (sq > y.sq)
   · simp (maxSteps := 400000) only [go_sem, a1, a2, a3, w4, g1, AV.bel, belL, nblt, hb, hb2, hlb, simprocAttr]
     exact Ends.pureE rfl rfl
   cases HB
   · simp (maxSteps := 400000) only [go_sem, a1, a2, a3, w4, g1, h50, AV.bel, belL, nblt, hb, hb2, hlb, simprocAttr]
     exact Ends.pureE rfl rfl
   cases a4 : decide (sq > nx)
   · cases DB
     · simp (maxSteps := 400000) only [go_sem, a1, a2, a3, w4, g1, h50, h40, a4, AV.bel, belL, nblt, hb, hb2, hlb, simprocAttr]
       exact Ends.pureE rfl rfl
     · simp (maxSteps := 400000) only [go_sem, a1, a2, a3, w4, g1, h50, h40, a4, AV.bel, belL, nblt, hb, hb2, hlb, simprocAttr]
       exact Ends.pureE rfl rfl
   · simp (maxSteps := 400000) only [go_sem, a1, a2, a3, w4, g1, h50, h40, a4, AV.bel, belL, nblt, hb, hb2, hlb, simprocAttr]
     exact Ends.pureE rfl rfl
theorem w53 (j : Jn) (hj : inW j.nx 65536 = true) (l : List Flt.Hf) (hl : l.length ≤ 9223372036854775807) (hf : l.all hfF = true) : FTL Tryz.prog 53 [.fz (rows Flt.Hf.l l) l.length, .fn 54 [.fp j.a 0]] [] 0 (.b (hsB j.nx none l)) [] 0 := by
 have e : hsB j.nx none l = sndB (isH j.nx) none l := hsB_snd j.nx none l
 rw [e]
 rw [List.all_eq_true] at hf
 exact snd_fz (is := isH j.nx) mo Tryz.func53 (by kernel_rfl) (by kernel_rfl) Flt.Hf.len Flt.Hf.bel (by simp only [belL, AV.bel, j.bel, Bool.and_self]) l hl (fun k x hx => w54 j hj l k x hx (hf x (List.mem_of_getElem? hx)))
def jn2 : List AV → Option Jn
 | [.i .i64 nx, .fz L m] => (unrows 5 hf5 m L).map fun l => ⟨nx, l⟩
 | _ => none
theorem jn2_a (j : Jn) : jn2 j.a = some j := by
 have : unrows 5 hf5 j.hs.length (rows Flt.Hf.l j.hs) = some j.hs := unrows_rows Flt.Hf.len hf5_l j.hs
 simp only [jn2, Jn.a, this, Option.map_some]
theorem jn2_eq {c : List AV} {j : Jn} (h : jn2 c = some j) : c = j.a := by
 unfold jn2 at h
 split at h
 · simp only [Option.map_eq_some_iff] at h
   obtain ⟨g, hg, rfl⟩ := h
   obtain ⟨rfl, rfl⟩ := unrows_eq (f := Flt.Hf.l) (fun c a h => hf5_eq h) hg
   rfl
 · cases h
def k53 : Ct
 | [.fz L m, .fn 54 [.p a 0]], h, n => (unrows 5 hf5 m L).bind fun l => (hget h a).bind fun ka => (jn2 ka.cells).bind fun j =>
  some (decide (m ≤ 9223372036854775807) && (inW j.nx 65536 && l.all hfF), { v := .b (hsB j.nx none l), n, rd := [a] })
 | _, _, _ => none
theorem s53 : SoundAt Tryz.prog 53 k53 := fun args h n c E hc ht => by
 unfold k53 at hc
 split at hc
 · rename_i L m a
   simp only [Option.bind_eq_some_iff] at hc
   obtain ⟨l, hl, ka, hka, j, hj, he⟩ := hc
   cases he
   simp only [Bool.and_eq_true, decide_eq_true_eq] at ht
   obtain ⟨rfl, hlm⟩ := unrows_eq (f := Flt.Hf.l) (fun c a h => hf5_eq h) hl
   subst hlm
   refine CallOK.viewG (by kernel_rfl) (argsF := [.fz (rows Flt.Hf.l l) l.length, .fn 54 [.fp ka.cells 0]]) ⟨VwV.same (by simp only [AV.bel, hrB]), VwV.fn ⟨VwV.p (by simp [only, inl_cons, hka]) (by rw [jn2_eq hj]; exact j.bel), trivial⟩, trivial⟩ rfl ?_
   rw [jn2_eq hj]
   exact w53 j ht.2.1 l ht.1 ht.2.2
 · cases hc
def TC14b : List (Nat × Ct) := [(48, k48), (53, k53)]
theorem hTC14b : Sound Tryz.prog (cxT TC14b) := Sound.cons s48 (Sound.cons s53 Sound.nil)
def jnF (j : Jn) : Bool := decide (j.hs.length ≤ 9223372036854775807) && j.hs.all hfF
theorem w21 (j : Jn) (hf : jnF j = true) : FTL Tryz.prog 21 [.agg j.a] [] 0 (.i .i64 (if jnB j then 0 else 191)) [] 0 := by
 have hj2 := jn2_a j
 have hu : unrows 5 hf5 j.hs.length (rows Flt.Hf.l j.hs) = some j.hs := unrows_rows Flt.Hf.len hf5_l j.hs
 have hB : jnB j = (inW j.nx 65536 && hsB j.nx none j.hs) := rfl
 have hb := fun i => hrB i j.hs
 simp only [jnF, Bool.and_eq_true] at hf
 obtain ⟨hf1, hf2⟩ := hf
 obtain ⟨nx, hs⟩ := j
 simp only [Jn.a] at hj2 ⊢
 dsimp only at hB hf1 hf2 hu hb
 refine FTL.of_iw hTC14b mo Tryz.func21 i21_eq (by simp [i21]) (iw_of_jw ?_)
 dsimp only [i21, TC14b]
 rw [hB]
 cases a : inW nx 65536
 · simp (maxSteps := 400000) only [go_sem, k48, a, AV.bel, belL, nblt, hb, Bool.false_and, Bool.false_eq_true, simprocAttr]
   exact Ends.pureE rfl rfl
 have hsn : ∀ (h : Hp) n b, hget h b = some { cells := [.i .i64 nx, .fz (rows Flt.Hf.l hs) hs.length] } → k53 [.fz (rows Flt.Hf.l hs) hs.length, .fn 54 [.p b 0]] h n = some (true, { v := .b (hsB nx none hs), n, rd := [b] }) := fun h n b hb => by
  simp only [k53, hu, Option.bind_some, hb, hj2, hf1, a, hf2, Bool.and_self]
 cases c : hsB nx none hs
 · simp (maxSteps := 400000) only [go_sem, k48, a, c, hsn, AV.bel, belL, nblt, hb, Bool.true_and, Bool.false_eq_true, simprocAttr]
   exact Ends.pureE rfl rfl
 · simp (maxSteps := 400000) only [go_sem, k48, a, c, hsn, AV.bel, belL, nblt, hb, Bool.true_and, simprocAttr]
   exact Ends.pureE rfl rfl
def k21 : Ct
 | [.agg c], _, n => (jn2 c).bind fun j => some (jnF j, { v := .i .i64 (if jnB j then 0 else 191), n })
 | _, _, _ => none
theorem s21 : SoundAt Tryz.prog 21 k21 := fun args h n c E hc ht => by
 unfold k21 at hc
 split at hc
 · simp only [Option.bind_eq_some_iff] at hc
   obtain ⟨j, hj, he⟩ := hc
   cases he
   rw [jn2_eq hj]
   exact CallOK.pure (by kernel_rfl) (by simp only [belL, AV.bel, j.bel, Bool.and_self]) rfl (w21 j ht) _ _
 · cases hc
end Go.Proofs.Flz
end
