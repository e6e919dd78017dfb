/- Texts laid as one: LysC4 LysC5. -/
import Derived.Test.YtkpiibllomjeaaaLysCa
import Derived.Test.YtkpiibllomjeaaaLysI3
import Derived.Test.YtkpiibllomjeaaaAbGvs
import Derived.Test.YtkpiibllomjeaaaAbWka
import Derived.Test.YtkpiibllomjeaaaAbRfs
section
/- Chapter 41: Needs, Want, New, Same. -/
namespace Go.Proofs.Lys
open Go.Ab
set_option maxRecDepth 100000
set_option maxHeartbeats 4000000
set_option linter.unusedSimpArgs false
set_option linter.unusedVariables false
theorem VwV.agg {h : Hp} {rd : List Nat} {l m : List AV} (hl : VwL h rd l m) : VwV h rd (.agg l) (.agg m) := fun D D' φ w u hH hv => by
 cases hv with
 | agg _ cs hlen hh =>
  refine .agg m cs (by rw [← hlen, hl.len]) (fun i b u hb hu => ?_)
  obtain ⟨a, h1, h2⟩ := hl.get hb
  exact h2 D D' φ w u hH (hh i a u h1 hu)
def swK {β : Type} (h : Hp) (c : List AV) (k : Sw → List Nat → Bool → Option β) : Option β := match c with
 | [v, .i .i64 ou, .i .i64 st, .i .i64 nw, .i .i64 wa, .i .i64 ca, .i .i64 ai, .i .i64 tp, .i .i64 fr, .b kp, .i .i64 sq, .i .i64 tm, .i .i64 id, .i .i64 ba, .i .i64 ss, .i .i64 sT, .i .i64 si, .i .i64 sb] =>
  vwK h 1 v fun rd m cs ok => (unrows 1 intV m cs).bind fun l => k ⟨l, ou, st, nw, wa, ca, ai, tp, fr, kp, sq, tm, id, ba, ss, sT, si, sb⟩ rd ok
 | _ => none
def k48 : Ct
 | [.agg c], h, n => swK h c fun s rd ok => some (ok, { v := .b (goodW s), n, rd })
 | _, _, _ => none
theorem s48 : SoundAt Try.prog 48 k48 := fun args h n c E hc ht => by
 unfold k48 at hc
 split at hc
 · unfold swK at hc
   split at hc
   · rename_i v ou st nw wa ca ai tp fr kp sq tm id ba ss sT si sb
     rw [vwK_eq] at hc
     simp only [Option.bind_eq_some_iff, Option.some.injEq, Prod.mk.injEq] at hc
     obtain ⟨⟨rd, m, cs, ok⟩, hv, l, hl, hc, rfl⟩ := hc
     subst hc
     dsimp only at ht
     subst ht
     obtain ⟨rfl, rfl⟩ := unrows_eq (f := int1) (fun c a h => intV_eq c a h) hl
     refine CallOK.viewG (argsF := [.agg (Sw.a ⟨l, ou, st, nw, wa, ca, ai, tp, fr, kp, sq, tm, id, ba, ss, sT, si, sb⟩)]) (by kernel_rfl) ?_ rfl (w48 _)
     refine ⟨VwV.agg ⟨fun D D' φ w u hH hx => VRel.view hH hx hv (ib 0 l), VwV.same rfl, VwV.same rfl, VwV.same rfl, VwV.same rfl, VwV.same rfl, VwV.same rfl, VwV.same rfl, VwV.same rfl, VwV.same rfl, VwV.same rfl, VwV.same rfl, VwV.same rfl, VwV.same rfl, VwV.same rfl, VwV.same rfl, VwV.same rfl, VwV.same rfl, trivial⟩, trivial⟩
   · cases hc
 · cases hc
/-! Needs -/
def needsS (s : Sw) : Int × Int := bif goodW s then (bif decide (s.wa < 0) || s.wa == s.nw then (0, 4) else (s.wa, 0)) else (0, 410)
theorem good_len {s : Sw} (h : goodW s = true) : 1 ≤ s.l.length ∧ s.l.length ≤ 3 := by
 simp only [goodW, inI, Bool.and_eq_true, decide_eq_true_eq] at h
 omega
def T10 : List (Nat × Ct) := [(12, k12)]
theorem hT10 : Sound Try.prog (cxT T10) := Sound.cons s12 Sound.nil
theorem w10 (s : Sw) (hl : s.l.length ≤ 9223372036854775807) : FTL Try.prog 10 [.agg s.a] [] 0 (.tup [.i .i64 (needsS s).1, .i .i64 (needsS s).2]) [] 0 := by
 have hR : needsS s = bif goodW s then (bif decide (s.wa < 0) || s.wa == s.nw then (0, 4) else (s.wa, 0)) else (0, 410) := rfl
 have hsw := swA_a s
 have hll : decide (s.l.length ≤ 9223372036854775807) = true := decide_eq_true hl
 generalize needsS s = R at *
 refine FTL.of_iw hT10 mo Try.func10 i10_eq (by simp [i10]) (iw_of_jw ?_)
 dsimp only [i10, T10]
 generalize hg : goodW s = gd at *
 obtain ⟨l, ou, st, nw, wa, ca, ai, tp, fr, kp, sq, tm, id, ba, ss, sT, si, sb⟩ := s
 simp only [Sw.a] at hsw ⊢
 dsimp only at hl hR hll
 cases gd
 · simp (maxSteps := 400000) only [go_sem, k12, hsw, hll, hg, Bool.false_eq_true, if_false, simprocAttr]
   exact Ends.pureE rfl (by rw [hR]; rfl)
 cases a1 : decide (wa < 0)
 · cases a2 : (wa == nw)
   · simp (maxSteps := 400000) only [go_sem, k12, hsw, hll, hg, if_true, a1, a2, simprocAttr]
     exact Ends.pureE rfl (by rw [hR, a1, a2]; rfl)
   · simp (maxSteps := 400000) only [go_sem, k12, hsw, hll, hg, if_true, a1, a2, simprocAttr]
     exact Ends.pureE rfl (by rw [hR, a1, a2]; rfl)
 · simp (maxSteps := 400000) only [go_sem, k12, hsw, hll, hg, if_true, a1, simprocAttr]
   exact Ends.pureE rfl (by rw [hR, a1]; rfl)
/-! Clone -/
theorem w53 (l : List Int) (hz : 8 * l.length ≤ growMax) : FTL Try.prog 53 [.fz (rows int1 l) l.length] [] 0 (.fz (rows int1 l) l.length) [] 0 :=
 cln_f (z := 1) (bytes := 8) (zs := [.i .i64 0]) mo Try.func53 i53_eq (by simp [rows_len int1_len]) (rows_one1 (fun _ => rfl) l) (ib 0 l) hz
def k53 : Ct
 | [.fz L m], _, n => (unrows 1 intV m L).bind fun l => some (decide (8 * l.length ≤ growMax), { v := .fz (rows int1 l) l.length, n })
 | _, _, _ => none
theorem s53 : SoundAt Try.prog 53 k53 := fun args h n c E hc ht => by
 unfold k53 at hc
 split at hc
 · simp only [Option.bind_eq_some_iff, Option.some.injEq, Prod.mk.injEq] at hc
   obtain ⟨l, hl, rfl, rfl⟩ := hc
   obtain ⟨rfl, rfl⟩ := unrows_eq (f := int1) (fun c a h => intV_eq c a h) hl
   exact CallOK.pure (by kernel_rfl) (by simp only [belL, AV.bel, ib, Bool.and_self]) (by simp only [AV.bel, ib]) (w53 _ (of_decide_eq_true ht)) _ _
 · cases hc
/-! Want -/
def zSw : Sw := ⟨[], 0, 0, 0, 0, 0, 0, 0, 0, false, 0, 0, 0, 0, 0, 0, 0, 0⟩
def swV (r : Sw × Int) : AV := .tup [.agg r.1.a, .i .i64 r.2]
theorem swV_bel (r : Sw × Int) : (swV r).bel 0 = true := by simp only [swV, AV.bel, belL, Sw.bel, Bool.and_self]
def offS (s : Sw) (ai : Int) : Sw := ⟨s.l, s.ou, s.st, -1, -1, 0, ai, 0, 0, false, 0, 0, 0, 0, s.ss, s.sT, s.si, s.sb⟩
def wantS (s : Sw) (la ai : Int) : Sw × Int :=
 bif goodW s then (bif inI (-1) ((s.l.length : Int) - 1) la && inI 0 3 ai then (bif decide (la < 0) then offS s ai else { s with wa := la, ai := ai }, 0) else (zSw, 2)) else (zSw, 410)
theorem covZ {e : Int} {h : Hp} {n : Nat} : CovS 0 (.tup [.agg [.ns, .i .i64 0, .i .i64 0, .i .i64 0, .i .i64 0, .i .i64 0, .i .i64 0, .i .i64 0, .i .i64 0, .b false, .i .i64 0, .i .i64 0, .i .i64 0, .i .i64 0, .i .i64 0, .i .i64 0, .i .i64 0, .i .i64 0], .i .i64 e]) h n (swV (zSw, e)) [] 0 := by
 refine CovS.frzN (l := []) (v' := swV (zSw, e)) (FzV.tup ⟨FzV.agg ⟨FzV.hit, FzV.refl, FzV.refl, FzV.refl, FzV.refl, FzV.refl, FzV.refl, FzV.refl, FzV.refl, FzV.refl, FzV.refl, FzV.refl, FzV.refl, FzV.refl, FzV.refl, FzV.refl, FzV.refl, FzV.refl, trivial⟩, FzV.refl, trivial⟩) ?_
 exact CovS.ends (Ends.pureE rfl rfl)
def T14 : List (Nat × Ct) := [(12, k12), (49, k49), (53, k53)]
theorem hT14 : Sound Try.prog (cxT T14) := Sound.cons s12 (Sound.cons s49 (Sound.cons s53 Sound.nil))
theorem w14 (s : Sw) (la aim : Int) (hl : s.l.length ≤ 9223372036854775807) : FTL Try.prog 14 [.agg s.a, .i .i64 la, .i .i64 aim] [] 0 (swV (wantS s la aim)) [] 0 := by
 have hR : wantS s la aim = bif goodW s then (bif inI (-1) ((s.l.length : Int) - 1) la && inI 0 3 aim then (bif decide (la < 0) then offS s aim else { s with wa := la, ai := aim }, 0) else (zSw, 2)) else (zSw, 410) := rfl
 have hsw := swA_a s
 have hll : decide (s.l.length ≤ 9223372036854775807) = true := decide_eq_true hl
 have hlen : IntKind.i64.wrap ((s.l.length : Int) - 1) = (s.l.length : Int) - 1 := wrapL (by omega) (by omega)
 have hgr : goodW s = true → decide (8 * s.l.length ≤ growMax) = true := fun h => decide_eq_true (by have := good_len h; simp only [growMax]; omega)
 generalize wantS s la aim = R at *
 refine FTL.of_cov hT14 mo Try.func14 i14_eq (by simp [i14]) (iw_of_jw ?_)
 dsimp only [i14, T14]
 generalize hg : goodW s = gd at *
 obtain ⟨l, ou, st, nw, wa, ca, ai, tp, fr, kp, sq, tm, id, ba, ss, sT, si, sb⟩ := s
 simp only [Sw.a] at hsw ⊢
 dsimp only at hl hR hll hlen hgr
 cases gd
 · simp (maxSteps := 400000) only [go_sem, k12, hsw, hll, hg, Bool.false_eq_true, if_false, simprocAttr]
   rw [hR]
   exact covZ
 have hgr := hgr rfl
 cases a1 : inI (-1) ((l.length : Int) - 1) la
 · simp (maxSteps := 400000) only [go_sem, k12, k49, hsw, hll, hg, if_true, hlen, a1, simprocAttr]
   rw [hR, a1]
   exact covZ
 cases a2 : inI 0 3 aim
 · simp (maxSteps := 400000) only [go_sem, k12, k49, hsw, hll, hg, if_true, hlen, a1, a2, simprocAttr]
   rw [hR, a1, a2]
   exact covZ
 cases a3 : decide (la < 0)
 all_goals (
  simp (maxSteps := 400000) only [go_sem, k12, k49, k53, hsw, hll, hg, if_true, hlen, a1, a2, a3, i_un, hgr, simprocAttr]
  rw [hR, a1, a2, a3]
  exact CovS.ends (Ends.pureE (by simp only [AV.bel, belL, ib, Bool.and_self]) rfl))
end Go.Proofs.Lys
end
section
/- Chapter 41: copied, the reference's Want, New, Same. -/
namespace Go.Proofs.Lys
open Go.Ab
set_option maxRecDepth 100000
set_option maxHeartbeats 4000000
set_option linter.unusedSimpArgs false
set_option linter.unusedVariables false
def k14 : Ct
 | [.agg c, .i .i64 la, .i .i64 aim], _, n => (swA c).bind fun s => some (decide (s.l.length ≤ 9223372036854775807), { v := swV (wantS s la aim), n })
 | _, _, _ => none
theorem s14 : SoundAt Try.prog 14 k14 := fun args h n c E hc ht => by
 unfold k14 at hc
 split at hc
 · simp only [Option.bind_eq_some_iff, Option.some.injEq, Prod.mk.injEq] at hc
   obtain ⟨s, hs, rfl, rfl⟩ := hc
   rw [swA_eq hs]
   exact CallOK.pure (by kernel_rfl) (by simp only [belL, AV.bel, Sw.bel, Bool.and_self]) (swV_bel _) (w14 _ _ _ (of_decide_eq_true ht)) _ _
 · cases hc
/-! New -/
def newS (l : List Int) (ou st a b c d : Int) : Sw × Int :=
 bif goodW ⟨l, ou, st, -1, -1, 0, 0, 0, 0, false, 0, 0, 0, 0, a, b, c, d⟩ then (⟨l, ou, st, -1, -1, 0, 0, 0, 0, false, 0, 0, 0, 0, a, b, c, d⟩, 0) else (zSw, 2)
def T17 : List (Nat × Ct) := [(12, k12), (53, k53)]
theorem hT17 : Sound Try.prog (cxT T17) := Sound.cons s12 (Sound.cons s53 Sound.nil)
theorem w17 (l : List Int) (ou st a b c d : Int) (hl : 8 * l.length ≤ growMax) : FTL Try.prog 17 [.fz (rows int1 l) l.length, .i .i64 ou, .i .i64 st, .agg [.i .i64 a, .i .i64 b, .i .i64 c, .i .i64 d]] [] 0 (swV (newS l ou st a b c d)) [] 0 := by
 have hR : newS l ou st a b c d = bif goodW ⟨l, ou, st, -1, -1, 0, 0, 0, 0, false, 0, 0, 0, 0, a, b, c, d⟩ then (⟨l, ou, st, -1, -1, 0, 0, 0, 0, false, 0, 0, 0, 0, a, b, c, d⟩, 0) else (zSw, 2) := rfl
 have hsw := swA_a ⟨l, ou, st, -1, -1, 0, 0, 0, 0, false, 0, 0, 0, 0, a, b, c, d⟩
 simp only [Sw.a] at hsw
 have hgr : decide (8 * l.length ≤ growMax) = true := decide_eq_true hl
 have hll : decide (l.length ≤ 9223372036854775807) = true := decide_eq_true (by simp only [growMax] at hl; omega)
 generalize newS l ou st a b c d = R at *
 refine FTL.of_cov hT17 mo Try.func17 i17_eq (by simp [i17]) (iw_of_jw ?_)
 dsimp only [i17, T17]
 cases hg : goodW ⟨l, ou, st, -1, -1, 0, 0, 0, 0, false, 0, 0, 0, 0, a, b, c, d⟩
 · simp (maxSteps := 400000) only [go_sem, k12, k53, hsw, hgr, hll, i_un, hg, Bool.false_eq_true, if_false, simprocAttr]
   rw [hR, hg]
   exact covZ
 · simp (maxSteps := 400000) only [go_sem, k12, k53, hsw, hgr, hll, i_un, hg, if_true, simprocAttr]
   rw [hR, hg]
   exact CovS.ends (Ends.pureE (by simp only [AV.bel, belL, ib, Bool.and_self]) rfl)
def k17 : Ct
 | [.fz L m, .i .i64 ou, .i .i64 st, .agg [.i .i64 a, .i .i64 b, .i .i64 c, .i .i64 d]], _, n => (unrows 1 intV m L).bind fun l => some (decide (8 * l.length ≤ growMax), { v := swV (newS l ou st a b c d), n })
 | _, _, _ => none
def T18 : List (Nat × Ct) := [(48, k48)]
theorem hT18 : Sound Try.prog (cxT T18) := Sound.cons s48 Sound.nil
theorem w18 (l : List Int) (ou st a b c d : Int) (hl : 8 * l.length ≤ growMax) : FTL Try.prog 18 [.fz (rows int1 l) l.length, .i .i64 ou, .i .i64 st, .agg [.i .i64 a, .i .i64 b, .i .i64 c, .i .i64 d]] [] 0 (swV (newS l ou st a b c d)) [] 0 := by
 have hR : newS l ou st a b c d = bif goodW ⟨l, ou, st, -1, -1, 0, 0, 0, 0, false, 0, 0, 0, 0, a, b, c, d⟩ then (⟨l, ou, st, -1, -1, 0, 0, 0, 0, false, 0, 0, 0, 0, a, b, c, d⟩, 0) else (zSw, 2) := rfl
 generalize newS l ou st a b c d = R at *
 refine FTL.of_cov hT18 mo Try.func18 i18_eq (by simp [i18]) (iw_of_jw ?_)
 dsimp only [i18, T18]
 cases hg : goodW ⟨l, ou, st, -1, -1, 0, 0, 0, 0, false, 0, 0, 0, 0, a, b, c, d⟩
 · cases l with
   | nil =>
    simp only [rows, List.map_nil, List.flatten_nil, List.length_nil]
    simp (maxSteps := 400000) only [go_sem, k48, swK, hg, vwK_n, unrows, simprocAttr]
    rw [hR, hg]
    exact covZ
   | cons x l =>
    have h1 : List.take ((l.length + 1) * 1) (rows int1 (x :: l)) = rows int1 (x :: l) := List.take_of_length_le (by simp [rows_len int1_len])
    have h1' : List.take (l.length + 1) (rows int1 (x :: l)) = rows int1 (x :: l) := List.take_of_length_le (by simp [rows_len int1_len])
    have h2 : decide (8 * (l.length + 1) ≤ growMax) = true := decide_eq_true (by simpa using hl)
    have h3 : (rows int1 (x :: l)).length = l.length + 1 := by simp [rows_len int1_len]
    have h4 := rows_one1 (f := int1) (fun _ => rfl) (x :: l)
    have h6 := i_un (x :: l)
    rw [List.length_cons] at h6
    generalize rows int1 (x :: l) = L at *
    simp (maxSteps := 400000) only [go_sem, k48, swK, vwK_g, hg, h1, h1', h2, h3, h4, h6, Nat.zero_add, List.drop_zero, Nat.zero_mul, Nat.mul_one, simprocAttr]
    rw [hR, hg]
    exact covZ
 · cases l with
   | nil => exact absurd (good_len hg).1 (by simp)
   | cons x l =>
    have h1 : List.take ((l.length + 1) * 1) (rows int1 (x :: l)) = rows int1 (x :: l) := List.take_of_length_le (by simp [rows_len int1_len])
    have h1' : List.take (l.length + 1) (rows int1 (x :: l)) = rows int1 (x :: l) := List.take_of_length_le (by simp [rows_len int1_len])
    have h2 : decide (8 * (l.length + 1) ≤ growMax) = true := decide_eq_true (by simpa using hl)
    have h3 : (rows int1 (x :: l)).length = l.length + 1 := by simp [rows_len int1_len]
    have h4 := rows_one1 (f := int1) (fun _ => rfl) (x :: l)
    have h5 := ib 0 (x :: l)
    have h6 := i_un (x :: l)
    rw [List.length_cons] at h6
    rw [hR, hg]
    simp only [cond_true, swV, Sw.a, List.length_cons]
    generalize rows int1 (x :: l) = L at *
    simp (maxSteps := 400000) only [go_sem, k48, swK, vwK_g, hg, h1, h1', h2, h3, h4, h6, Nat.zero_add, List.drop_zero, Nat.zero_mul, Nat.mul_one, simprocAttr]
    refine CovS.frz (b := 3) (k := { cells := L, gr := some 1 }) (h' := []) (o := 0) (m := l.length + 1) (cs := L) (v' := .tup [.agg [.fz L (l.length + 1), .i .i64 ou, .i .i64 st, .i .i64 (-1), .i .i64 (-1), .i .i64 0, .i .i64 0, .i .i64 0, .i .i64 0, .b false, .i .i64 0, .i .i64 0, .i .i64 0, .i .i64 0, .i .i64 a, .i .i64 b, .i .i64 c, .i .i64 d], .i .i64 0]) rfl rfl (.inr rfl) (.inl rfl) (FzV.tup ⟨FzV.agg ⟨FzV.hit, FzVs.refl⟩, FzVs.refl⟩) (fun c kk hc => by simp [hget] at hc) ?_
    exact CovS.ends (Ends.pureE (by simp only [AV.bel, belL, h5, Bool.and_self]) rfl)
theorem s18 : SoundAt Try.prog 18 k17 := fun args h n c E hc ht => by
 unfold k17 at hc
 split at hc
 · simp only [Option.bind_eq_some_iff, Option.some.injEq, Prod.mk.injEq] at hc
   obtain ⟨l, hl, rfl, rfl⟩ := hc
   obtain ⟨rfl, rfl⟩ := unrows_eq (f := int1) (fun c a h => intV_eq c a h) hl
   exact CallOK.pure (by kernel_rfl) (by simp only [belL, AV.bel, ib, Bool.and_self]) (swV_bel _) (w18 _ _ _ _ _ _ _ (of_decide_eq_true ht)) _ _
 · cases hc
/-! Check of the reference -/
/-! Same (of equal switches) -/
end Go.Proofs.Lys
end
