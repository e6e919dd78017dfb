/- Contracts of chapter 29: lines, trends, what is done to a state. -/
import Derived.Test.YtiacdfhaopnekaaArrP2
import Derived.Test.YtiacdfhaopnekaaArrC3
import Derived.Test.YtiacdfhaopnekaaAbShs
namespace Go.Proofs.Arr
open Go.Ab
set_option maxRecDepth 100000
set_option maxHeartbeats 8000000
set_option linter.unusedSimpArgs false
set_option linter.unusedVariables false

def T38 : List (Nat × Ct) := [(50, k50)]
theorem hT38 : Sound Try.prog (cxT T38) := Sound.cons s50 Sound.nil
theorem shNe10 {s : Sh} : shNe 1 (s.v 0) = true := shNe_v (by decide)
theorem w38 (s : Sh) (l : List Pt) (hs : Sh.pts s l) (hl : nearB l = true) : FTL Try.prog 38 [s.v 0] (s.h 0) 1 (.tup [.i .i64 (lineN l), .i .i64 (lineD l)]) (s.h 0) 1 := by
  refine FTL.of_iw hT38 mo Try.func38 i38_eq (by simp [i38]) (iw_of_jw ?_)
  dsimp only [i38, T38]
  have hrd := rd_pts hs
  have hp := hs.pl
  have hln := hs.ln
  obtain ⟨p1, p2, p3, p4⟩ := line_rng hl
  have n1 := line_N hl
  have n2 := line_D hl
  have q1 : IntKind.i64.wrap (l.length * sumI (fun x y => x * y) l l.length) = l.length * sumI (fun x y => x * y) l l.length := wrapL (by omega) (by omega)
  have q2 : IntKind.i64.wrap (l.length * sumI (fun x _ => x * x) l l.length) = l.length * sumI (fun x _ => x * x) l l.length := wrapL (by omega) (by omega)
  have q3 : IntKind.i64.wrap (sumI (fun x _ => x) l l.length * sumI (fun _ y => y) l l.length) = sumI (fun x _ => x) l l.length * sumI (fun _ y => y) l l.length := wrapL (by omega) (by omega)
  have q4 : IntKind.i64.wrap (sumI (fun x _ => x) l l.length * sumI (fun x _ => x) l l.length) = sumI (fun x _ => x) l l.length * sumI (fun x _ => x) l l.length := wrapL (by omega) (by omega)
  have q5 : IntKind.i64.wrap (lineN l) = lineN l := wrapL (by omega) (by omega)
  have q6 : IntKind.i64.wrap (lineD l) = lineD l := wrapL (by omega) (by omega)
  have f1 : l.length * sumI (fun x y => x * y) l l.length - sumI (fun x _ => x) l l.length * sumI (fun _ y => y) l l.length = lineN l := rfl
  have f2 : l.length * sumI (fun x _ => x * x) l l.length - sumI (fun x _ => x) l l.length * sumI (fun x _ => x) l l.length = lineD l := rfl
  simp (config := { maxSteps := 400000 }) only [go_sem, k50, boxV, sumOf, hrd, hln, hl, shNe10, q1, q2, q3, q4, q5, q6, f1, f2, simprocAttr]
  exact Ends.s1 hp rfl rfl (by simp [hasS_cons, hasS_hit, hasS_hit0])
theorem w39 (s : Sh) (l : List Pt) (hs : Sh.pts s l) (hl : nearB l = true) : FTL Try.prog 39 [s.v 0] (s.h 0) 1 (.tup [.i .i64 (lineN l), .i .i64 (lineD l)]) (s.h 0) 1 := by
  refine FTL.of_iw Sound.nil mo Try.func39 i39_eq (by simp [i39]) (iw_of_jw ?_)
  dsimp only [i39]
  have hp := hs.pl
  have hln := hs.ln
  have hlen := near_len hl
  obtain ⟨p1, p2, p3, p4⟩ := line_rng hl
  have n1 := line_N hl
  have n2 := line_D hl
  have q1 : IntKind.i64.wrap (l.length * sumI (fun x y => x * y) l l.length) = l.length * sumI (fun x y => x * y) l l.length := wrapL (by omega) (by omega)
  have q2 : IntKind.i64.wrap (l.length * sumI (fun x _ => x * x) l l.length) = l.length * sumI (fun x _ => x * x) l l.length := wrapL (by omega) (by omega)
  have q3 : IntKind.i64.wrap (sumI (fun x _ => x) l l.length * sumI (fun _ y => y) l l.length) = sumI (fun x _ => x) l l.length * sumI (fun _ y => y) l l.length := wrapL (by omega) (by omega)
  have q4 : IntKind.i64.wrap (sumI (fun x _ => x) l l.length * sumI (fun x _ => x) l l.length) = sumI (fun x _ => x) l l.length * sumI (fun x _ => x) l l.length := wrapL (by omega) (by omega)
  have q5 : IntKind.i64.wrap (lineN l) = lineN l := wrapL (by omega) (by omega)
  have q6 : IntKind.i64.wrap (lineD l) = lineD l := wrapL (by omega) (by omega)
  have f1 : l.length * sumI (fun x y => x * y) l l.length - sumI (fun x _ => x) l l.length * sumI (fun _ y => y) l l.length = lineN l := rfl
  have f2 : l.length * sumI (fun x _ => x * x) l l.length - sumI (fun x _ => x) l l.length * sumI (fun x _ => x) l l.length = lineD l := rfl
  simp (config := { maxSteps := 400000 }) only [go_sem, simprocAttr]
  refine Loop.countI (F := ⟨Try.prog, cxT [], [14], 69, 1⟩) Sound.nil mo l.length (fun k => True)
    (fun k => [(0, s.v 0), (4, .i .i64 (sumI (fun x _ => x) l k)), (5, .i .i64 (sumI (fun _ y => y) l k)), (6, .i .i64 (sumI (fun x _ => x * x) l k)), (7, .i .i64 (sumI (fun x y => x * y) l k)), (8, .i .i64 (k : Int))])
    (fun k => s.h 0) 1 (by decide) trivial ?_ ?_ (fun k hk _ => ?_)
  · simp (config := { maxSteps := 400000 }) only [go_sem, sumI, AV.bel, belL, nblt, hln, simprocAttr]
  · exact hpIn_h hp (by decide) (by simp [hasS_cons, hasS_hit0])
  · by_cases hlt : k < l.length
    · have hne : s ≠ .nil := hs.ne (by rintro rfl; simp at hlt)
      obtain ⟨hrow, hx, hy⟩ := at_of (hs.cells hne).1
      have c1 : decide ((k : Int) < (l.length : Int)) = true := decide_eq_true (by omega)
      have c2 : decide (0 ≤ (k : Int) ∧ (k : Int) < (l.length : Int)) = true := decide_eq_true (by omega)
      have c0 : decide ((0 : Int) < (l.length : Int)) = true := decide_eq_true (by omega)
      have xk := hx k hlt
      have yk := hy k hlt
      have x0 := hx 0 (by omega)
      have y0 := hy 0 (by omega)
      rw [Nat.zero_mul, Nat.add_zero] at x0 y0
      have hsp := slParts_v (b := 0) hne
      have hga0 : hget (s.h 0) 0 = some s.blk := hget_at0 hne
      have hw : IntKind.i64.wrap ((k : Int) + 1) = ((k + 1 : Nat) : Int) := by rw [wrapL (by omega) (by omega)]; omega
      have g := near_at hl hlt
      have g0 := near_at hl (show 0 < l.length by omega)
      have g1 := g.x1; have g2 := g.x2; have g3 := g.y1; have g4 := g.y2; have g5 := g0.x1; have g6 := g0.x2; have g7 := g0.y1; have g8 := g0.y2
      have e1 : IntKind.i64.wrap (pX l k - pX l 0) = pX l k - pX l 0 := wrapL (by omega) (by omega)
      have e2 : IntKind.i64.wrap (pY l k - pY l 0) = pY l k - pY l 0 := wrapL (by omega) (by omega)
      have b1 := bnd_xy _ _ g.a1 g.a2 g.b1 g.b2
      have b2 := bnd_xx _ _ g.a1 g.a2 g.b1 g.b2
      dsimp only at b1 b2
      have e3 : IntKind.i64.wrap ((pX l k - pX l 0) * (pY l k - pY l 0)) = (pX l k - pX l 0) * (pY l k - pY l 0) := wrapL (by omega) (by omega)
      have e4 : IntKind.i64.wrap ((pX l k - pX l 0) * (pX l k - pX l 0)) = (pX l k - pX l 0) * (pX l k - pX l 0) := wrapL (by omega) (by omega)
      have r1 := sum_rng bnd_x hl (k + 1) (by omega)
      have r2 := sum_rng bnd_y hl (k + 1) (by omega)
      have r3 := sum_rng bnd_xx hl (k + 1) (by omega)
      have r4 := sum_rng bnd_xy hl (k + 1) (by omega)
      have z1 : sumI (fun x _ => x) l (k + 1) = sumI (fun x _ => x) l k + (pX l k - pX l 0) := rfl
      have z2 : sumI (fun _ y => y) l (k + 1) = sumI (fun _ y => y) l k + (pY l k - pY l 0) := rfl
      have z3 : sumI (fun x _ => x * x) l (k + 1) = sumI (fun x _ => x * x) l k + (pX l k - pX l 0) * (pX l k - pX l 0) := rfl
      have z4 : sumI (fun x y => x * y) l (k + 1) = sumI (fun x y => x * y) l k + (pX l k - pX l 0) * (pY l k - pY l 0) := rfl
      rw [z1] at r1 ⊢
      rw [z2] at r2 ⊢
      rw [z3] at r3 ⊢
      rw [z4] at r4 ⊢
      have t1 : IntKind.i64.wrap (sumI (fun x _ => x) l k + (pX l k - pX l 0)) = sumI (fun x _ => x) l k + (pX l k - pX l 0) := wrapL (by omega) (by omega)
      have t2 : IntKind.i64.wrap (sumI (fun _ y => y) l k + (pY l k - pY l 0)) = sumI (fun _ y => y) l k + (pY l k - pY l 0) := wrapL (by omega) (by omega)
      have t3 : IntKind.i64.wrap (sumI (fun x _ => x * x) l k + (pX l k - pX l 0) * (pX l k - pX l 0)) = sumI (fun x _ => x * x) l k + (pX l k - pX l 0) * (pX l k - pX l 0) := wrapL (by omega) (by omega)
      have t4 : IntKind.i64.wrap (sumI (fun x y => x * y) l k + (pX l k - pX l 0) * (pY l k - pY l 0)) = sumI (fun x y => x * y) l k + (pX l k - pX l 0) * (pY l k - pY l 0) := wrapL (by omega) (by omega)
      have hX := hpIn_h (n := 1) (b := 0) (s := s) (h := s.h 0) hp (by decide) (by simp [hasS_hit0])
      simp (config := { maxSteps := 400000 }) only [go_sem, c1, c2, c0, xk, yk, x0, y0, hsp, hga0, hw, e1, e2, e3, e4, t1, t2, t3, t4, hln, hlt, AV.bel, belL, nblt, hX, simprocAttr]
    · have c1 : decide ((k : Int) < (l.length : Int)) = false := decide_eq_false (by omega)
      have hkl : k = l.length := by omega
      subst hkl
      simp (config := { maxSteps := 400000 }) only [go_sem, c1, hln, q1, q2, q3, q4, q5, q6, f1, f2, simprocAttr]
      exact Ends.s1 hp rfl rfl (by simp [hasS_cons, hasS_hit0])
def k38 : Ct
  | [v], h, n => (shAt v h).bind fun s => (rdL ptV 2 s).bind fun l => some (nearB l, { v := .tup [.i .i64 (lineN l), .i .i64 (lineD l)], n := n + 1, rd := shR v })
  | _, _, _ => none
theorem s38 : SoundAt Try.prog 38 k38 := fun args h n c E hc ht => by
  unfold k38 at hc
  split at hc
  · simp only [Option.bind_eq_some_iff] at hc
    obtain ⟨s, hs, l, hl, he⟩ := hc
    cases he
    have hp := pts_rd hl
    have := CallOK.sh1 (n := n) (A := fun b => [s.v b]) (by kernel_rfl) (by simp [belL, v_bel]) hs hp.pl (fun ψ => by simp [renL, v_ren]) (fun h0 i => by subst h0; rfl) rfl (w38 s l hp ht)
    rwa [← (shAt_inv hs).1] at this
  · cases hc
theorem s39 : SoundAt Try.prog 39 k38 := fun args h n c E hc ht => by
  unfold k38 at hc
  split at hc
  · simp only [Option.bind_eq_some_iff] at hc
    obtain ⟨s, hs, l, hl, he⟩ := hc
    cases he
    have hp := pts_rd hl
    have := CallOK.sh1 (n := n) (A := fun b => [s.v b]) (by kernel_rfl) (by simp [belL, v_bel]) hs hp.pl (fun ψ => by simp [renL, v_ren]) (fun h0 i => by subst h0; rfl) rfl (w39 s l hp ht)
    rwa [← (shAt_inv hs).1] at this
  · cases hc
/-- The cells of a state that is changed. -/
def Tr.c (t : Tr) (v : AV) (sent got : Int) : List AV := t.l v ++ [.i .i64 sent, .i .i64 got]
theorem Tr.c_ren (t : Tr) (s : Sh) (a b : Int) (ψ : Nat → Nat) (i : Nat) : renL ψ (t.c (s.v i) a b) = t.c (s.v (ψ i)) a b := by simp [Tr.c, Tr.l, renL, AV.ren, v_ren]
theorem Tr.c_bel (t : Tr) (s : Sh) (a b : Int) {i m : Nat} (h : i < m) : belL m (t.c (s.v i) a b) = true := by simp [Tr.c, Tr.l, belL, AV.bel, v_bel h]
theorem Tr.c_nil (t : Tr) {s : Sh} (a b : Int) (h : s = .nil) (i j : Nat) : t.c (s.v i) a b = t.c (s.v j) a b := by subst h; rfl
def T44 : List (Nat × Ct) := [(38, k38), (43, k43)]
theorem hT44 : Sound Try.prog (cxT T44) := Sound.cons s38 <| Sound.cons s43 Sound.nil
theorem w44 (t : Tr) (s : Sh) (l : List Pt) (sent got : Int) (hs : Sh.pts s l) (hl : nearB l = true) (h1 : 1 ≤ l.length) (hc : inI 0 60 t.cnt = true) : FTL Try.prog 44 [.p 0 0] ((0, { cells := t.c (s.v 1) sent got }) :: s.h 1) 2 (.i .i64 (trendN l t.cnt)) ((0, { cells := t.c (s.v 1) sent got }) :: s.h 1) 2 := by
  refine FTL.of_iw hT44 mo Try.func44 i44_eq (by simp [i44]) (iw_of_jw ?_)
  dsimp only [i44, T44]
  have hrd := rd_pts hs
  have hp := hs.pl
  have hln := hs.ln
  have hlen := near_len hl
  have hne : s ≠ .nil := hs.ne (by rintro rfl; simp at h1)
  obtain ⟨hrow, hx, hy⟩ := at_of (hs.cells hne).1
  have r0 := hrow 0 (by omega)
  have rl := hrow (l.length - 1) (by omega)
  have x0 := hx 0 (by omega)
  have xl := hx (l.length - 1) (by omega)
  rw [Nat.zero_mul, Nat.add_zero] at x0 r0
  have hsp := slParts_v (b := 1) hne
  have hga0 : hget (s.h 1) 1 = some s.blk := hget_at0 hne
  have c0 : decide ((0 : Int) < (l.length : Int)) = true := decide_eq_true (by omega)
  have q2 : IntKind.i64.wrap ((l.length : Int) - 1) = ((l.length - 1 : Nat) : Int) := by rw [wrapL (by omega) (by omega)]; omega
  have c3 : decide (0 ≤ ((l.length - 1 : Nat) : Int) ∧ ((l.length - 1 : Nat) : Int) < (l.length : Int)) = true := decide_eq_true (by omega)
  have hC := Tr.c_ren t s sent got (rn []) 1
  have hb := Tr.c_bel t s sent got (show 1 < 2 by decide)
  have h0 : ∀ r : Hp, hget ((0, ({ cells := t.c (s.v 1) sent got } : Blk)) :: r) 0 = some { cells := t.c (s.v 1) sent got } := fun r => by simp [hget]
  by_cases hX : pX l 0 = pX l (l.length - 1)
  · have hT : trendN l t.cnt = 0 := by simp [trendN, hX]
    have e1 : (pX l 0 == pX l (l.length - 1)) = true := by simp [hX]
    have e2 : (pX l 0 != pX l (l.length - 1)) = false := by simp [hX]
    rw [hT]
    simp (config := { maxSteps := 400000 }) only [go_sem, Tr.c, Tr.l, c0, c3, q2, r0, rl, x0, xl, hsp, hga0, hln, e1, e2, simprocAttr]
    repeat' (first | refine spB_i (fun _ => ?_) (fun _ => ?_) | refine andB_i ?_ ?_)
    all_goals exact Ends.boxM (C := fun i => t.c (s.v i) sent got) hp rfl rfl hC hb (by simp [hget, Tr.c, Tr.l]) (by simp [hasS_cons, hasS_hit0])
  · have hT : trendN l t.cnt = 4 * t.cnt * lineN l / lineD l := by simp [trendN, hX]
    have e1 : (pX l 0 == pX l (l.length - 1)) = false := by simp [hX]
    have e2 : (pX l 0 != pX l (l.length - 1)) = true := by simp [hX]
    have hD := lineD_pos h1 (fun e => hX e.symm)
    have n1 := line_N hl
    have n2 := line_D hl
    have hc' := inI_iff.1 hc
    have m1 := mul_rng (A := 240) (B := 2147483648000000) (x := 4 * t.cnt) (y := lineN l) (by omega) (by omega) n1.1 n1.2 (by decide) (by decide)
    have w1 : IntKind.i64.wrap (4 * t.cnt) = 4 * t.cnt := wrapL (by omega) (by omega)
    have w2 : IntKind.i64.wrap (4 * t.cnt * lineN l) = 4 * t.cnt * lineN l := wrapL (by omega) (by omega)
    have hd : divOK (4 * t.cnt * lineN l) (lineD l) = true := by
      simp only [divOK, Bool.and_eq_true, decide_eq_true_eq, inI_iff]
      omega
    rw [hT]
    simp (config := { maxSteps := 400000 }) only [go_sem, Tr.c, Tr.l, c0, c3, q2, r0, rl, x0, xl, hsp, hga0, hln, e1, e2, k38, k43, hrd, hl, w1, w2, hd, simprocAttr]
    exact Ends.boxM (C := fun i => t.c (s.v i) sent got) hp rfl rfl hC hb (by simp [hget_cons, Tr.c, Tr.l]) (by simp [hasS_cons, hasS_hit0])
end Go.Proofs.Arr
