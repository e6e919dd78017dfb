/- Contracts of chapter 29: the reference's points; printed by arrc8.py. -/
import Derived.Test.YtiacdfhaopnekaaArrP3
import Derived.Test.YtiacdfhaopnekaaArrC4
namespace Go.Proofs.Arr
open Go.Ab
set_option maxRecDepth 100000
set_option maxHeartbeats 8000000
set_option linter.unusedSimpArgs false
set_option linter.unusedVariables false
theorem w29 (x : Int) : FTL Try.prog 29 [.i .i64 x] [] 0 (.b (inI 0 1099511627776 x)) [] 0 := by
  refine FTL.of_iw Sound.nil mo Try.func29 i29_eq (by simp [i29]) (iw_of_jw ?_)
  dsimp only [i29]
  simp (config := { maxSteps := 400000 }) only [go_sem, simprocAttr]
  repeat' (first | refine spB_i (fun _ => ?_) (fun _ => ?_) | refine andB_i ?_ ?_)
  all_goals (refine Ends.pureE rfl (congrArg _ ?_); simp [inI, *])
def k29 : Ct
  | [.i .i64 x], _, n => some (true, { v := .b (inI 0 1099511627776 x), n })
  | _, _, _ => none
theorem s29 : SoundAt Try.prog 29 k29 := fun args h n c E hc ht => by
  unfold k29 at hc
  split at hc
  · cases hc; exact CallOK.pure (by kernel_rfl) rfl rfl (w29 _) _ _
  · cases hc
theorem w30 (x : Int) : FTL Try.prog 30 [.i .i64 x] [] 0 (.b !(inI (-1099511627776) 1099511627776 x)) [] 0 := by
  refine FTL.of_iw Sound.nil mo Try.func30 i30_eq (by simp [i30]) (iw_of_jw ?_)
  dsimp only [i30]
  simp (config := { maxSteps := 400000 }) only [go_sem, simprocAttr]
  repeat' (first | refine spB_i (fun _ => ?_) (fun _ => ?_) | refine andB_i ?_ ?_)
  all_goals (refine Ends.pureE rfl (congrArg _ ?_); simp only [inI, decide_eq_true_eq, decide_eq_false_iff_not] at *; grind)
def k30 : Ct
  | [.i .i64 x], _, n => some (true, { v := .b !(inI (-1099511627776) 1099511627776 x), n })
  | _, _, _ => none
theorem s30 : SoundAt Try.prog 30 k30 := fun args h n c E hc ht => by
  unfold k30 at hc
  split at hc
  · cases hc; exact CallOK.pure (by kernel_rfl) rfl rfl (w30 _) _ _
  · cases hc
/-- The reference's words: one point of a list, and all. -/
def ptR (l : List Pt) (i : Nat) : Bool := inI 0 M40 (pX l i) && inI (-M40) M40 (pY l i) && (i == 0 || decide (pX l (i - 1) ≤ pX l i)) && decide (pX l i - pX l 0 ≤ 40000) && inI (-67108864) 67108864 (pY l i - pY l 0)
def ptsR (l : List Pt) : Bool := (List.range l.length).all (ptR l) && decide (l.length ≤ 20)
def nearI' (l : List Pt) (last : Int) (i : Nat) : Bool := (i == 0 || decide (pX l i - pX l (i - 1) ≤ 2000)) && (!(i + 1 == l.length) || pX l i == last)
def nearR (l : List Pt) (last : Int) : Bool := (List.range l.length).all (nearI' l last)
theorem all_no {p : Nat → Bool} {n i : Nat} (hi : i < n) (h : p i = false) : (List.range n).all p = false := by
  cases hp : (List.range n).all p with
  | false => rfl
  | true =>
    simp only [List.all_eq_true, List.mem_range] at hp
    rw [hp i hi] at h; cases h
theorem all_yes {p : Nat → Bool} {n : Nat} (h : ∀ i, i < n → p i = true) : (List.range n).all p = true := by
  simpa only [List.all_eq_true, List.mem_range] using h
def T31 : List (Nat × Ct) := [(29, k29), (30, k30)]
theorem hT31 : Sound Try.prog (cxT T31) := Sound.cons s29 <| Sound.cons s30 Sound.nil
theorem Ends.s1x {s : Sh} {n : Nat} {v v2 : AV} {L : Hp} (hp : s.plain = true) (hv : v = v2) (hb : v2.bel 0 = true) (hh : hasS L s 0) : Go.Ab.Ends 1 v L n v2 (s.h 0) 1 := Ends.s1 hp hv hb hh
theorem w31 (s : Sh) (l : List Pt) (hs : Sh.pts s l) (hl : l.length ≤ 1000000000000) : FTL Try.prog 31 [s.v 0] (s.h 0) 1 (.b (ptsR l)) (s.h 0) 1 := by
  refine FTL.of_iw hT31 mo Try.func31 i31_eq (by simp [i31]) (iw_of_jw ?_)
  dsimp only [i31, T31]
  have hp := hs.pl
  have hln := hs.ln
  generalize hR : ptsR l = R
  by_cases h20 : 20 < l.length
  · have d : decide ((20 : Int) < (l.length : Int)) = true := decide_eq_true (by omega)
    have hf : R = false := by rw [← hR]; simp only [ptsR, show decide (l.length ≤ 20) = false from decide_eq_false (by omega), Bool.and_false]
    simp (config := { maxSteps := 400000 }) only [go_sem, hln, d, simprocAttr]
    exact Ends.s1 hp (by rw [hf]) rfl (by simp [hasS_hit0])
  have d20 : decide ((20 : Int) < (l.length : Int)) = false := decide_eq_false (by omega)
  have hle : decide (l.length ≤ 20) = true := decide_eq_true (by omega)
  simp (config := { maxSteps := 400000 }) only [go_sem, hln, d20, simprocAttr]
  refine Loop.countI (F := ⟨Try.prog, cxT T31, [7, 11, 59, 75], 76, 1⟩) hT31 mo l.length (fun k => ∀ i, i < k → ptR l i = true)
    (fun k => [(0, s.v 0), (3, .i .i64 (k : Int))])
    (fun k => s.h 0) 1 (by decide) (by simp) ?_ ?_ (fun k hk ho => ?_)
  · simp (config := { maxSteps := 400000 }) only [go_sem, AV.bel, belL, nblt, simprocAttr]
  · exact hpIn_h hp (by decide) (by simp [hasS_cons, hasS_hit0])
  · dsimp only [T31]
    by_cases hlt : k < l.length
    · have hne : s ≠ .nil := hs.ne (by rintro rfl; simp at hlt)
      obtain ⟨hrow, hx, hy⟩ := at_of (hs.cells hne).1
      have c1 : decide ((k : Int) < (l.length : Int)) = true := decide_eq_true (by omega)
      have c2 : decide (0 ≤ (k : Int) ∧ (k : Int) < (l.length : Int)) = true := decide_eq_true (by omega)
      have c0 : decide ((0 : Int) < (l.length : Int)) = true := decide_eq_true (by omega)
      have xk := hx k hlt
      have yk := hy k hlt
      have x0 := hx 0 (by omega)
      have y0 := hy 0 (by omega)
      rw [Nat.zero_mul, Nat.add_zero] at x0 y0
      have hsp := slParts_v (b := 0) hne
      have hga0 : hget (s.h 0) 0 = some s.blk := hget_at0 hne
      have hw : IntKind.i64.wrap ((k : Int) + 1) = ((k + 1 : Nat) : Int) := by rw [wrapL (by omega) (by omega)]; omega
      have hno : ptR l k = false → R = false := fun h => by rw [← hR]; simp only [ptsR, all_no hlt h, Bool.false_and]
      have hX := hpIn_h (n := 1) (b := 0) (s := s) (h := s.h 0) hp (by decide) (by simp [hasS_hit0])
      have p0 : 0 < k → ptR l 0 = true := fun h => ho 0 h
      cases a1 : inI 0 1099511627776 (pX l k)
      · have hf : R = false := hno (by simp only [ptR, M40, a1, Bool.false_and])
        simp (config := { maxSteps := 400000 }) only [go_sem, c1, c2, c0, xk, yk, x0, y0, hsp, hga0, k29, k30, a1, hln, simprocAttr]
        exact Ends.s1 hp (by rw [hf]) rfl (by simp [hasS_hit0])
      cases a2 : inI (-1099511627776) 1099511627776 (pY l k)
      · have hf : R = false := hno (by simp only [ptR, M40, a1, a2, Bool.false_and, Bool.and_false])
        simp (config := { maxSteps := 400000 }) only [go_sem, c1, c2, c0, xk, yk, x0, y0, hsp, hga0, k29, k30, a1, a2, hln, simprocAttr]
        exact Ends.s1 hp (by rw [hf]) rfl (by simp [hasS_hit0])
      have b1 := inI_iff.1 a1
      have b2 := inI_iff.1 a2
      have q0 : (0 ≤ pX l 0 ∧ pX l 0 ≤ 1099511627776) ∧ (-1099511627776 ≤ pY l 0 ∧ pY l 0 ≤ 1099511627776) := by
        by_cases hk0 : k = 0
        · subst hk0; exact ⟨b1, b2⟩
        · have := p0 (by omega)
          simp only [ptR, M40, Bool.and_eq_true] at this
          exact ⟨inI_iff.1 this.1.1.1.1, inI_iff.1 this.1.1.1.2⟩
      have q1 : IntKind.i64.wrap (pX l k - pX l 0) = pX l k - pX l 0 := wrapL (by omega) (by omega)
      have q2 : IntKind.i64.wrap (pY l k - pY l 0) = pY l k - pY l 0 := wrapL (by omega) (by omega)
      -- the rest, behind the test of order
      have key : ∀ e, (k == 0 || decide (pX l (k - 1) ≤ pX l k)) = e → ptR l k = (e && decide (pX l k - pX l 0 ≤ 40000) && inI (-67108864) 67108864 (pY l k - pY l 0)) := fun e he => by simp only [ptR, M40, a1, a2, he, Bool.true_and, Bool.and_self]
      have z1 : decide (40000 < pX l k - pX l 0) = !(decide (pX l k - pX l 0 ≤ 40000)) := by rw [Bool.eq_iff_iff]; simp
      have z2 : inI (-67108864) 67108864 (pY l k - pY l 0) = (!(decide (67108864 < pY l k - pY l 0)) && !(decide (pY l k - pY l 0 < -67108864))) := by rw [Bool.eq_iff_iff, inI_iff]; simp; omega
      by_cases hk0 : k = 0
      · have d0 : decide ((0 : Int) < (k : Int)) = false := decide_eq_false (by omega)
        have he := key true (by simp [hk0])
        rcases Bool.eq_false_or_eq_true (decide (40000 < pX l k - pX l 0)) with a4 | a4
        · have hf : R = false := hno (by rw [he]; rw [z1] at a4; simp only [Bool.not_eq_true'] at a4; simp only [a4, Bool.and_false, Bool.false_and])
          simp (config := { maxSteps := 400000 }) only [go_sem, c1, c2, c0, xk, yk, x0, y0, hsp, hga0, k29, k30, a1, a2, hln, q1, q2, d0, a4, simprocAttr]
          exact Ends.s1 hp (by rw [hf]) rfl (by simp [hasS_hit0])
        rcases Bool.eq_false_or_eq_true (decide (67108864 < pY l k - pY l 0)) with a5 | a5
        · have hf : R = false := hno (by rw [he, z2, a5]; simp only [Bool.not_true, Bool.false_and, Bool.and_false])
          simp (config := { maxSteps := 400000 }) only [go_sem, c1, c2, c0, xk, yk, x0, y0, hsp, hga0, k29, k30, a1, a2, hln, q1, q2, d0, a4, a5, simprocAttr]
          exact Ends.s1 hp (by rw [hf]) rfl (by simp [hasS_hit0])
        rcases Bool.eq_false_or_eq_true (decide (pY l k - pY l 0 < -67108864)) with a6 | a6
        · have hf : R = false := hno (by rw [he, z2, a5, a6]; simp only [Bool.not_true, Bool.false_and, Bool.and_false])
          simp (config := { maxSteps := 400000 }) only [go_sem, c1, c2, c0, xk, yk, x0, y0, hsp, hga0, k29, k30, a1, a2, hln, q1, q2, d0, a4, a5, a6, simprocAttr]
          exact Ends.s1 hp (by rw [hf]) rfl (by simp [hasS_hit0])
        have hg : ptR l k = true := by rw [he, z2, a5, a6]; rw [z1] at a4; simp only [Bool.not_eq_false'] at a4; simp only [a4, Bool.not_false, Bool.and_self]
        simp (config := { maxSteps := 400000 }) only [go_sem, c1, c2, c0, xk, yk, x0, y0, hsp, hga0, k29, k30, a1, a2, hln, q1, q2, d0, a4, a5, a6, hw, hlt, AV.bel, belL, nblt, hX, simprocAttr]
        exact fun i hi => by
          rcases Nat.lt_succ_iff_lt_or_eq.1 hi with h | h
          · exact ho i h
          · rw [h]; exact hg
      · have d0 : decide ((0 : Int) < (k : Int)) = true := decide_eq_true (by omega)
        have q3 : IntKind.i64.wrap ((k : Int) - 1) = ((k - 1 : Nat) : Int) := by rw [wrapL (by omega) (by omega)]; omega
        have x1 := hx (k - 1) (by omega)
        have c3 : decide (0 ≤ ((k - 1 : Nat) : Int) ∧ ((k - 1 : Nat) : Int) < (l.length : Int)) = true := decide_eq_true (by omega)
        cases a3 : decide (pX l k < pX l (k - 1))
        · have he := key true (by have := of_decide_eq_false a3; simp; omega)
          rcases Bool.eq_false_or_eq_true (decide (40000 < pX l k - pX l 0)) with a4 | a4
          · have hf : R = false := hno (by rw [he]; rw [z1] at a4; simp only [Bool.not_eq_true'] at a4; simp only [a4, Bool.and_false, Bool.false_and])
            simp (config := { maxSteps := 400000 }) only [go_sem, c1, c2, c0, xk, yk, x0, y0, hsp, hga0, k29, k30, a1, a2, hln, q1, q2, d0, q3, x1, c3, a3, a4, simprocAttr]
            exact Ends.s1 hp (by rw [hf]) rfl (by simp [hasS_hit0])
          rcases Bool.eq_false_or_eq_true (decide (67108864 < pY l k - pY l 0)) with a5 | a5
          · have hf : R = false := hno (by rw [he, z2, a5]; simp only [Bool.not_true, Bool.false_and, Bool.and_false])
            simp (config := { maxSteps := 400000 }) only [go_sem, c1, c2, c0, xk, yk, x0, y0, hsp, hga0, k29, k30, a1, a2, hln, q1, q2, d0, q3, x1, c3, a3, a4, a5, simprocAttr]
            exact Ends.s1 hp (by rw [hf]) rfl (by simp [hasS_hit0])
          rcases Bool.eq_false_or_eq_true (decide (pY l k - pY l 0 < -67108864)) with a6 | a6
          · have hf : R = false := hno (by rw [he, z2, a5, a6]; simp only [Bool.not_true, Bool.false_and, Bool.and_false])
            simp (config := { maxSteps := 400000 }) only [go_sem, c1, c2, c0, xk, yk, x0, y0, hsp, hga0, k29, k30, a1, a2, hln, q1, q2, d0, q3, x1, c3, a3, a4, a5, a6, simprocAttr]
            exact Ends.s1 hp (by rw [hf]) rfl (by simp [hasS_hit0])
          have hg : ptR l k = true := by rw [he, z2, a5, a6]; rw [z1] at a4; simp only [Bool.not_eq_false'] at a4; simp only [a4, Bool.not_false, Bool.and_self]
          simp (config := { maxSteps := 400000 }) only [go_sem, c1, c2, c0, xk, yk, x0, y0, hsp, hga0, k29, k30, a1, a2, hln, q1, q2, d0, q3, x1, c3, a3, a4, a5, a6, hw, hlt, AV.bel, belL, nblt, hX, simprocAttr]
          exact fun i hi => by
            rcases Nat.lt_succ_iff_lt_or_eq.1 hi with h | h
            · exact ho i h
            · rw [h]; exact hg
        · have he := key false (by have := of_decide_eq_true a3; simp [hk0]; omega)
          have hf : R = false := hno (by rw [he]; rfl)
          simp (config := { maxSteps := 400000 }) only [go_sem, c1, c2, c0, xk, yk, x0, y0, hsp, hga0, k29, k30, a1, a2, hln, d0, q3, x1, c3, a3, simprocAttr]
          exact Ends.s1 hp (by rw [hf]) rfl (by simp [hasS_hit0])
    · have c1 : decide ((k : Int) < (l.length : Int)) = false := decide_eq_false (by omega)
      have hkl : k = l.length := by omega
      have hfo : R = true := by rw [← hR]; simp only [ptsR, all_yes (p := ptR l) (n := l.length) (fun i hi => ho i (by omega)), hle, Bool.and_self]
      simp (config := { maxSteps := 400000 }) only [go_sem, c1, hln, simprocAttr]
      exact Ends.s1 hp (by rw [hfo]) rfl (by simp [hasS_hit0])
def k31 : Ct
  | [v], h, n => (shAt v h).bind fun s => (rdL ptV 2 s).bind fun l => some (decide (l.length ≤ 1000000000000), { v := .b (ptsR l), n := n + 1, rd := shR v })
  | _, _, _ => none
theorem s31 : SoundAt Try.prog 31 k31 := fun args h n c E hc ht => by
  unfold k31 at hc
  split at hc
  · simp only [Option.bind_eq_some_iff] at hc
    obtain ⟨s, hs, l, hl, he⟩ := hc
    cases he
    simp only [decide_eq_true_eq] at ht
    have hp := pts_rd hl
    have := CallOK.sh1 (n := n) (A := fun b => [s.v b]) (by kernel_rfl) (by simp [belL, v_bel]) hs hp.pl (fun ψ => by simp [renL, v_ren]) (fun h0 i => by subst h0; rfl) rfl (w31 s l hp ht)
    rwa [← (shAt_inv hs).1] at this
  · cases hc
theorem w32 (s : Sh) (l : List Pt) (hs : Sh.pts s l) (last : Int) (hr : ptsR l = true) : FTL Try.prog 32 [s.v 0, .i .i64 last] (s.h 0) 1 (.b (nearR l last)) (s.h 0) 1 := by
  refine FTL.of_iw Sound.nil mo Try.func32 i32_eq (by simp [i32]) (iw_of_jw ?_)
  dsimp only [i32]
  have hp := hs.pl
  have hln := hs.ln
  generalize hR : nearR l last = R
  simp only [ptsR, Bool.and_eq_true, List.all_eq_true, List.mem_range, decide_eq_true_eq] at hr
  have hxr : ∀ i, i < l.length → 0 ≤ pX l i ∧ pX l i ≤ 1099511627776 := fun i hi => by
    have := hr.1 i hi
    simp only [ptR, M40, Bool.and_eq_true] at this
    exact inI_iff.1 this.1.1.1.1
  have h20 := hr.2
  simp (config := { maxSteps := 400000 }) only [go_sem, hln, simprocAttr]
  refine Loop.countI (F := ⟨Try.prog, cxT [], [9, 44], 45, 1⟩) Sound.nil mo l.length (fun k => ∀ i, i < k → nearI' l last i = true)
    (fun k => [(0, s.v 0), (1, .i .i64 last), (5, .i .i64 (k : Int))])
    (fun k => s.h 0) 1 (by decide) (by simp) ?_ ?_ (fun k hk ho => ?_)
  · simp (config := { maxSteps := 400000 }) only [go_sem, AV.bel, belL, nblt, simprocAttr]
  · exact hpIn_h hp (by decide) (by simp [hasS_cons, hasS_hit0])
  · by_cases hlt : k < l.length
    · have hne : s ≠ .nil := hs.ne (by rintro rfl; simp at hlt)
      obtain ⟨hrow, hx, hy⟩ := at_of (hs.cells hne).1
      have c1 : decide ((k : Int) < (l.length : Int)) = true := decide_eq_true (by omega)
      have c2 : decide (0 ≤ (k : Int) ∧ (k : Int) < (l.length : Int)) = true := decide_eq_true (by omega)
      have xk := hx k hlt
      have hsp := slParts_v (b := 0) hne
      have hga0 : hget (s.h 0) 0 = some s.blk := hget_at0 hne
      have hw : IntKind.i64.wrap ((k : Int) + 1) = ((k + 1 : Nat) : Int) := by rw [wrapL (by omega) (by omega)]; omega
      have hno : nearI' l last k = false → R = false := fun h => by rw [← hR]; simp only [nearR, all_no hlt h]
      have hX := hpIn_h (n := 1) (b := 0) (s := s) (h := s.h 0) hp (by decide) (by simp [hasS_hit0])
      have q4 : IntKind.i64.wrap ((l.length : Int) - 1) = ((l.length - 1 : Nat) : Int) := by rw [wrapL (by omega) (by omega)]; omega
      have z3 : ((k : Int) == ((l.length - 1 : Nat) : Int)) = (k + 1 == l.length) := by rw [Bool.eq_iff_iff]; simp; omega
      have key : ∀ e, (k == 0 || decide (pX l k - pX l (k - 1) ≤ 2000)) = e → nearI' l last k = (e && (!(k + 1 == l.length) || pX l k == last)) := fun e he => by simp only [nearI', he]
      have bn : (pX l k != last) = !(pX l k == last) := rfl
      by_cases hk0 : k = 0
      · have d0 : decide ((0 : Int) < (k : Int)) = false := decide_eq_false (by omega)
        have he := key true (by simp [hk0])
        cases a4 : (k + 1 == l.length)
        · have hg : nearI' l last k = true := by rw [he, a4]; rfl
          simp (config := { maxSteps := 400000 }) only [go_sem, c1, c2, xk, hsp, hga0, hln, q4, z3, d0, a4, hw, hlt, AV.bel, belL, nblt, hX, simprocAttr]
          exact fun i hi => by
            rcases Nat.lt_succ_iff_lt_or_eq.1 hi with h | h
            · exact ho i h
            · rw [h]; exact hg
        cases a5 : (pX l k == last)
        · have hf : R = false := hno (by rw [he, a4, a5]; rfl)
          simp (config := { maxSteps := 400000 }) only [go_sem, c1, c2, xk, hsp, hga0, hln, q4, z3, d0, a4, bn, a5, simprocAttr]
          exact Ends.s1 hp (by rw [hf]) rfl (by simp [hasS_hit0])
        · have hg : nearI' l last k = true := by rw [he, a4, a5]; rfl
          simp (config := { maxSteps := 400000 }) only [go_sem, c1, c2, xk, hsp, hga0, hln, q4, z3, d0, a4, bn, a5, hw, hlt, AV.bel, belL, nblt, hX, simprocAttr]
          exact fun i hi => by
            rcases Nat.lt_succ_iff_lt_or_eq.1 hi with h | h
            · exact ho i h
            · rw [h]; exact hg
      · have d0 : decide ((0 : Int) < (k : Int)) = true := decide_eq_true (by omega)
        have q3 : IntKind.i64.wrap ((k : Int) - 1) = ((k - 1 : Nat) : Int) := by rw [wrapL (by omega) (by omega)]; omega
        have x1 := hx (k - 1) (by omega)
        have c3 : decide (0 ≤ ((k - 1 : Nat) : Int) ∧ ((k - 1 : Nat) : Int) < (l.length : Int)) = true := decide_eq_true (by omega)
        have r1 := hxr k hlt
        have r2 := hxr (k - 1) (by omega)
        have q5 : IntKind.i64.wrap (pX l k - pX l (k - 1)) = pX l k - pX l (k - 1) := wrapL (by omega) (by omega)
        cases a3 : decide (2000 < pX l k - pX l (k - 1))
        · have he := key true (by have := of_decide_eq_false a3; simp; omega)
          cases a4 : (k + 1 == l.length)
          · have hg : nearI' l last k = true := by rw [he, a4]; rfl
            simp (config := { maxSteps := 400000 }) only [go_sem, c1, c2, xk, hsp, hga0, hln, q4, z3, d0, q3, x1, c3, q5, a3, a4, hw, hlt, AV.bel, belL, nblt, hX, simprocAttr]
            exact fun i hi => by
              rcases Nat.lt_succ_iff_lt_or_eq.1 hi with h | h
              · exact ho i h
              · rw [h]; exact hg
          cases a5 : (pX l k == last)
          · have hf : R = false := hno (by rw [he, a4, a5]; rfl)
            simp (config := { maxSteps := 400000 }) only [go_sem, c1, c2, xk, hsp, hga0, hln, q4, z3, d0, q3, x1, c3, q5, a3, a4, bn, a5, simprocAttr]
            exact Ends.s1 hp (by rw [hf]) rfl (by simp [hasS_hit0])
          · have hg : nearI' l last k = true := by rw [he, a4, a5]; rfl
            simp (config := { maxSteps := 400000 }) only [go_sem, c1, c2, xk, hsp, hga0, hln, q4, z3, d0, q3, x1, c3, q5, a3, a4, bn, a5, hw, hlt, AV.bel, belL, nblt, hX, simprocAttr]
            exact fun i hi => by
              rcases Nat.lt_succ_iff_lt_or_eq.1 hi with h | h
              · exact ho i h
              · rw [h]; exact hg
        · have he := key false (by have := of_decide_eq_true a3; simp [hk0]; omega)
          have hf : R = false := hno (by rw [he]; rfl)
          simp (config := { maxSteps := 400000 }) only [go_sem, c1, c2, xk, hsp, hga0, hln, q4, z3, d0, q3, x1, c3, q5, a3, simprocAttr]
          exact Ends.s1 hp (by rw [hf]) rfl (by simp [hasS_hit0])
    · have c1 : decide ((k : Int) < (l.length : Int)) = false := decide_eq_false (by omega)
      have hkl : k = l.length := by omega
      have hfo : R = true := by rw [← hR]; exact all_yes (fun i hi => ho i (by omega))
      simp (config := { maxSteps := 400000 }) only [go_sem, c1, hln, simprocAttr]
      exact Ends.s1 hp (by rw [hfo]) rfl (by simp [hasS_hit0])
def k32 : Ct
  | [v, .i .i64 last], h, n => (shAt v h).bind fun s => (rdL ptV 2 s).bind fun l => some (ptsR l, { v := .b (nearR l last), n := n + 1, rd := shR v })
  | _, _, _ => none
theorem s32 : SoundAt Try.prog 32 k32 := fun args h n c E hc ht => by
  unfold k32 at hc
  split at hc
  · rename_i v last
    simp only [Option.bind_eq_some_iff] at hc
    obtain ⟨s, hs, l, hl, he⟩ := hc
    cases he
    have hp := pts_rd hl
    have := CallOK.sh1 (n := n) (A := fun b => [s.v b, .i .i64 last]) (by kernel_rfl) (by simp [belL, AV.bel, v_bel]) hs hp.pl (fun ψ => by simp [renL, AV.ren, v_ren]) (fun h0 i => by subst h0; rfl) rfl (w32 s l hp last ht)
    rwa [← (shAt_inv hs).1] at this
  · cases hc
end Go.Proofs.Arr
