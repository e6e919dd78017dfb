/- Contracts of chapter 29: quotients, lines; printed by arrc3.py. -/
import Derived.Test.YtiacdfhaopnekaaArrP1
import Derived.Test.YtiacdfhaopnekaaArrLIR
namespace Go.Proofs.Arr
open Go.Ab
set_option maxRecDepth 100000
set_option maxHeartbeats 8000000
set_option linter.unusedSimpArgs false
set_option linter.unusedVariables false
theorem tdiv_floor {a b : Int} (hb : 0 < b) : a.tdiv b - (if a.tmod b < 0 then 1 else 0) = a / b := by
  have h1 := Int.mul_tdiv_add_tmod a b
  have h2 := Int.tmod_lt_of_pos a hb
  have h3 : -b < a.tmod b := by
    have := Int.natAbs_tmod a b
    have h4 : a.natAbs % b.natAbs < b.natAbs := Nat.mod_lt _ (by omega)
    omega
  generalize a.tdiv b = q at *
  generalize a.tmod b = r at *
  split
  · have : a = b * (q - 1) + (r + b) := by rw [Int.mul_sub]; omega
    rw [this, Int.mul_add_ediv_left _ _ (by omega), Int.ediv_eq_zero_of_lt (by omega) (by omega)]
    omega
  · have : a = b * q + r := h1.symm
    rw [this, Int.mul_add_ediv_left _ _ (by omega), Int.ediv_eq_zero_of_lt (by omega) (by omega)]
    omega
theorem tdiv_rng {a b : Int} (h1 : -4000000000000000000 ≤ a) (h2 : a ≤ 4000000000000000000) : -4000000000000000000 ≤ a.tdiv b ∧ a.tdiv b ≤ 4000000000000000000 := by
  have := Int.natAbs_tdiv_le_natAbs a b
  omega
def divOK (a b : Int) : Bool := decide (0 < b) && inI (-4000000000000000000) 4000000000000000000 a
theorem w43 (a b : Int) (h : divOK a b = true) : FTL Try.prog 43 [.i .i64 a, .i .i64 b] [] 0 (.i .i64 (a / b)) [] 0 := by
  refine FTL.of_iw Sound.nil mo Try.func43 i43_eq (by simp [i43]) (iw_of_jw ?_)
  dsimp only [i43]
  simp only [divOK, Bool.and_eq_true, decide_eq_true_eq, inI_iff] at h
  obtain ⟨hb, h1, h2⟩ := h
  have r1 := tdiv_rng (b := b) h1 h2
  have q1 : IntKind.i64.wrap (a.tdiv b) = a.tdiv b := wrapL (by omega) (by omega)
  have q2 : IntKind.i64.wrap (a.tdiv b - 1) = a.tdiv b - 1 := wrapL (by omega) (by omega)
  have hz : (b != 0) = true := by simp; omega
  have hf := tdiv_floor (a := a) hb
  simp (config := { maxSteps := 400000 }) only [go_sem, q1, q2, hz, simprocAttr]
  repeat' (first | refine spB_i (fun _ => ?_) (fun _ => ?_) | refine andB_i ?_ ?_)
  · rename_i hx; refine Ends.pureE rfl (congrArg _ ?_); rw [if_pos (by simpa using hx)] at hf; exact hf
  · rename_i hx; refine Ends.pureE rfl (congrArg _ ?_); rw [if_neg (by simpa using hx)] at hf; omega
theorem w47 (a b : Int) (h : divOK a b = true) (hb2 : b ≤ 2147483648000000) : FTL Try.prog 47 [.i .i64 a, .i .i64 b] [] 0 (.i .i64 (a / b)) [] 0 := by
  refine FTL.of_iw Sound.nil mo Try.func47 i47_eq (by simp [i47]) (iw_of_jw ?_)
  dsimp only [i47]
  simp only [divOK, Bool.and_eq_true, decide_eq_true_eq, inI_iff] at h
  obtain ⟨hb, h1, h2⟩ := h
  have r1 := tdiv_rng (b := b) h1 h2
  have q1 : IntKind.i64.wrap (a.tdiv b) = a.tdiv b := wrapL (by omega) (by omega)
  have q2 : IntKind.i64.wrap (a.tdiv b - 1) = a.tdiv b - 1 := wrapL (by omega) (by omega)
  have hm := Int.mul_tdiv_add_tmod a b
  have hm' : a.tdiv b * b + a.tmod b = a := by rw [Int.mul_comm]; exact hm
  have h3 : -b < a.tmod b ∧ a.tmod b < b := by
    have h0 := Int.tmod_lt_of_pos a hb
    have := Int.natAbs_tmod a b
    have h4 : a.natAbs % b.natAbs < b.natAbs := Nat.mod_lt _ (by omega)
    omega
  have q3 : IntKind.i64.wrap (a.tdiv b * b) = a.tdiv b * b := wrapL (by omega) (by omega)
  have hz : (b != 0) = true := by simp; omega
  have hf := tdiv_floor (a := a) hb
  simp (config := { maxSteps := 400000 }) only [go_sem, q1, q2, q3, hz, simprocAttr]
  repeat' (first | refine spB_i (fun _ => ?_) (fun _ => ?_) | refine andB_i ?_ ?_)
  · rename_i hx; refine Ends.pureE rfl (congrArg _ ?_); simp only [decide_eq_true_eq] at hx; rw [if_pos (by omega)] at hf; exact hf
  · rename_i hx; refine Ends.pureE rfl (congrArg _ ?_); simp only [decide_eq_false_iff_not] at hx; rw [if_neg (by omega)] at hf; omega
def k43 : Ct
  | [.i .i64 a, .i .i64 b], _, n => some (divOK a b, { v := .i .i64 (a / b), n })
  | _, _, _ => none
theorem s43 : SoundAt Try.prog 43 k43 := fun args h n c E hc ht => by
  unfold k43 at hc
  split at hc
  · cases hc; exact CallOK.pure (by kernel_rfl) rfl rfl (w43 _ _ ht) _ _
  · cases hc
def k47 : Ct
  | [.i .i64 a, .i .i64 b], _, n => some (divOK a b && decide (b ≤ 2147483648000000), { v := .i .i64 (a / b), n })
  | _, _, _ => none
theorem s47 : SoundAt Try.prog 47 k47 := fun args h n c E hc ht => by
  unfold k47 at hc
  split at hc
  · cases hc
    simp only [Bool.and_eq_true, decide_eq_true_eq] at ht
    exact CallOK.pure (by kernel_rfl) rfl rfl (w47 _ _ ht.1 ht.2) _ _
  · cases hc
theorem w51 (x y : Int) (h : (inI 0 40000 x && inI (-67108864) 67108864 y) = true) : FTL Try.prog 51 [.i .i64 x, .i .i64 y] [] 0 (.i .i64 (x)) [] 0 := by
  refine FTL.of_iw Sound.nil mo Try.func51 i51_eq (by simp [i51]) (iw_of_jw ?_)
  dsimp only [i51]
  simp only [Bool.and_eq_true, inI_iff] at h
  have hb := bnd_x x y h.1.1 h.1.2 h.2.1 h.2.2
  dsimp only at hb
  have q : IntKind.i64.wrap (x) = x := wrapL (by omega) (by omega)
  simp (config := { maxSteps := 400000 }) only [go_sem, q, simprocAttr]
  exact Ends.pureE rfl rfl
def k51 : Ct
  | [.i .i64 x, .i .i64 y], _, n => some (inI 0 40000 x && inI (-67108864) 67108864 y, { v := .i .i64 (x), n })
  | _, _, _ => none
theorem s51 : SoundAt Try.prog 51 k51 := fun args h n c E hc ht => by
  unfold k51 at hc
  split at hc
  · cases hc; exact CallOK.pure (by kernel_rfl) rfl rfl (w51 _ _ ht) _ _
  · cases hc
theorem w52 (x y : Int) (h : (inI 0 40000 x && inI (-67108864) 67108864 y) = true) : FTL Try.prog 52 [.i .i64 x, .i .i64 y] [] 0 (.i .i64 (y)) [] 0 := by
  refine FTL.of_iw Sound.nil mo Try.func52 i52_eq (by simp [i52]) (iw_of_jw ?_)
  dsimp only [i52]
  simp only [Bool.and_eq_true, inI_iff] at h
  have hb := bnd_y x y h.1.1 h.1.2 h.2.1 h.2.2
  dsimp only at hb
  have q : IntKind.i64.wrap (y) = y := wrapL (by omega) (by omega)
  simp (config := { maxSteps := 400000 }) only [go_sem, q, simprocAttr]
  exact Ends.pureE rfl rfl
def k52 : Ct
  | [.i .i64 x, .i .i64 y], _, n => some (inI 0 40000 x && inI (-67108864) 67108864 y, { v := .i .i64 (y), n })
  | _, _, _ => none
theorem s52 : SoundAt Try.prog 52 k52 := fun args h n c E hc ht => by
  unfold k52 at hc
  split at hc
  · cases hc; exact CallOK.pure (by kernel_rfl) rfl rfl (w52 _ _ ht) _ _
  · cases hc
theorem w53 (x y : Int) (h : (inI 0 40000 x && inI (-67108864) 67108864 y) = true) : FTL Try.prog 53 [.i .i64 x, .i .i64 y] [] 0 (.i .i64 (x * y)) [] 0 := by
  refine FTL.of_iw Sound.nil mo Try.func53 i53_eq (by simp [i53]) (iw_of_jw ?_)
  dsimp only [i53]
  simp only [Bool.and_eq_true, inI_iff] at h
  have hb := bnd_xy x y h.1.1 h.1.2 h.2.1 h.2.2
  dsimp only at hb
  have q : IntKind.i64.wrap (x * y) = x * y := wrapL (by omega) (by omega)
  simp (config := { maxSteps := 400000 }) only [go_sem, q, simprocAttr]
  exact Ends.pureE rfl rfl
def k53 : Ct
  | [.i .i64 x, .i .i64 y], _, n => some (inI 0 40000 x && inI (-67108864) 67108864 y, { v := .i .i64 (x * y), n })
  | _, _, _ => none
theorem s53 : SoundAt Try.prog 53 k53 := fun args h n c E hc ht => by
  unfold k53 at hc
  split at hc
  · cases hc; exact CallOK.pure (by kernel_rfl) rfl rfl (w53 _ _ ht) _ _
  · cases hc
theorem w54 (x y : Int) (h : (inI 0 40000 x && inI (-67108864) 67108864 y) = true) : FTL Try.prog 54 [.i .i64 x, .i .i64 y] [] 0 (.i .i64 (x * x)) [] 0 := by
  refine FTL.of_iw Sound.nil mo Try.func54 i54_eq (by simp [i54]) (iw_of_jw ?_)
  dsimp only [i54]
  simp only [Bool.and_eq_true, inI_iff] at h
  have hb := bnd_xx x y h.1.1 h.1.2 h.2.1 h.2.2
  dsimp only at hb
  have q : IntKind.i64.wrap (x * x) = x * x := wrapL (by omega) (by omega)
  simp (config := { maxSteps := 400000 }) only [go_sem, q, simprocAttr]
  exact Ends.pureE rfl rfl
def k54 : Ct
  | [.i .i64 x, .i .i64 y], _, n => some (inI 0 40000 x && inI (-67108864) 67108864 y, { v := .i .i64 (x * x), n })
  | _, _, _ => none
theorem s54 : SoundAt Try.prog 54 k54 := fun args h n c E hc ht => by
  unfold k54 at hc
  split at hc
  · cases hc; exact CallOK.pure (by kernel_rfl) rfl rfl (w54 _ _ ht) _ _
  · cases hc
theorem hpIn_h {n b : Nat} {h : Hp} {s : Sh} (hp : s.plain = true) (hb : b < n) (hh : hasS h s b) : HpIn n h (s.h b) := by
  cases s with
  | nil => trivial
  | sl k o l c => exact ⟨hh _ _ (by simp [Sh.h, hget]), belL_mono0 _ hp, hb, trivial⟩
  | sg k o l => exact ⟨hh _ _ (by simp [Sh.h, hget]), belL_mono0 _ hp, hb, trivial⟩
def boxV : Blk → Option AV
  | ⟨[v], false, none, none⟩ => some v
  | _ => none
theorem boxV_eq {k : Blk} {v : AV} (h : boxV k = some v) : k = { cells := [v] } := by
  unfold boxV at h
  split at h
  · cases h; rfl
  · cases h
def shNe (b : Nat) : AV → Bool
  | .sl c _ _ _ => !(Nat.beq b c)
  | .sg c _ _ => !(Nat.beq b c)
  | _ => true
theorem shNe_ne {b : Nat} {v : AV} (h : shNe b v = true) : shR v ≠ [] → b ≠ shB v := by
  cases v <;> simp_all [shNe, shR, shB, nbeq]
theorem shNe_v {b c : Nat} {s : Sh} (h : b ≠ c) : shNe b (s.v c) = true := by
  cases s <;> simp [shNe, Sh.v, nbeq, h]
def sumOf (f : Nat) : Option (Int → Int → Int) := match f with
  | 51 => some fun x _ => x
  | 52 => some fun _ y => y
  | 53 => some fun x y => x * y
  | 54 => some fun x _ => x * x
  | _ => none
def TF : List (Nat × Ct) := [(51, k51), (52, k52), (53, k53), (54, k54)]
theorem hTF : Sound Try.prog (cxT TF) := Sound.cons s51 <| Sound.cons s52 <| Sound.cons s53 <| Sound.cons s54 Sound.nil
theorem inI_t {lo hi x : Int} (h1 : lo ≤ x) (h2 : x ≤ hi) : inI lo hi x = true := inI_iff.2 ⟨h1, h2⟩
theorem hasS_self {s : Sh} {k : Blk} {b c : Nat} (h : b ≠ c) : hasS ((b, k) :: s.h c) s c = True := by rw [hasS_cons h, hasS_hit0]
/-- A box with a slice, looked at. -/
theorem Ends.box {s : Sh} {n : Nat} {r : Hp} {v v2 : AV} (hp : s.plain = true) (hv : v = v2) (hb : v2.bel 0 = true) (h0 : hget r 0 = some { cells := [s.v 1] }) (hh : hasS r s 1) : Go.Ab.Ends 2 v r n v2 ((0, { cells := [s.v 1] }) :: s.h 1) 2 :=
  Go.Ab.Ends.R [] (by decide) (by decide) (by rw [hv, ren_fix0 _ hb]) (by have := belL_mono0 (m := 2) [v2] (by simp [belL, hb]); simpa [belL] using this) (by
    rw [HpR_cons, HpR_app0 hp (by decide)]
    exact ⟨by simp [rn, h0, Blk.ren, renL, v_ren], by simp [belL, v_bel], by decide, hh⟩)
theorem w50_51 (s : Sh) (l : List Pt) (hs : Sh.pts s l) (hl : nearB l = true) : FTL Try.prog 50 [.fn 51 [], .p 0 0] ((0, { cells := [s.v 1] }) :: s.h 1) 2 (.i .i64 (sumI (fun x _ => x) l l.length)) ((0, { cells := [s.v 1] }) :: s.h 1) 2 := by
  refine FTL.of_iw hTF mo Try.func50 i50_eq (by simp [i50]) (iw_of_jw ?_)
  dsimp only [i50, TF]
  have hp := hs.pl
  have hln := hs.ln
  have hlen := near_len hl
  simp (config := { maxSteps := 400000 }) only [go_sem, hln, simprocAttr]
  refine Loop.countI (F := ⟨Try.prog, cxT TF, [10], 33, 2⟩) hTF mo l.length (fun k => True)
    (fun k => [(0, .fn 51 []), (1, .p 0 0), (4, .i .i64 (sumI (fun x _ => x) l k)), (7, s.v 1), (8, .i .i64 (l.length : Int)), (9, .i .i64 (k : Int))])
    (fun k => (0, { cells := [s.v 1] }) :: s.h 1) 2 (by decide) trivial ?_ ?_ (fun k hk _ => ?_)
  · simp (config := { maxSteps := 400000 }) only [go_sem, sumI, AV.bel, belL, nblt, hln, simprocAttr]
  · simp only [HpIn, hget_cons, if_true, belL, v_bel (show 1 < 2 by decide), Bool.and_self, true_and, show (0 : Nat) < 2 by decide]
    exact hpIn_h hp (by decide) (by simp [hasS_cons, hasS_hit0])
  · dsimp only [TF]
    by_cases hlt : k < l.length
    · have hne : s ≠ .nil := hs.ne (by rintro rfl; simp at hlt)
      obtain ⟨hrow, hx, hy⟩ := at_of (hs.cells hne).1
      have c1 : decide ((k : Int) < (l.length : Int)) = true := decide_eq_true (by omega)
      have c2 : decide (0 ≤ (k : Int) ∧ (k : Int) < (l.length : Int)) = true := decide_eq_true (by omega)
      have c0 : decide ((0 : Int) < (l.length : Int)) = true := decide_eq_true (by omega)
      have r0 := hrow k hlt
      have x0 := hx 0 (by omega)
      have y0 := hy 0 (by omega)
      rw [Nat.zero_mul, Nat.add_zero] at x0 y0
      have hsp := slParts_v (b := 1) hne
      have hga0 : hget (s.h 1) 1 = some s.blk := hget_at0 hne
      have hw : IntKind.i64.wrap ((k : Int) + 1) = ((k + 1 : Nat) : Int) := by rw [wrapL (by omega) (by omega)]; omega
      have g := near_at hl hlt
      have g0 := near_at hl (show 0 < l.length by omega)
      have g1 := g.x1; have g2 := g.x2; have g3 := g.y1; have g4 := g.y2; have g5 := g0.x1; have g6 := g0.x2; have g7 := g0.y1; have g8 := g0.y2
      have e1 : IntKind.i64.wrap (pX l k - pX l 0) = pX l k - pX l 0 := wrapL (by omega) (by omega)
      have e2 : IntKind.i64.wrap (pY l k - pY l 0) = pY l k - pY l 0 := wrapL (by omega) (by omega)
      have i1 := inI_t g.a1 g.a2
      have i2 := inI_t g.b1 g.b2
      have hr1 := sum_rng bnd_x hl k (by omega)
      have hr2 := sum_rng bnd_x hl (k + 1) (by omega)
      have e3 : IntKind.i64.wrap (sumI (fun x _ => x) l (k + 1)) = sumI (fun x _ => x) l (k + 1) := wrapL (by omega) (by omega)
      have hS : sumI (fun x _ => x) l (k + 1) = sumI (fun x _ => x) l k + (pX l k - pX l 0) := rfl
      rw [hS] at e3 ⊢
      have hX := hpIn_h (n := 2) (b := 1) (s := s) (h := (2, { cells := [.i .i64 (pX l k), .i .i64 (pY l k)] }) :: (0, { cells := [s.v 1] }) :: s.h 1) hp (by decide) (by simp [hasS_cons, hasS_hit0])
      simp (config := { maxSteps := 400000 }) only [go_sem, c1, c2, c0, r0, x0, y0, hsp, hga0, hw, e1, e2, i1, i2, e3, hln, k51, hlt, AV.bel, belL, nblt, hX, simprocAttr]
    · have c1 : decide ((k : Int) < (l.length : Int)) = false := decide_eq_false (by omega)
      have hkl : k = l.length := by omega
      simp (config := { maxSteps := 400000 }) only [go_sem, c1, simprocAttr]
      exact Ends.box hp (by rw [hkl]) rfl rfl (by simp [hasS_cons, hasS_hit0])
theorem w50_52 (s : Sh) (l : List Pt) (hs : Sh.pts s l) (hl : nearB l = true) : FTL Try.prog 50 [.fn 52 [], .p 0 0] ((0, { cells := [s.v 1] }) :: s.h 1) 2 (.i .i64 (sumI (fun _ y => y) l l.length)) ((0, { cells := [s.v 1] }) :: s.h 1) 2 := by
  refine FTL.of_iw hTF mo Try.func50 i50_eq (by simp [i50]) (iw_of_jw ?_)
  dsimp only [i50, TF]
  have hp := hs.pl
  have hln := hs.ln
  have hlen := near_len hl
  simp (config := { maxSteps := 400000 }) only [go_sem, hln, simprocAttr]
  refine Loop.countI (F := ⟨Try.prog, cxT TF, [10], 33, 2⟩) hTF mo l.length (fun k => True)
    (fun k => [(0, .fn 52 []), (1, .p 0 0), (4, .i .i64 (sumI (fun _ y => y) l k)), (7, s.v 1), (8, .i .i64 (l.length : Int)), (9, .i .i64 (k : Int))])
    (fun k => (0, { cells := [s.v 1] }) :: s.h 1) 2 (by decide) trivial ?_ ?_ (fun k hk _ => ?_)
  · simp (config := { maxSteps := 400000 }) only [go_sem, sumI, AV.bel, belL, nblt, hln, simprocAttr]
  · simp only [HpIn, hget_cons, if_true, belL, v_bel (show 1 < 2 by decide), Bool.and_self, true_and, show (0 : Nat) < 2 by decide]
    exact hpIn_h hp (by decide) (by simp [hasS_cons, hasS_hit0])
  · dsimp only [TF]
    by_cases hlt : k < l.length
    · have hne : s ≠ .nil := hs.ne (by rintro rfl; simp at hlt)
      obtain ⟨hrow, hx, hy⟩ := at_of (hs.cells hne).1
      have c1 : decide ((k : Int) < (l.length : Int)) = true := decide_eq_true (by omega)
      have c2 : decide (0 ≤ (k : Int) ∧ (k : Int) < (l.length : Int)) = true := decide_eq_true (by omega)
      have c0 : decide ((0 : Int) < (l.length : Int)) = true := decide_eq_true (by omega)
      have r0 := hrow k hlt
      have x0 := hx 0 (by omega)
      have y0 := hy 0 (by omega)
      rw [Nat.zero_mul, Nat.add_zero] at x0 y0
      have hsp := slParts_v (b := 1) hne
      have hga0 : hget (s.h 1) 1 = some s.blk := hget_at0 hne
      have hw : IntKind.i64.wrap ((k : Int) + 1) = ((k + 1 : Nat) : Int) := by rw [wrapL (by omega) (by omega)]; omega
      have g := near_at hl hlt
      have g0 := near_at hl (show 0 < l.length by omega)
      have g1 := g.x1; have g2 := g.x2; have g3 := g.y1; have g4 := g.y2; have g5 := g0.x1; have g6 := g0.x2; have g7 := g0.y1; have g8 := g0.y2
      have e1 : IntKind.i64.wrap (pX l k - pX l 0) = pX l k - pX l 0 := wrapL (by omega) (by omega)
      have e2 : IntKind.i64.wrap (pY l k - pY l 0) = pY l k - pY l 0 := wrapL (by omega) (by omega)
      have i1 := inI_t g.a1 g.a2
      have i2 := inI_t g.b1 g.b2
      have hr1 := sum_rng bnd_y hl k (by omega)
      have hr2 := sum_rng bnd_y hl (k + 1) (by omega)
      have e3 : IntKind.i64.wrap (sumI (fun _ y => y) l (k + 1)) = sumI (fun _ y => y) l (k + 1) := wrapL (by omega) (by omega)
      have hS : sumI (fun _ y => y) l (k + 1) = sumI (fun _ y => y) l k + (pY l k - pY l 0) := rfl
      rw [hS] at e3 ⊢
      have hX := hpIn_h (n := 2) (b := 1) (s := s) (h := (2, { cells := [.i .i64 (pX l k), .i .i64 (pY l k)] }) :: (0, { cells := [s.v 1] }) :: s.h 1) hp (by decide) (by simp [hasS_cons, hasS_hit0])
      simp (config := { maxSteps := 400000 }) only [go_sem, c1, c2, c0, r0, x0, y0, hsp, hga0, hw, e1, e2, i1, i2, e3, hln, k52, hlt, AV.bel, belL, nblt, hX, simprocAttr]
    · have c1 : decide ((k : Int) < (l.length : Int)) = false := decide_eq_false (by omega)
      have hkl : k = l.length := by omega
      simp (config := { maxSteps := 400000 }) only [go_sem, c1, simprocAttr]
      exact Ends.box hp (by rw [hkl]) rfl rfl (by simp [hasS_cons, hasS_hit0])
theorem w50_53 (s : Sh) (l : List Pt) (hs : Sh.pts s l) (hl : nearB l = true) : FTL Try.prog 50 [.fn 53 [], .p 0 0] ((0, { cells := [s.v 1] }) :: s.h 1) 2 (.i .i64 (sumI (fun x y => x * y) l l.length)) ((0, { cells := [s.v 1] }) :: s.h 1) 2 := by
  refine FTL.of_iw hTF mo Try.func50 i50_eq (by simp [i50]) (iw_of_jw ?_)
  dsimp only [i50, TF]
  have hp := hs.pl
  have hln := hs.ln
  have hlen := near_len hl
  simp (config := { maxSteps := 400000 }) only [go_sem, hln, simprocAttr]
  refine Loop.countI (F := ⟨Try.prog, cxT TF, [10], 33, 2⟩) hTF mo l.length (fun k => True)
    (fun k => [(0, .fn 53 []), (1, .p 0 0), (4, .i .i64 (sumI (fun x y => x * y) l k)), (7, s.v 1), (8, .i .i64 (l.length : Int)), (9, .i .i64 (k : Int))])
    (fun k => (0, { cells := [s.v 1] }) :: s.h 1) 2 (by decide) trivial ?_ ?_ (fun k hk _ => ?_)
  · simp (config := { maxSteps := 400000 }) only [go_sem, sumI, AV.bel, belL, nblt, hln, simprocAttr]
  · simp only [HpIn, hget_cons, if_true, belL, v_bel (show 1 < 2 by decide), Bool.and_self, true_and, show (0 : Nat) < 2 by decide]
    exact hpIn_h hp (by decide) (by simp [hasS_cons, hasS_hit0])
  · dsimp only [TF]
    by_cases hlt : k < l.length
    · have hne : s ≠ .nil := hs.ne (by rintro rfl; simp at hlt)
      obtain ⟨hrow, hx, hy⟩ := at_of (hs.cells hne).1
      have c1 : decide ((k : Int) < (l.length : Int)) = true := decide_eq_true (by omega)
      have c2 : decide (0 ≤ (k : Int) ∧ (k : Int) < (l.length : Int)) = true := decide_eq_true (by omega)
      have c0 : decide ((0 : Int) < (l.length : Int)) = true := decide_eq_true (by omega)
      have r0 := hrow k hlt
      have x0 := hx 0 (by omega)
      have y0 := hy 0 (by omega)
      rw [Nat.zero_mul, Nat.add_zero] at x0 y0
      have hsp := slParts_v (b := 1) hne
      have hga0 : hget (s.h 1) 1 = some s.blk := hget_at0 hne
      have hw : IntKind.i64.wrap ((k : Int) + 1) = ((k + 1 : Nat) : Int) := by rw [wrapL (by omega) (by omega)]; omega
      have g := near_at hl hlt
      have g0 := near_at hl (show 0 < l.length by omega)
      have g1 := g.x1; have g2 := g.x2; have g3 := g.y1; have g4 := g.y2; have g5 := g0.x1; have g6 := g0.x2; have g7 := g0.y1; have g8 := g0.y2
      have e1 : IntKind.i64.wrap (pX l k - pX l 0) = pX l k - pX l 0 := wrapL (by omega) (by omega)
      have e2 : IntKind.i64.wrap (pY l k - pY l 0) = pY l k - pY l 0 := wrapL (by omega) (by omega)
      have i1 := inI_t g.a1 g.a2
      have i2 := inI_t g.b1 g.b2
      have hr1 := sum_rng bnd_xy hl k (by omega)
      have hr2 := sum_rng bnd_xy hl (k + 1) (by omega)
      have e3 : IntKind.i64.wrap (sumI (fun x y => x * y) l (k + 1)) = sumI (fun x y => x * y) l (k + 1) := wrapL (by omega) (by omega)
      have hS : sumI (fun x y => x * y) l (k + 1) = sumI (fun x y => x * y) l k + (pX l k - pX l 0) * (pY l k - pY l 0) := rfl
      rw [hS] at e3 ⊢
      have hX := hpIn_h (n := 2) (b := 1) (s := s) (h := (2, { cells := [.i .i64 (pX l k), .i .i64 (pY l k)] }) :: (0, { cells := [s.v 1] }) :: s.h 1) hp (by decide) (by simp [hasS_cons, hasS_hit0])
      simp (config := { maxSteps := 400000 }) only [go_sem, c1, c2, c0, r0, x0, y0, hsp, hga0, hw, e1, e2, i1, i2, e3, hln, k53, hlt, AV.bel, belL, nblt, hX, simprocAttr]
    · have c1 : decide ((k : Int) < (l.length : Int)) = false := decide_eq_false (by omega)
      have hkl : k = l.length := by omega
      simp (config := { maxSteps := 400000 }) only [go_sem, c1, simprocAttr]
      exact Ends.box hp (by rw [hkl]) rfl rfl (by simp [hasS_cons, hasS_hit0])
theorem w50_54 (s : Sh) (l : List Pt) (hs : Sh.pts s l) (hl : nearB l = true) : FTL Try.prog 50 [.fn 54 [], .p 0 0] ((0, { cells := [s.v 1] }) :: s.h 1) 2 (.i .i64 (sumI (fun x _ => x * x) l l.length)) ((0, { cells := [s.v 1] }) :: s.h 1) 2 := by
  refine FTL.of_iw hTF mo Try.func50 i50_eq (by simp [i50]) (iw_of_jw ?_)
  dsimp only [i50, TF]
  have hp := hs.pl
  have hln := hs.ln
  have hlen := near_len hl
  simp (config := { maxSteps := 400000 }) only [go_sem, hln, simprocAttr]
  refine Loop.countI (F := ⟨Try.prog, cxT TF, [10], 33, 2⟩) hTF mo l.length (fun k => True)
    (fun k => [(0, .fn 54 []), (1, .p 0 0), (4, .i .i64 (sumI (fun x _ => x * x) l k)), (7, s.v 1), (8, .i .i64 (l.length : Int)), (9, .i .i64 (k : Int))])
    (fun k => (0, { cells := [s.v 1] }) :: s.h 1) 2 (by decide) trivial ?_ ?_ (fun k hk _ => ?_)
  · simp (config := { maxSteps := 400000 }) only [go_sem, sumI, AV.bel, belL, nblt, hln, simprocAttr]
  · simp only [HpIn, hget_cons, if_true, belL, v_bel (show 1 < 2 by decide), Bool.and_self, true_and, show (0 : Nat) < 2 by decide]
    exact hpIn_h hp (by decide) (by simp [hasS_cons, hasS_hit0])
  · dsimp only [TF]
    by_cases hlt : k < l.length
    · have hne : s ≠ .nil := hs.ne (by rintro rfl; simp at hlt)
      obtain ⟨hrow, hx, hy⟩ := at_of (hs.cells hne).1
      have c1 : decide ((k : Int) < (l.length : Int)) = true := decide_eq_true (by omega)
      have c2 : decide (0 ≤ (k : Int) ∧ (k : Int) < (l.length : Int)) = true := decide_eq_true (by omega)
      have c0 : decide ((0 : Int) < (l.length : Int)) = true := decide_eq_true (by omega)
      have r0 := hrow k hlt
      have x0 := hx 0 (by omega)
      have y0 := hy 0 (by omega)
      rw [Nat.zero_mul, Nat.add_zero] at x0 y0
      have hsp := slParts_v (b := 1) hne
      have hga0 : hget (s.h 1) 1 = some s.blk := hget_at0 hne
      have hw : IntKind.i64.wrap ((k : Int) + 1) = ((k + 1 : Nat) : Int) := by rw [wrapL (by omega) (by omega)]; omega
      have g := near_at hl hlt
      have g0 := near_at hl (show 0 < l.length by omega)
      have g1 := g.x1; have g2 := g.x2; have g3 := g.y1; have g4 := g.y2; have g5 := g0.x1; have g6 := g0.x2; have g7 := g0.y1; have g8 := g0.y2
      have e1 : IntKind.i64.wrap (pX l k - pX l 0) = pX l k - pX l 0 := wrapL (by omega) (by omega)
      have e2 : IntKind.i64.wrap (pY l k - pY l 0) = pY l k - pY l 0 := wrapL (by omega) (by omega)
      have i1 := inI_t g.a1 g.a2
      have i2 := inI_t g.b1 g.b2
      have hr1 := sum_rng bnd_xx hl k (by omega)
      have hr2 := sum_rng bnd_xx hl (k + 1) (by omega)
      have e3 : IntKind.i64.wrap (sumI (fun x _ => x * x) l (k + 1)) = sumI (fun x _ => x * x) l (k + 1) := wrapL (by omega) (by omega)
      have hS : sumI (fun x _ => x * x) l (k + 1) = sumI (fun x _ => x * x) l k + (pX l k - pX l 0) * (pX l k - pX l 0) := rfl
      rw [hS] at e3 ⊢
      have hX := hpIn_h (n := 2) (b := 1) (s := s) (h := (2, { cells := [.i .i64 (pX l k), .i .i64 (pY l k)] }) :: (0, { cells := [s.v 1] }) :: s.h 1) hp (by decide) (by simp [hasS_cons, hasS_hit0])
      simp (config := { maxSteps := 400000 }) only [go_sem, c1, c2, c0, r0, x0, y0, hsp, hga0, hw, e1, e2, i1, i2, e3, hln, k54, hlt, AV.bel, belL, nblt, hX, simprocAttr]
    · have c1 : decide ((k : Int) < (l.length : Int)) = false := decide_eq_false (by omega)
      have hkl : k = l.length := by omega
      simp (config := { maxSteps := 400000 }) only [go_sem, c1, simprocAttr]
      exact Ends.box hp (by rw [hkl]) rfl rfl (by simp [hasS_cons, hasS_hit0])
def k50 : Ct
  | [.fn f [], .p b 0], h, n => (hget h b).bind fun k => (boxV k).bind fun v => (shAt v h).bind fun s => (rdL ptV 2 s).bind fun l => (sumOf f).bind fun g =>
    some (nearB l && shNe b v, { v := .i .i64 (sumI g l l.length), n := n + 2, rd := b :: shR v })
  | _, _, _ => none
theorem s50 : SoundAt Try.prog 50 k50 := fun args h n c E hc ht => by
  unfold k50 at hc
  split at hc
  · rename_i f b
    simp only [Option.bind_eq_some_iff] at hc
    obtain ⟨k, hk, v, hv, s, hs, l, hl, g, hg, he⟩ := hc
    cases he
    simp only [Bool.and_eq_true] at ht
    have hp := pts_rd hl
    rw [boxV_eq hv] at hk
    unfold sumOf at hg
    split at hg <;> cases hg
    · exact CallOK.box1 (n := n) (A := fun b => [.fn 51 [], .p b 0]) (by kernel_rfl) rfl hk hs hp.pl (shNe_ne ht.2) (fun ψ => rfl) rfl (w50_51 s l hp ht.1)
    · exact CallOK.box1 (n := n) (A := fun b => [.fn 52 [], .p b 0]) (by kernel_rfl) rfl hk hs hp.pl (shNe_ne ht.2) (fun ψ => rfl) rfl (w50_52 s l hp ht.1)
    · exact CallOK.box1 (n := n) (A := fun b => [.fn 53 [], .p b 0]) (by kernel_rfl) rfl hk hs hp.pl (shNe_ne ht.2) (fun ψ => rfl) rfl (w50_53 s l hp ht.1)
    · exact CallOK.box1 (n := n) (A := fun b => [.fn 54 [], .p b 0]) (by kernel_rfl) rfl hk hs hp.pl (shNe_ne ht.2) (fun ψ => rfl) rfl (w50_54 s l hp ht.1)
  · cases hc
end Go.Proofs.Arr
