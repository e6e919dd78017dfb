/- The law FlightCuts. -/
import Derived.Test.YtlokbfkdgnopeaaGreatDoorFlzN1
import Derived.Test.YtlokbfkdgnopeaaGreatDoorFlzRb
import Derived.Test.YtlokbfkdgnopeaaGreatDoorFlzK
import Derived.Test.YtlokbfkdgnopeaaGreatDoorFlzIc3
import Derived.Test.YtlokbfkdgnopeaaGreatDoorFltPa
namespace Go.Proofs.Flz
open Go.Ab Go.Proofs.Flt
set_option maxRecDepth 100000
set_option maxHeartbeats 4000000
set_option linter.unusedSimpArgs false
set_option linter.unusedVariables false
theorem sr_st : strR = st1 := rfl
def k14z : Ct
 | [.fz L q, .fz L2 q2], _, n => (unrows 1 st1P q L).bind fun l => (unrows 1 st1P q2 L2).bind fun l2 => some (eqLs l l2 && decide (l.length ≤ 1000000), { v := .b true, n })
 | _, _, _ => none
theorem s14z : SoundAt Tryz.prog 14 k14z := fun args h n c E hc ht => by
 unfold k14z at hc
 split at hc
 · simp only [Option.bind_eq_some_iff] at hc
   obtain ⟨l, hl, l2, hl2, he⟩ := hc
   obtain ⟨rfl, rfl⟩ := unrows_eq (f := st1) (fun c a h => st1P_eq h) hl
   obtain ⟨rfl, rfl⟩ := unrows_eq (f := st1) (fun c a h => st1P_eq h) hl2
   cases he
   simp only [eqLs, Bool.and_eq_true, decide_eq_true_eq, beq_iff_eq] at ht
   obtain ⟨rfl, h2⟩ := ht
   exact CallOK.pure (by kernel_rfl) (by simp only [belL, AV.bel, stB, Bool.and_self]) rfl (w14 l (by omega)) _ _
 · cases hc
theorem q14C {C : List (List UInt8)} (hC : C.length ≤ 4000) (h : Hp) (n : Nat) : k14z [.fz (rows strR C) C.length, .fz (rows st1 C) C.length] h n = some (true, { v := .b true, n }) := by
 have hu : unrows 1 st1P C.length (rows st1 C) = some C := unrows_rows st1_len (fun x => st1P_s x) C
 have h1 : decide (C.length ≤ 1000000) = true := decide_eq_true (by omega)
 simp only [k14z, sr_st, hu, Option.bind_some, eqLs, beq_self_eq_true, h1, Bool.and_self]
def tV (T : List (List UInt8)) : AV := bif T.length == 1 then .sl 1 0 1 1 else .sg 1 0 T.length
def tB (T : List (List UInt8)) : Blk := { cells := rows st1 T, gr := bif T.length == 1 then none else some 1 }
theorem tV_1 (t : List UInt8) : tV [t] = .sl 1 0 1 1 := rfl
theorem tB_1 (t : List UInt8) : tB [t] = { cells := [.s t] } := rfl
theorem tV_n {T : List (List UInt8)} (h : T.length ≠ 1) : tV T = .sg 1 0 T.length := by unfold tV; rw [beq_eq_false_iff_ne.2 h, cond_false]
theorem tB_n {T : List (List UInt8)} (h : T.length ≠ 1) : tB T = { cells := rows st1 T, gr := some 1 } := by unfold tB; rw [beq_eq_false_iff_ne.2 h, cond_false]
theorem st_get {C : List (List UInt8)} {p : Nat} {s : List UInt8} (hs : C[p]? = some s) : (rows st1 C)[p]? = some (.s s) := by
 have h1 := rows_at (f := st1) st1_len hs
 have h2 : (List.take 1 (List.drop (p * 1) (rows st1 C)))[0]? = some (.s s) := by rw [show List.take 1 (List.drop (p * 1) (rows st1 C)) = st1 s from h1]; rfl
 rw [List.getElem?_take, if_pos (by decide), List.getElem?_drop, Nat.mul_one, Nat.add_zero] at h2
 exact h2
def zj (sz k2 : Int) (j : Nat) : Int := if j = 0 then sz else k2
def tJ (T : List (List UInt8)) (x : Nt) (sz k2 : Int) (a o : Nat) : Nat → List (List UInt8)
 | 0 => T
 | j + 1 => tJ T x sz k2 a o j ++ newS (cutS x (zj sz k2 j)).1 a o
theorem cut_len (x : Nt) (z : Int) : ∀ s ∈ (cutS x z).1, s.length ≤ 1112 := by
 rcases cutS_ok x z with ⟨_, _, _, h⟩ | ⟨_, h⟩
 · exact fun s hs => (h s hs).2
 · rw [h]; intro s hs; cases hs
theorem tJ_ok {T : List (List UInt8)} {x : Nt} {sz k2 : Int} {a o : Nat} (h0 : T ≠ []) (h2 : ∀ s ∈ T, s.length ≤ 5000) : ∀ j, tJ T x sz k2 a o j ≠ [] ∧ (tJ T x sz k2 a o j).length ≤ T.length + 4 * j ∧ ∀ s ∈ tJ T x sz k2 a o j, s.length ≤ 5000
 | 0 => ⟨h0, Nat.le_refl _, h2⟩
 | j + 1 => by
  obtain ⟨i0, i1, i2⟩ := tJ_ok h0 h2 (x := x) (sz := sz) (k2 := k2) (a := a) (o := o) j
  have hn := newS_len (cutS x (zj sz k2 j)).1 a o
  refine ⟨by simp [tJ, i0], by simp only [tJ, List.length_append]; omega, fun s hs => ?_⟩
  simp only [tJ] at hs
  rcases List.mem_append.1 hs with h | h
  · exact i2 s h
  · have := newS_ok (cut_len x (zj sz k2 j)) s h
    omega
noncomputable def TL3 : List (Nat × Ct) := [(10, k10), (11, k11), (12, k12), (13, k13), (14, k14z), (15, k15), (16, k16), (17, k17)]
noncomputable abbrev FL3 : Fx := ⟨Tryz.prog, cxT TL3, [52, 62, 91, 93, 138, 158], 161, 0⟩
theorem hTL3 : Sound Tryz.prog (cxT TL3) := Sound.cons s10 <| Sound.cons s11 <| Sound.cons s12 <| Sound.cons s13 <| Sound.cons s14z <| Sound.cons s15 <| Sound.cons s16 <| Sound.cons s17 Sound.nil
def nx3 (L : List Nt) (sz k2 : Int) (a o : Nat) (x : Nat × List (List UInt8)) : Nat × List (List UInt8) := (x.1 + 1, tJ x.2 (L.getD x.1 ⟨0, 0, []⟩) sz k2 a o 2)
theorem rest3 (L : List Nt) (hL : L.length ≤ 6) (sz k2 : Int) (a o : Nat) (t0 : List UInt8) (ha : a ≤ 65535) (ho : o ≤ 255) (hk2 : k2 = 1 + ((a % 80 : Nat) : Int)) (ht0 : t0.length ≤ 5000) :
 Seam FL3 (.seq (.seq (.reg i3r4) (.block 0 (.loop i3l22))) (.seq (.seq (.reg i3r23) (.block 4 (.loop i3l31))) (.seq (.reg i3r32) .ret))) (retK [.t 12] fun v h' n' => Ab.Ends 0 v h' n' (.b true) [] 0)
  [(2, .i .i64 sz), (4, .i .u16 a), (5, .i .u8 o), (13, .sg 0 0 L.length), (14, .sl 1 0 1 1)] [(0, { cells := rows Nt.l L, gr := some 3 }), (1, { cells := [.s t0] })] 2 := by
 have wa : IntKind.i64.wrap (a : Int) = (a : Int) := wrapL (by omega) (by omega)
 have wo : IntKind.i64.wrap (o : Int) = (o : Int) := wrapL (by omega) (by omega)
 have tmn : ∀ p q : Nat, (p : Int).tmod (q : Int) = ((p % q : Nat) : Int) := fun p q => by rw [Int.tmod_eq_emod_of_nonneg (by omega)]; rfl
 have lb := fun j => ntB j L
 have lr := fun ψ => ntR ψ L
 refine Seam.run (F := FL3) hTL3 mo ?_
 dsimp only [FL3, TL3]
 simp (maxSteps := 400000) only [go_sem, simprocAttr]
 refine Loop.stepR (F := FL3) hTL3 mo (X := Nat × List (List UInt8)) (fun x => x.1 ≤ L.length ∧ x.2 ≠ [] ∧ x.2.length ≤ 8 * x.1 + 1 ∧ ∀ s ∈ x.2, s.length ≤ 5000) (fun x => L.length - x.1)
  (fun x => [(2, .i .i64 sz), (4, .i .u16 a), (5, .i .u8 o), (14, tV x.2), (49, .sg 0 0 L.length), (50, .i .i64 L.length), (51, .i .i64 x.1)])
  (fun x => [(0, { cells := rows Nt.l L, gr := some 3 }), (1, tB x.2)]) 2 (0, [t0]) (nx3 L sz k2 a o) [] (fun _ => []) (by decide) (by decide) (fun _ => by decide) ⟨Nat.zero_le _, by simp, by simp, by simpa using ht0⟩ ?_ ?_ (fun x hx => ?_)
 · simp (maxSteps := 400000) only [go_sem, tV_1, AV.ren, renL, AV.bel, belL, nblt, simprocAttr]
 · simp (maxSteps := 400000) only [go_sem, tB_1, AV.ren, renL, AV.bel, belL, nblt, Blk.ren, lb, lr, simprocAttr]
 obtain ⟨i, T⟩ := x
 obtain ⟨hi, hT0, hT1, hT2⟩ := hx
 dsimp only at hi hT0 hT1 hT2 ⊢
 dsimp only [FL3, TL3]
 by_cases hlt : i < L.length
 rotate_left
 · have c1 : decide ((i : Int) < (L.length : Int)) = false := decide_eq_false (by omega)
   by_cases hT : T.length = 1
   · obtain ⟨t, rfl⟩ := List.length_eq_one_iff.1 hT
     rw [tV_1, tB_1]
     simp (maxSteps := 400000) only [go_sem, c1, AV.bel, belL, nblt, lb, lr, simprocAttr]
     refine Loop.countI (F := FL3) hTL3 mo 1 (fun _ => True) (fun k => [(135, .sl 1 0 1 1), (136, .i .i64 1), (137, .i .i64 (k : Int))]) (fun _ => [(1, { cells := [.s t] })]) 2 (by decide) trivial ?_ ?_ (fun k hk _ => ?_)
     · simp (maxSteps := 400000) only [go_sem, AV.bel, belL, nblt, simprocAttr]
     · simp (maxSteps := 400000) only [go_sem, AV.bel, belL, nblt, simprocAttr]
     dsimp only [FL3, TL3]
     by_cases hk2 : k < 1
     rotate_left
     · have d1 : decide ((k : Int) < 1) = false := decide_eq_false (by omega)
       simp (maxSteps := 400000) only [go_sem, d1, k17, simprocAttr]
       exact Ends.pureE rfl rfl
     have d1 : decide ((k : Int) < 1) = true := decide_eq_true (by omega)
     have d2 : decide (0 ≤ (k : Int) ∧ (k : Int) < 1) = true := decide_eq_true (by omega)
     have wk : IntKind.i64.wrap ((k : Int) + 1) = ((k + 1 : Nat) : Int) := by rw [wrapL (by omega) (by omega)]; omega
     obtain rfl : k = 0 := by omega
     have hs : ([t] : List (List UInt8))[0]? = some t := rfl
     obtain ⟨s, rfl⟩ : ∃ s, s = t := ⟨_, rfl⟩
     have hsl := hT2 s (by simp)
     have hq : decide (s.length ≤ 9223372036854775807) = true := decide_eq_true (by omega)
     have q15 : ∀ (h : Hp) n, k15 [.s s] h n = some (true, { v := .tup [.agg (readS s).1.l, .i .i64 (readS s).2], n }) := fun h n => by simp only [k15, hq]; rfl
     have q16 : ∀ (h : Hp) n, k16 [.s s] h n = some (true, { v := .tup [.agg (readS s).1.l, .i .i64 (readS s).2], n }) := fun h n => by simp only [k16, hq]; rfl
     generalize readS s = R at *
     obtain ⟨⟨r1, r2, r3, r4, r5⟩, r6⟩ := R
     simp only [Pc.l] at q15 q16
     simp (maxSteps := 400000) only [go_sem, d1, d2, wk, Nat.mul_one, q15, q16, beq_self_eq_true, bne_self_eq_false, AV.bel, belL, nblt, simprocAttr]
   · rw [tV_n hT, tB_n hT]
     have tb := fun k => stB k T
     have tr := fun ψ => stR ψ T
     simp (maxSteps := 400000) only [go_sem, c1, AV.bel, belL, nblt, lb, lr, tb, tr, simprocAttr]
     refine Loop.countI (F := FL3) hTL3 mo T.length (fun _ => True) (fun k => [(135, .sg 1 0 T.length), (136, .i .i64 (T.length : Int)), (137, .i .i64 (k : Int))]) (fun _ => [(1, { cells := rows st1 T, gr := some 1 })]) 2 (by decide) trivial ?_ ?_ (fun k hk _ => ?_)
     · simp (maxSteps := 400000) only [go_sem, AV.bel, belL, nblt, simprocAttr]
     · simp (maxSteps := 400000) only [go_sem, AV.bel, belL, nblt, tb, tr, simprocAttr]
     dsimp only [FL3, TL3]
     by_cases hk2 : k < T.length
     rotate_left
     · have d1 : decide ((k : Int) < (T.length : Int)) = false := decide_eq_false (by omega)
       simp (maxSteps := 400000) only [go_sem, d1, k17, simprocAttr]
       exact Ends.pureE rfl rfl
     have d1 : decide ((k : Int) < (T.length : Int)) = true := decide_eq_true (by omega)
     have d2 : decide (0 ≤ (k : Int) ∧ (k : Int) < (T.length : Int)) = true := decide_eq_true (by omega)
     have wk : IntKind.i64.wrap ((k : Int) + 1) = ((k + 1 : Nat) : Int) := by rw [wrapL (by omega) (by omega)]; omega
     obtain ⟨s, hs⟩ : ∃ s, T[k]? = some s := ⟨_, List.getElem?_eq_getElem hk2⟩
     have hr := st_get hs
     have hsl := hT2 s (List.mem_of_getElem? hs)
     have hq : decide (s.length ≤ 9223372036854775807) = true := decide_eq_true (by omega)
     have q15 : ∀ (h : Hp) n, k15 [.s s] h n = some (true, { v := .tup [.agg (readS s).1.l, .i .i64 (readS s).2], n }) := fun h n => by simp only [k15, hq]; rfl
     have q16 : ∀ (h : Hp) n, k16 [.s s] h n = some (true, { v := .tup [.agg (readS s).1.l, .i .i64 (readS s).2], n }) := fun h n => by simp only [k16, hq]; rfl
     generalize readS s = R at *
     obtain ⟨⟨r1, r2, r3, r4, r5⟩, r6⟩ := R
     simp only [Pc.l] at q15 q16
     simp (maxSteps := 400000) only [go_sem, d1, d2, wk, hr, Nat.mul_one, q15, q16, beq_self_eq_true, bne_self_eq_false, AV.bel, belL, nblt, tb, tr, simprocAttr]
     exact hk2
 have c1 : decide ((i : Int) < (L.length : Int)) = true := decide_eq_true (by omega)
 have c2 : decide (0 ≤ (i : Int) ∧ (i : Int) < (L.length : Int)) = true := decide_eq_true (by omega)
 obtain ⟨x, hx⟩ : ∃ x, L[i]? = some x := ⟨_, List.getElem?_eq_getElem hlt⟩
 have hLx : List.take 3 (List.drop (i * 3) (rows Nt.l L)) = x.l := rows_at Nt.len hx
 have hnx : nx3 L sz k2 a o (i, T) = (i + 1, tJ T x sz k2 a o 2) := by simp only [nx3, List.getD_eq_getElem?_getD, hx, Option.getD_some]
 have xl : x.l.length = 3 := rfl
 have o0 : (a : Int).tmod 80 = ((a % 80 : Nat) : Int) := tmn a 80
 have w2 : IntKind.i64.wrap (1 + ((a % 80 : Nat) : Int)) = k2 := by rw [hk2]; exact wrapL (by omega) (by omega)
 rw [hnx]
 obtain ⟨L2, hL2⟩ : ∃ L2 : List AV, L2 = [.i .i64 sz, .i .i64 k2] := ⟨_, rfl⟩
 have xo : oneAll x.l = true := rfl
 have xb : ∀ k, belL k x.l = true := fun k => belL_mono0 _ x.bel
 have xr : ∀ ψ, renL ψ x.l = x.l := fun ψ => renL_fix0 _ x.bel
 have tb := fun k => stB k T
 have tr := fun ψ => stR ψ T
 have hTJ := fun j => tJ_ok hT0 hT2 (x := x) (sz := sz) (k2 := k2) (a := a) (o := o) j
 have hTJs : ∀ j, tJ T x sz k2 a o (j + 1) = tJ T x sz k2 a o j ++ newS (cutS x (zj sz k2 j)).1 a o := fun j => rfl
 have hTJ0 : tJ T x sz k2 a o 0 = T := rfl
 have wi : IntKind.i64.wrap ((i : Int) + 1) = ((i + 1 : Nat) : Int) := by rw [wrapL (by omega) (by omega)]; omega
 generalize tJ T x sz k2 a o = J at *
 simp (maxSteps := 400000) only [go_sem, c1, c2, hLx, xl, xo, wa, o0, w2, Nat.mul_one, List.drop_zero, nt_t3, Nt.len, simprocAttr]
 refine Loop.stepR (F := FL3) hTL3 mo (X := Nat) (fun j => j ≤ 2) (fun j => 2 - j)
  (fun j => [(2, .i .i64 sz), (4, .i .u16 a), (5, .i .u8 o), (14, tV (J j)), (16, .p 2 0), (49, .sg 0 0 L.length), (50, .i .i64 L.length), (51, .i .i64 i), (60, .agg L2), (61, .i .i64 j)])
  (fun j => [(2, { cells := x.l }), (0, { cells := rows Nt.l L, gr := some 3 }), (1, tB (J j))]) 3 0 (fun j => j + 1) [] (fun j => bif (cutS x (zj sz k2 j)).2 == 0 then [(1, 7)] else []) (by decide) (by decide) (fun j => by cases (cutS x (zj sz k2 j)).2 == 0 <;> decide) (Nat.zero_le _) ?_ ?_ (fun j hj => ?_)
 · rw [hTJ0, hL2]
   by_cases hT : T.length = 1
   · obtain ⟨t, rfl⟩ := List.length_eq_one_iff.1 hT
     simp (maxSteps := 400000) only [go_sem, tV_1, AV.ren, renL, AV.bel, belL, nblt, simprocAttr]
   · rw [tV_n hT]
     simp (maxSteps := 400000) only [go_sem, AV.ren, renL, AV.bel, belL, nblt, simprocAttr]
 · rw [hTJ0]
   by_cases hT : T.length = 1
   · obtain ⟨t, rfl⟩ := List.length_eq_one_iff.1 hT
     simp (maxSteps := 400000) only [go_sem, tB_1, AV.ren, renL, AV.bel, belL, nblt, Blk.ren, lb, lr, xb, xr, simprocAttr]
   · rw [tB_n hT]
     simp (maxSteps := 400000) only [go_sem, AV.ren, renL, AV.bel, belL, nblt, Blk.ren, lb, lr, xb, xr, tb, tr, simprocAttr]
 have hj : j ≤ 2 := hj
 dsimp only [FL3, TL3]
 have hL2b : ∀ j, belL j L2 = true := fun j => by rw [hL2]; rfl
 have hL2r : ∀ ψ, renL ψ L2 = L2 := fun ψ => by rw [hL2]; rfl
 by_cases hj2 : j < 2
 rotate_left
 · have d1 : decide ((j : Int) < 2) = false := decide_eq_false (by omega)
   have hj3 : j = 2 := by omega
   subst hj3
   by_cases hT : (J 2).length = 1
   · obtain ⟨t, ht⟩ := List.length_eq_one_iff.1 hT
     have h2 := hTJ 2
     rw [ht] at h2
     rw [ht, tV_1, tB_1]
     simp (maxSteps := 400000) only [go_sem, d1, wi, AV.ren, renL, AV.bel, belL, nblt, Blk.ren, lb, lr, xb, xr, simprocAttr]
     exact ⟨⟨by omega, h2.2.2⟩, by omega⟩
   · rw [tV_n hT, tB_n hT]
     have h2 := hTJ 2
     have tb := fun k => stB k (J 2)
     have tr := fun ψ => stR ψ (J 2)
     simp (maxSteps := 400000) only [go_sem, d1, wi, AV.ren, renL, AV.bel, belL, nblt, Blk.ren, lb, lr, xb, xr, tb, tr, simprocAttr]
     exact ⟨⟨by omega, h2.1, by omega, h2.2.2⟩, by omega⟩
 have d1 : decide ((j : Int) < 2) = true := decide_eq_true (by omega)
 have d2 : decide (0 ≤ (j : Int) ∧ (j : Int) < 2) = true := decide_eq_true (by omega)
 have wj : IntKind.i64.wrap ((j : Int) + 1) = ((j + 1 : Nat) : Int) := by rw [wrapL (by omega) (by omega)]; omega
 have hz : L2[j]? = some (.i .i64 (zj sz k2 j)) := by
  rw [hL2]
  obtain rfl | rfl : j = 0 ∨ j = 1 := by omega
  all_goals rfl
 have hTJs := hTJs j
 generalize zj sz k2 j = z at *
 have q10 : ∀ (h : Hp) n, k10 [.agg x.l, .i .i64 z] h n = some (true, { v := .tup [.fz (rows strR (cutS x z).1) (cutS x z).1.length, .i .i64 (cutS x z).2], n }) := fun h n => by simp only [k10, nt3_l, Option.bind_some]; rfl
 have q11 : ∀ (h : Hp) n, k11 [.agg x.l, .i .i64 z] h n = some (true, { v := .tup [.fz (rows st1 (cutS x z).1) (cutS x z).1.length, .i .i64 (cutS x z).2], n }) := fun h n => by simp only [k11, nt3_l, Option.bind_some]; rfl
 have q12 : ∀ (h : Hp) n, k12 [.agg x.l] h n = some (true, { v := .i .i64 (bif noteB x then 0 else 190), n }) := fun h n => by simp only [k12, nt3_l, Option.bind_some]; cases noteB x <;> rfl
 have q13 : ∀ (h : Hp) n, k13 [.agg x.l] h n = some (true, { v := .i .i64 (bif noteB x then 0 else 190), n }) := fun h n => by simp only [k13, nt3_l, Option.bind_some]
 have hC := cutS_ok x z
 have hCl := cut_len x z
 generalize (bif noteB x then (0 : Int) else 190) = nb at *
 generalize cutS x z = C at *
 obtain ⟨C, e⟩ := C
 dsimp only at *
 have q14 := fun hC => q14C (C := C) hC
 have hTj := hTJ j
 have hTj1 := hTJ (j + 1)
 generalize J (j + 1) = T2 at *
 generalize J j = T1 at *
 subst hTJs
 have tb := fun k => stB k T1
 have tr := fun ψ => stR ψ T1
 rcases hC with ⟨he, hC1, hC2, hC3⟩ | ⟨he, hC1⟩
 · subst he
   have q14 := q14 hC2
   have hCp : 0 < C.length := by cases C with
    | nil => exact absurd rfl hC1
    | cons _ _ => simp
   have m1 := Nat.mod_lt o hCp
   obtain ⟨s, hs⟩ : ∃ s, C[o % C.length]? = some s := ⟨_, List.getElem?_eq_getElem m1⟩
   have hsl := hC3 s (List.mem_of_getElem? hs)
   have hn := newS_some (a := a) hs
   have o1 := tmn o C.length
   have o2 : ((C.length : Int) != 0) = true := by rw [bne_iff_ne]; omega
   have hr := st_get hs
   rw [hn] at hTj1 ⊢
   generalize hp : o % C.length = p at *
   have o3 : decide (0 ≤ (p : Int) ∧ (p : Int) < (C.length : Int)) = true := decide_eq_true (by omega)
   have ws : IntKind.i64.wrap ((s.length : Int) + 1) = ((s.length + 1 : Nat) : Int) := by rw [wrapL (by omega) (by omega)]; omega
   have o4 := tmn a (s.length + 1)
   have m2 := Nat.mod_lt a (show 0 < s.length + 1 by omega)
   have o5 := tmn a s.length
   have m3 := Nat.mod_lt a (show 0 < s.length by omega)
   have ub : ∀ m, bytesOf (List.take m (List.map (fun b => AV.i .u8 (b.toNat : Int)) s)) = some (s.take m) := fun m => by rw [← List.map_take]; exact u8m_bytes _
   have ub1 : bytesOf (List.take s.length (List.map (fun b => AV.i .u8 (b.toNat : Int)) s)) = some s := by rw [ub, List.take_length]
   generalize hm : a % (s.length + 1) = m at *
   generalize hq : a % s.length = q at *
   have ub2 := ub m
   have o6 : decide ((s.take m).length = m) = true := decide_eq_true (by rw [List.length_take]; omega)
   have o7 : (((s.length + 1 : Nat) : Int) != 0) = true := by rw [bne_iff_ne]; omega
   have o8 : ((s.length : Int) != 0) = true := by rw [bne_iff_ne]; omega
   have o9 : decide (0 ≤ (m : Int) ∧ (m : Int) ≤ (s.length : Int)) = true := decide_eq_true (by omega)
   have p1 : decide (s.length ≤ 9223372036854775806) = true := decide_eq_true (by omega)
   have p2 : decide (0 ≤ (q : Int) ∧ (q : Int) < (s.length : Int)) = true := decide_eq_true (by omega)
   have us : List.take q (List.map (fun b => AV.i .u8 (b.toNat : Int)) s) ++ [AV.i .u8 (o : Int)] ++ List.drop (q + 1) (List.map (fun b => AV.i .u8 (b.toNat : Int)) s) = List.map (fun b => AV.i .u8 (b.toNat : Int)) (s.set q (UInt8.ofNat o)) := by
    rw [← u8m_set s q o (by omega), List.set_eq_take_append_cons_drop, if_pos (by rw [List.length_map]; omega), List.append_assoc]; rfl
   have p3 : decide (q + 1 ≤ (List.map (fun b => AV.i .u8 (b.toNat : Int)) s).length) = true := decide_eq_true (by rw [List.length_map]; omega)
   have hs2 : (s.set q (UInt8.ofNat o)).length = s.length := List.length_set
   have ub3 : bytesOf (List.take s.length (List.map (fun b => AV.i .u8 (b.toNat : Int)) (s.set q (UInt8.ofNat o)))) = some (s.set q (UInt8.ofNat o)) := by rw [← List.map_take, ← hs2, List.take_length]; exact u8m_bytes _
   generalize s.set q (UInt8.ofNat o) = s2 at *
   have g6 : decide (64 ≤ growMax) = true := by decide
   have g7 : decide (80 ≤ growMax) = true := by decide
   generalize s.take m = sm at *
   by_cases hT : T1.length = 1
   · obtain ⟨t, rfl⟩ := List.length_eq_one_iff.1 hT
     have hV2 : tV ([t] ++ [s, sm, s ++ [120], s2]) = .sg 1 0 5 := rfl
     have hB2 : tB ([t] ++ [s, sm, s ++ [120], s2]) = { cells := [.s t, .s s, .s sm, .s (s ++ [120]), .s s2], gr := some 1 } := rfl
     rw [tV_1, tB_1, hV2, hB2]
     simp (maxSteps := 400000) only [go_sem, d1, d2, wj, hz, Nat.mul_one, q10, q11, q12, q13, q14, wa, wo, o1, o2, o3, hr, ws, o4, o5, ub1, ub2, o6, o7, o8, o9, p1, p2, p3, us, ub3, hs2, g6, g7, xl, bne_self_eq_false, List.drop_zero, nt_t3, Nt.len, AV.ren, renL, AV.bel, belL, nblt, Blk.ren, lb, lr, xb, xr, hL2b, hL2r, simprocAttr]
     exact ⟨by omega, by omega⟩
   have hn2 : (T1 ++ [s, sm, s ++ [120], s2]).length ≠ 1 := by rw [List.length_append]; simp
   have hV2 : tV (T1 ++ [s, sm, s ++ [120], s2]) = .sg 1 0 (T1.length + 3 + 1) := by rw [tV_n hn2, List.length_append]; rfl
   have hB2 : tB (T1 ++ [s, sm, s ++ [120], s2]) = { cells := rows st1 T1 ++ [.s s, .s sm, .s (s ++ [120])] ++ [.s s2], gr := some 1 } := by rw [tB_n hn2, rows_append, List.append_assoc]; rfl
   have tbx : ∀ k, belL k (rows st1 T1 ++ [.s s, .s sm, .s (s ++ [120])] ++ [.s s2]) = true := fun k => by
    have := stB k (T1 ++ [s, sm, s ++ [120], s2])
    rw [rows_append] at this
    rw [List.append_assoc]; exact this
   have trx : ∀ ψ, renL ψ (rows st1 T1 ++ [.s s, .s sm, .s (s ++ [120])] ++ [.s s2]) = rows st1 T1 ++ [.s s, .s sm, .s (s ++ [120])] ++ [.s s2] := fun ψ => by
    have := stR ψ (T1 ++ [s, sm, s ++ [120], s2])
    rw [rows_append] at this
    rw [List.append_assoc]; exact this
   have l3 : decide ((rows st1 T1 ++ [AV.s s, .s sm, .s (s ++ [120])]).length = T1.length + 3) = true := decide_eq_true (by rw [List.length_append, rows_len (f := st1) st1_len]; simp)
   rw [tV_n hT, tB_n hT, hV2, hB2]
   have hTl : (rows st1 T1).length = T1.length * 1 := rows_len st1_len
   have g1 : decide (16 * (T1.length + 3) ≤ growMax) = true := decide_eq_true (by simp only [growMax]; omega)
   have g2 : decide (16 * (T1.length + 4) ≤ growMax) = true := decide_eq_true (by simp only [growMax]; omega)
   simp (maxSteps := 400000) only [go_sem, d1, d2, wj, hz, Nat.mul_one, q10, q11, q12, q13, q14, wa, wo, o1, o2, o3, hr, ws, o4, o5, ub1, ub2, o6, o7, o8, o9, p1, p2, p3, us, ub3, hs2, hTl, g1, g2, l3, tbx, trx, xl, bne_self_eq_false, List.drop_zero, nt_t3, Nt.len, AV.ren, renL, AV.bel, belL, nblt, Blk.ren, lb, lr, xb, xr, tb, tr, hL2b, hL2r, simprocAttr]
   exact ⟨by omega, by omega⟩
 · subst hC1
   have q14 : ∀ (h : Hp) n, k14z [.fz (rows strR []) 0, .fz (rows st1 []) 0] h n = some (true, { v := .b true, n }) := q14 (by decide)
   have e1 : (e == 0) = false := beq_eq_false_iff_ne.2 he
   have hn : newS [] a o = [] := rfl
   rw [hn, List.append_nil] at hTj1 ⊢
   by_cases hT : T1.length = 1
   · obtain ⟨t, rfl⟩ := List.length_eq_one_iff.1 hT
     rw [tV_1, tB_1]
     simp (maxSteps := 400000) only [go_sem, d1, d2, wj, hz, Nat.mul_one, q10, q11, q12, q13, q14, e1, xl, bne_self_eq_false, List.drop_zero, nt_t3, Nt.len, AV.ren, renL, AV.bel, belL, nblt, Blk.ren, lb, lr, xb, xr, hL2b, hL2r, simprocAttr]
     exact ⟨by omega, by omega⟩
   rw [tV_n hT, tB_n hT]
   simp (maxSteps := 400000) only [go_sem, d1, d2, wj, hz, Nat.mul_one, q10, q11, q12, q13, q14, e1, xl, bne_self_eq_false, List.drop_zero, nt_t3, Nt.len, AV.ren, renL, AV.bel, belL, nblt, Blk.ren, lb, lr, xb, xr, tb, tr, hL2b, hL2r, simprocAttr]
   exact ⟨by omega, by omega⟩
noncomputable abbrev F9 (k9 : Ct) : Fx := ⟨Tryz.prog, cxT [(9, k9)], [52, 62, 91, 93, 138, 158], 161, 0⟩
theorem w3 (x : Nt) (d : Dr) (hd : d.ok = true) (sz : Int) (raw : List UInt8) (a o : Nat) (ha : a ≤ 65535) (ho : o ≤ 255) (hx : x.bd.length ≤ 9223372036854775807) (hraw : raw.length ≤ 9223372036854775807) :
 FTL Tryz.prog 3 [.agg x.l, .agg d.a, .i .i64 sz, .s raw, .i .u16 a, .i .u8 o] [] 0 (.b true) [] 0 := by
 obtain ⟨m, hm1, hm2⟩ : ∃ m : Nat, min (x.bd.length : Int) 4010 = (m : Int) ∧ m ≤ x.bd.length := ⟨min x.bd.length 4010, by omega, by omega⟩
 obtain ⟨q, hq1, hq2, hq3⟩ : ∃ q : Nat, min (raw.length : Int) 1210 = (q : Int) ∧ q ≤ raw.length ∧ q ≤ 1210 := ⟨min raw.length 1210, by omega, by omega, by omega⟩
 have c1 : decide (0 ≤ (m : Int) ∧ (m : Int) ≤ (x.bd.length : Int)) = true := decide_eq_true (by omega)
 have c2 : decide (0 ≤ (q : Int) ∧ (q : Int) ≤ (raw.length : Int)) = true := decide_eq_true (by omega)
 have hnl := notes_len d
 have hqt : (raw.take q).length ≤ 5000 := by rw [List.length_take]; omega
 obtain ⟨kd, sq, bd⟩ := x
 dsimp only at *
 have hda : ∀ j, belL j d.a = true := fun j => belL_mono0 _ d.bel
 have hdr : ∀ ψ, renL ψ d.a = d.a := fun ψ => renL_fix0 _ d.bel
 have hdl : d.a.length = 3 := rfl
 have hdo : oneAll d.a = true := rfl
 have rst := rest3 (notesS d ++ [⟨kd, sq, bd.take m⟩]) (by simp; omega) sz (1 + ((a % 80 : Nat) : Int)) a o (raw.take q) ha ho rfl hqt
 have hnl2 : (notesS d ++ [(⟨kd, sq, bd.take m⟩ : Nt)]).length = (notesS d).length + 1 := by simp
 have hrw : rows Nt.l (notesS d ++ [(⟨kd, sq, bd.take m⟩ : Nt)]) = rows Nt.l (notesS d) ++ [.i .i64 kd, .i .i64 sq, .s (bd.take m)] := by rw [rows_append]; rfl
 have v9n := w9n d hd
 have v9l := w9l d hd
 have nb := fun j => ntB j (notesS d)
 have nr := fun ψ => ntR ψ (notesS d)
 have nbx := fun j => ntB j (notesS d ++ [(⟨kd, sq, bd.take m⟩ : Nt)])
 have nrx := fun ψ => ntR ψ (notesS d ++ [(⟨kd, sq, bd.take m⟩ : Nt)])
 rw [hnl2, hrw] at rst
 rw [hrw] at nbx nrx
 generalize notesS d = N at *
 clear hnl2 hrw
 obtain ⟨DA, hDA⟩ : ∃ DA, DA = d.a := ⟨_, rfl⟩
 rw [← hDA] at hda hdr hdl hdo v9n v9l ⊢
 refine FTL.of_seam (cx := cxT TL3) Tryz.func3 i3_eq (by simp [i3]) ?_
 dsimp only [i3]
 have htk : List.take 3 DA = DA := List.take_of_length_le (by omega)
 by_cases hN : N = []
 · have kn := v9n hN
   subst hN
   simp only [rows_nil, List.nil_append, List.length_nil, Nat.zero_add] at rst nbx nrx
   have s9 : SoundAt Tryz.prog 9 (kP [.agg DA] .ns) := kP_sound (by kernel_rfl) (by simp only [belL, AV.bel, hda, Bool.and_self]) rfl kn
   have q9 : ∀ (h : Hp) n, kP [.agg DA] .ns [.agg DA] h n = some (true, { v := .ns, n }) := fun h n => kP_at h n
   have hT : Sound Tryz.prog (cxT [(9, kP [.agg DA] .ns)]) := Sound.cons s9 Sound.nil
   generalize kP [.agg DA] .ns = k9 at *
   refine Seam.part (F := F9 k9) hT mo ?_
   dsimp only [F9]
   simp (maxSteps := 400000) only [go_sem, simprocAttr]
   refine Seam.part (F := F9 k9) hT mo ?_
   dsimp only [F9]
   simp (maxSteps := 400000) only [go_sem, hm1, c1, Nt.l, simprocAttr]
   refine Seam.part (F := F9 k9) hT mo ?_
   dsimp only [F9]
   have g0 : decide (32 ≤ growMax) = true := by decide
   simp (maxSteps := 400000) only [go_sem, q9, hdl, htk, g0, List.drop_zero, simprocAttr]
   refine Seam.part (F := F9 k9) hT mo ?_
   dsimp only [F9]
   simp (maxSteps := 400000) only [go_sem, hq1, c2, simprocAttr]
   refine Seam.ren (F := F9 k9) [(0, 3), (1, 4)] rst (Nat.zero_le _) rfl ?_ ?_
   · simp (maxSteps := 400000) only [go_sem, AV.ren, renL, AV.bel, belL, nblt, simprocAttr]
   · simp (maxSteps := 400000) only [go_sem, AV.ren, renL, AV.bel, belL, nblt, Blk.ren, nbx, nrx, simprocAttr]
 · have kn := v9l hN
   have s9 : SoundAt Tryz.prog 9 (kP1 [.agg DA] (fun b => .sg b 0 N.length) { cells := rows Nt.l N, gr := some 3 }) := kP1_sound (by kernel_rfl) (by simp only [belL, AV.bel, hda, Bool.and_self]) (nb 0) rfl (fun n => rfl) kn
   have q9 : ∀ (h : Hp) n, kP1 [.agg DA] (fun b => .sg b 0 N.length) { cells := rows Nt.l N, gr := some 3 } [.agg DA] h n = some (true, { v := .sg n 0 N.length, n := n + 1, nw := [(n, { cells := rows Nt.l N, gr := some 3 })] }) := fun h n => kP1_at h n
   have hT : Sound Tryz.prog (cxT [(9, kP1 [.agg DA] (fun b => .sg b 0 N.length) { cells := rows Nt.l N, gr := some 3 })]) := Sound.cons s9 Sound.nil
   generalize kP1 [.agg DA] (fun b => .sg b 0 N.length) { cells := rows Nt.l N, gr := some 3 } = k9 at *
   have hNl : (rows Nt.l N).length = N.length * 3 := rows_len Nt.len
   have g1 : decide (32 * (N.length + 1) ≤ growMax) = true := decide_eq_true (by simp only [growMax]; omega)
   refine Seam.part (F := F9 k9) hT mo ?_
   dsimp only [F9]
   simp (maxSteps := 400000) only [go_sem, simprocAttr]
   refine Seam.part (F := F9 k9) hT mo ?_
   dsimp only [F9]
   simp (maxSteps := 400000) only [go_sem, hm1, c1, Nt.l, simprocAttr]
   refine Seam.part (F := F9 k9) hT mo ?_
   dsimp only [F9]
   simp (maxSteps := 400000) only [go_sem, q9, hdl, htk, List.drop_zero, hNl, g1, simprocAttr]
   refine Seam.part (F := F9 k9) hT mo ?_
   dsimp only [F9]
   simp (maxSteps := 400000) only [go_sem, hq1, c2, simprocAttr]
   refine Seam.ren (F := F9 k9) [(0, 4), (1, 5)] rst (Nat.zero_le _) rfl ?_ ?_
   · simp (maxSteps := 400000) only [go_sem, AV.ren, renL, AV.bel, belL, nblt, simprocAttr]
   · simp (maxSteps := 400000) only [go_sem, AV.ren, renL, AV.bel, belL, nblt, Blk.ren, nbx, nrx, simprocAttr]
end Go.Proofs.Flz
