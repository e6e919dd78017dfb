/- The walk of ResendSees. -/
import Derived.Test.YthnmkedknannhaaResI3
import Derived.Test.YthnmkedknannhaaResK
namespace Go.Proofs.Res
open Go.Ab
set_option maxRecDepth 100000
set_option maxHeartbeats 16000000
set_option linter.unusedSimpArgs false
set_option linter.unusedVariables false

noncomputable def TL3 : List (Nat × Ct) := [(9, k9), (10, k10), (11, k11), (12, k12), (13, k13), (14, k13), (15, k15), (16, k16)]
theorem hTL3 : Sound Try.prog (cxT TL3) := Sound.cons s9 (Sound.cons s10 (Sound.cons s11 (Sound.cons s12 (Sound.cons s13 (Sound.cons s14 (Sound.cons s15 (Sound.cons s16 Sound.nil)))))))
theorem bel_of_wsA {c : List AV} {w : Ws} (h : wsA c = some w) : belL 0 c = true := (wsA_k h).2
/-- The cells of wants, whatever the list's form. -/
def IsW (c : List AV) (w : Ws) : Prop := wsA c = some w ∧ ∃ (X : List AV) (m : Nat), c = [.i .i64 w.ti, .b w.st, .i .i64 w.tp, .fz X m] ∧ ∀ j, belL j X = true
theorem IsW.a (w : Ws) : IsW w.a w := ⟨wsA_a w, _, _, rfl, fun j => wrB j _⟩
theorem IsW.cut (ti tp : Int) (st : Bool) (l : List Wt) (m : Nat) (hm : m ≤ l.length) : IsW [.i .i64 ti, .b st, .i .i64 tp, .fz (rows Wt.l l) m] ⟨ti, st, tp, l.take m⟩ := ⟨wsA_cut ti tp st l m hm, _, _, rfl, fun j => wrB j _⟩
theorem inner3 (c : List AV) (w : Ws) (hc : IsW c w) (hwl : w.l.length ≤ 66) (L : List AV) (hLb : ∀ j, belL j L = true) (k n0 n1 wt stp a0 s0 a1 s1 a2 s2 : Int) {K : Kont} {e : Env} {h : Hp} {n : Nat}
    (he : EnvIn 7 e [(4, .i .u16 wt), (5, .i .i8 stp), (9, .p 3 0), (16, .p 6 0), (45, .agg L), (46, .i .i64 k), (85, .agg [.i .i64 a0, .i .i64 s0, .i .i64 a1, .i .i64 s1, .i .i64 a2, .i .i64 s2]), (86, .i .i64 0)])
    (hh : HpIn 7 h [(6, { cells := c }), (3, { cells := [.i .i64 n0, .i .i64 n1] })])
    (hK : ∀ e', eget e' 4 = some (.i .u16 wt) → eget e' 5 = some (.i .i8 stp) → eget e' 9 = some (.p 3 0) → eget e' 45 = some (.agg L) → eget e' 46 = some (.i .i64 k) → K (.exit 2) e' [(6, { cells := c }), (3, { cells := [.i .i64 n0, .i .i64 n1] })] 7) :
    Ab.Loop Try.prog [47, 63, 87, 115] 119 0 i3l18 K e h n := by
  obtain ⟨hwa, X, xm, rfl, hXb⟩ := hc
  have h6 : ∀ j, j < 3 → ∃ a s, List.take 2 (List.drop (j * 2) [AV.i .i64 a0, .i .i64 s0, .i .i64 a1, .i .i64 s1, .i .i64 a2, .i .i64 s2]) = [.i .i64 a, .i .i64 s] := fun j hj => by
    match j, hj with
    | 0, _ => exact ⟨_, _, rfl⟩
    | 1, _ => exact ⟨_, _, rfl⟩
    | 2, _ => exact ⟨_, _, rfl⟩
  have hb6 : belL 7 [AV.i .i64 a0, .i .i64 s0, .i .i64 a1, .i .i64 s1, .i .i64 a2, .i .i64 s2] = true := rfl
  have hl6 : [AV.i .i64 a0, .i .i64 s0, .i .i64 a1, .i .i64 s1, .i .i64 a2, .i .i64 s2].length = 6 := rfl
  generalize [AV.i .i64 a0, .i .i64 s0, .i .i64 a1, .i .i64 s1, .i .i64 a2, .i .i64 s2] = L6 at *
  refine Loop.countI (F := ⟨Try.prog, cxT TL3, [47, 63, 87, 115], 119, 0⟩) hTL3 mo 3 (fun _ => True)
    (fun j => [(4, .i .u16 wt), (5, .i .i8 stp), (9, .p 3 0), (16, .p 6 0), (45, .agg L), (46, .i .i64 k), (85, .agg L6), (86, .i .i64 (j : Int))])
    (fun _ => [(6, { cells := [.i .i64 w.ti, .b w.st, .i .i64 w.tp, .fz X xm] }), (3, { cells := [.i .i64 n0, .i .i64 n1] })]) 7 (by decide) trivial he hh (fun j hj _ => ?_)
  dsimp only [TL3]
  by_cases hlt : j < 3
  · have c1 : decide ((j : Int) < 3) = true := decide_eq_true (by omega)
    have c2 : decide (0 ≤ (j : Int) ∧ (j : Int) < 3) = true := decide_eq_true (by omega)
    have hw : IntKind.i64.wrap ((j : Int) + 1) = ((j + 1 : Nat) : Int) := by rw [wrapL (by omega) (by omega)]; omega
    obtain ⟨now, seq, hr⟩ := h6 j hlt
    have c3 : decide (j * 2 + 2 ≤ L6.length) = true := decide_eq_true (by omega)
    have hll : decide (w.l.length ≤ 1000000000000) = true := decide_eq_true (by omega)
    have hks : ∀ (h : Hp) n, k13 [.agg [.i .i64 w.ti, .b w.st, .i .i64 w.tp, .fz X xm], .i .i64 now, .i .i64 seq] h n = some (true, { v := rsV (sawS w now seq), n }) := fun h n => by
      simp only [k13, hwa, Option.bind_some, hll]
    have hsl := sawS_len w now seq
    have hsa := wsA_a (sawS w now seq).1
    generalize sawS w now seq = R at *
    obtain ⟨⟨rt, rs, rp, rl⟩, re⟩ := R
    simp only [rsV, Ws.a_of] at hks hsa
    dsimp only at hsl
    have hl2 : decide (rl.length ≤ 1000000000000) = true := decide_eq_true (by omega)
    have hk15 : ∀ (h : Hp) n, k15 [.agg [.i .i64 rt, .b rs, .i .i64 rp, .fz (rows Wt.l rl) rl.length], .agg [.i .i64 rt, .b rs, .i .i64 rp, .fz (rows Wt.l rl) rl.length]] h n = some (true, { v := .b true, n }) := fun h n => by
      simp only [k15, hsa, Option.bind_some, hl2, weq_r, Bool.and_self]
    have n1 : (re != re) = false := by simp
    simp (config := { maxSteps := 400000 }) only [go_sem, c1, c2, c3, hr, hw, hks, hk15, n1, hlt, hLb, hXb, hb6, AV.bel, belL, nblt, wrB, simprocAttr]
  · have c1 : decide ((j : Int) < 3) = false := decide_eq_false (by omega)
    simp (config := { maxSteps := 400000 }) only [go_sem, c1, simprocAttr]
    exact hK _ rfl rfl rfl rfl rfl
theorem body3 (d : Dr) (b0 b1 : Bd) (ti tp : Int) (st : Bool) (l : List Wt) (n0 n1 wt stp : Int) (hd : d.ok) (hb0 : b0.okB = true) (hb1 : b1.okB = true) :
    FTL Try.prog 3 [.agg d.a, .agg (b0.a ++ b1.a), .agg [.i .i64 ti, .b st, .i .i64 tp, .fz (rows Wt.l l) l.length], .agg [.i .i64 n0, .i .i64 n1], .i .u16 wt, .i .i8 stp] [] 0 (.b true) [] 0 := by
  have hda := drA_a d
  have hok := Dr.ok_iff.2 hd
  have hk9 : ∀ (h : Hp) n, k9 [.agg d.a] h n = some (true, { v := .agg (wntS d).a, n }) := fun h n => by simp only [k9, hda, Option.bind_some, hok]
  have hw0 : (wntS d).l.length ≤ 64 := wnt_len d _
  generalize wntS d = w at *
  have hb1' : (bendS b0 w).l.length ≤ 65 := Nat.le_trans (bend_len _ _) (by omega)
  have hb2' : (bendS b1 (bendS b0 w)).l.length ≤ 66 := Nat.le_trans (bend_len _ _) (by omega)
  have hwa := wsA_a w
  have hwa1 := wsA_a (bendS b0 w)
  have e1 : ∀ (h : Hp) n, k10 [.agg b0.a, .agg w.a] h n = some (true, { v := .agg (bendS b0 w).a, n }) := fun h n => by
    have h3 : bd3 b0.a = some b0 := rfl
    have h1 : decide (w.l.length ≤ 1000000) = true := decide_eq_true (by omega)
    simp only [k10, h3, hwa, Option.bind_some, hb0, h1, Bool.and_self]
  generalize bendS b0 w = w1 at *
  have e2 : ∀ (h : Hp) n, k10 [.agg b1.a, .agg w1.a] h n = some (true, { v := .agg (bendS b1 w1).a, n }) := fun h n => by
    have h3 : bd3 b1.a = some b1 := rfl
    have h1 : decide (w1.l.length ≤ 1000000) = true := decide_eq_true (by omega)
    simp only [k10, h3, hwa1, Option.bind_some, hb1, h1, Bool.and_self]
  generalize bendS b1 w1 = w2 at *
  have q0 := IsW.a w
  have q1 := IsW.a w1
  have q2 := IsW.a w2
  have hm : min l.length 66 ≤ l.length := Nat.min_le_left _ _
  have hm2 : min l.length 66 ≤ 66 := Nat.min_le_right _ _
  have q3 := IsW.cut ti tp st l (min l.length 66) hm
  have hmn : min (l.length : Int) 66 = ((min l.length 66 : Nat) : Int) := by omega
  have c7 : decide (0 ≤ ((min l.length 66 : Nat) : Int) ∧ ((min l.length 66 : Nat) : Int) ≤ (l.length : Int)) = true := decide_eq_true (by omega)
  have hlt3 : (l.take (min l.length 66)).length ≤ 66 := by rw [List.length_take]; omega
  generalize min l.length 66 = m at *
  obtain ⟨t0, s0, p0, l0⟩ := w
  obtain ⟨t1, s1, p1, l1⟩ := w1
  obtain ⟨t2, s2, p2, l2⟩ := w2
  obtain ⟨sq, tr, ev⟩ := d
  obtain ⟨bw, ba, bn⟩ := b0
  obtain ⟨cw, ca, cn⟩ := b1
  simp only [Dr.a, Bd.a, Ws.a_of, List.cons_append, List.nil_append] at hk9 e1 e2 q0 q1 q2 ⊢
  dsimp only at hw0 hb1' hb2'
  refine FTL.of_iw (cx := cxT TL3) hTL3 mo Try.func3 i3_eq (by simp [i3]) (iw_of_jw ?_)
  dsimp only [i3, TL3]
  simp (config := { maxSteps := 400000 }) only [go_sem, hk9, e1, e2, hmn, c7, simprocAttr]
  have hL : ∀ k, k < 4 → ∃ c w, List.take 4 (List.drop (k * 4) [AV.i .i64 t0, .b s0, .i .i64 p0, .fz (rows Wt.l l0) l0.length, .i .i64 t1, .b s1, .i .i64 p1, .fz (rows Wt.l l1) l1.length, .i .i64 t2, .b s2, .i .i64 p2, .fz (rows Wt.l l2) l2.length, .i .i64 ti, .b st, .i .i64 tp, .fz (rows Wt.l l) m]) = c ∧ IsW c w ∧ w.l.length ≤ 66 := fun k hk => by
    match k, hk with
    | 0, _ => exact ⟨_, _, rfl, q0, by show l0.length ≤ 66; omega⟩
    | 1, _ => exact ⟨_, _, rfl, q1, by show l1.length ≤ 66; omega⟩
    | 2, _ => exact ⟨_, _, rfl, q2, hb2'⟩
    | 3, _ => exact ⟨_, _, rfl, q3, hlt3⟩
  have hLb : ∀ j, belL j [AV.i .i64 t0, .b s0, .i .i64 p0, .fz (rows Wt.l l0) l0.length, .i .i64 t1, .b s1, .i .i64 p1, .fz (rows Wt.l l1) l1.length, .i .i64 t2, .b s2, .i .i64 p2, .fz (rows Wt.l l2) l2.length, .i .i64 ti, .b st, .i .i64 tp, .fz (rows Wt.l l) m] = true := fun j => by simp only [belL, AV.bel, wrB, Bool.and_self]
  have hlL : [AV.i .i64 t0, .b s0, .i .i64 p0, .fz (rows Wt.l l0) l0.length, .i .i64 t1, .b s1, .i .i64 p1, .fz (rows Wt.l l1) l1.length, .i .i64 t2, .b s2, .i .i64 p2, .fz (rows Wt.l l2) l2.length, .i .i64 ti, .b st, .i .i64 tp, .fz (rows Wt.l l) m].length = 16 := rfl
  generalize [AV.i .i64 t0, .b s0, .i .i64 p0, .fz (rows Wt.l l0) l0.length, .i .i64 t1, .b s1, .i .i64 p1, .fz (rows Wt.l l1) l1.length, .i .i64 t2, .b s2, .i .i64 p2, .fz (rows Wt.l l2) l2.length, .i .i64 ti, .b st, .i .i64 tp, .fz (rows Wt.l l) m] = L at *
  refine Loop.countI (F := ⟨Try.prog, cxT TL3, [47, 63, 87, 115], 119, 0⟩) hTL3 mo 4 (fun _ => True)
    (fun k => [(4, .i .u16 wt), (5, .i .i8 stp), (9, .p 3 0), (45, .agg L), (46, .i .i64 (k : Int))])
    (fun _ => [(3, { cells := [.i .i64 n0, .i .i64 n1] })]) 6 (by decide) trivial ?_ ?_ (fun k hk _ => ?_)
  · simp (config := { maxSteps := 400000 }) only [go_sem, hLb, AV.bel, belL, nblt, simprocAttr]
  · simp (config := { maxSteps := 400000 }) only [go_sem, AV.bel, belL, nblt, simprocAttr]
  dsimp only [TL3]
  clear hk9 e1 e2 q0 q1 q2 q3
  by_cases hlt : k < 4
  · have c1 : decide ((k : Int) < 4) = true := decide_eq_true (by omega)
    have c2 : decide (0 ≤ (k : Int) ∧ (k : Int) < 4) = true := decide_eq_true (by omega)
    have hw : IntKind.i64.wrap ((k : Int) + 1) = ((k + 1 : Nat) : Int) := by rw [wrapL (by omega) (by omega)]; omega
    obtain ⟨c, w, hr, hcw, hwl⟩ := hL k hlt
    have c3 : decide (k * 4 + 4 ≤ L.length) = true := decide_eq_true (by omega)
    have hcw' := hcw
    obtain ⟨hwa', X, xm, rfl, hXb⟩ := hcw'
    have hll : decide (w.l.length ≤ 1000000000000) = true := decide_eq_true (by omega)
    have hk11 : ∀ (h : Hp) n, k11 [.agg [.i .i64 w.ti, .b w.st, .i .i64 w.tp, .fz X xm]] h n = some (true, { v := .i .i64 (if goodB w then 0 else 280), n }) := fun h n => by
      simp only [k11, hwa', Option.bind_some, hll]
    have hk12 : ∀ (h : Hp) n, k12 [.agg [.i .i64 w.ti, .b w.st, .i .i64 w.tp, .fz X xm]] h n = some (true, { v := .b (goodB w), n }) := fun h n => by
      simp only [k12, hwa', Option.bind_some, hll]
    have inn := fun (K : Kont) (e : Env) (h : Hp) (n : Nat) (a0 s0 a1 s1 a2 s2 : Int) => inner3 _ w hcw hwl L hLb (k : Int) n0 n1 wt stp a0 s0 a1 s1 a2 s2 (K := K) (e := e) (h := h) (n := n)
    generalize goodB w = gw at *
    cases gw
    all_goals
      simp only [if_true, if_false, Bool.false_eq_true] at hk11
      simp (config := { maxSteps := 400000 }) only [go_sem, c1, c2, c3, hr, hk11, hk12, simprocAttr]
      refine inn _ _ _ _ n0 n1 (IntKind.i64.wrap (w.ti + IntKind.i64.wrap wt)) n1 (IntKind.i64.wrap (w.ti + IntKind.i64.wrap wt)) (andI IntKind.i64 (IntKind.i64.wrap (w.tp + IntKind.i64.wrap stp)) 65535) ?_ ?_ (fun e' g1 g2 g3 g4 g5 => ?_)
      · simp (config := { maxSteps := 400000 }) only [go_sem, hLb, hXb, AV.bel, belL, nblt, simprocAttr]
      · simp (config := { maxSteps := 400000 }) only [go_sem, hXb, AV.bel, belL, nblt, simprocAttr]
      · simp (config := { maxSteps := 400000 }) only [go_sem, g1, g2, g3, g4, g5, hw, hlt, hLb, AV.bel, belL, nblt, simprocAttr]
  · have c1 : decide ((k : Int) < 4) = false := decide_eq_false (by omega)
    simp (config := { maxSteps := 400000 }) only [go_sem, c1, k16, simprocAttr]
    exact Ends.pureE rfl rfl
end Go.Proofs.Res
