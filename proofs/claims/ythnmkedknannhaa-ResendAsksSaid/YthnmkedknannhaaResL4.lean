/- The walk of ResendAsks. -/
import Derived.Test.YthnmkedknannhaaResI4
import Derived.Test.YthnmkedknannhaaResL3
import Derived.Test.YthnmkedknannhaaResC17
namespace Go.Proofs.Res
open Go.Ab
set_option maxRecDepth 100000
set_option maxHeartbeats 16000000
set_option linter.unusedSimpArgs false
set_option linter.unusedVariables false

noncomputable def TL4 : List (Nat × Ct) := [(9, k9), (10, k10), (15, k15), (16, k16), (17, k17), (18, k18), (19, k18), (20, k20), (21, k20), (22, k22)]
theorem hTL4 : Sound Try.prog (cxT TL4) := Sound.cons s9 (Sound.cons s10 (Sound.cons s15 (Sound.cons s16 (Sound.cons s17 (Sound.cons s18 (Sound.cons s19 (Sound.cons s20 (Sound.cons s21 (Sound.cons s22 Sound.nil)))))))))
abbrev hL4 (D c : List AV) (n0 n1 : Int) : Hp := [(5, { cells := c }), (2, { cells := [.i .i64 n0, .i .i64 n1] }), (0, { cells := D })]
theorem askN_len (w : Ws) (now trip : Int) : (askS w now trip).2.1.length ≤ 64 := by
  unfold askS
  split
  · rename_i h
    cases inI 1 2000 trip
    · exact Nat.zero_le _
    · show (askN now trip w.l).length ≤ 64
      rw [askN, List.length_map]
      exact Nat.le_trans (List.length_filter_le _ _) (Nat.le_trans (List.length_filter_le _ _) (late_len h))
  · exact Nat.zero_le _
theorem inner4 (D : List AV) (hD : ∀ j, belL j D = true) (c : List AV) (w : Ws) (hc : IsW c w) (hwl : w.l.length ≤ 66) (L M : List AV) (hLb : ∀ j, belL j L = true) (hMb : ∀ j, belL j M = true) (k i n0 n1 wt tr rd a0 a1 a2 a3 : Int) {K : Kont} {e : Env} {h : Hp} {n : Nat}
    (he : EnvIn 6 e [(3, .i .u16 wt), (4, .i .u16 tr), (5, .p 0 0), (7, .p 2 0), (14, .p 5 0), (16, .i .i64 rd), (43, .agg L), (44, .i .i64 k), (55, .agg M), (56, .i .i64 i), (89, .agg [.i .i64 a0, .i .i64 a1, .i .i64 a2, .i .i64 a3]), (90, .i .i64 0)])
    (hh : HpIn 6 h (hL4 D c n0 n1))
    (hK : ∀ e', eget e' 3 = some (.i .u16 wt) → eget e' 4 = some (.i .u16 tr) → eget e' 5 = some (.p 0 0) → eget e' 7 = some (.p 2 0) → eget e' 14 = some (.p 5 0) → eget e' 43 = some (.agg L) → eget e' 44 = some (.i .i64 k) → eget e' 55 = some (.agg M) → eget e' 56 = some (.i .i64 i) → K (.exit 4) e' (hL4 D c n0 n1) 6) :
    Ab.Loop Try.prog [45, 57, 78, 91, 130] 135 0 i4l21 K e h n := by
  obtain ⟨hwa, X, xm, rfl, hXb⟩ := hc
  have h4 : ∀ j, j < 4 → ∃ a, [AV.i .i64 a0, .i .i64 a1, .i .i64 a2, .i .i64 a3][j]? = some (.i .i64 a) := fun j hj => by
    match j, hj with
    | 0, _ => exact ⟨_, rfl⟩
    | 1, _ => exact ⟨_, rfl⟩
    | 2, _ => exact ⟨_, rfl⟩
    | 3, _ => exact ⟨_, rfl⟩
  have hb4 : belL 6 [AV.i .i64 a0, .i .i64 a1, .i .i64 a2, .i .i64 a3] = true := rfl
  have hl4 : [AV.i .i64 a0, .i .i64 a1, .i .i64 a2, .i .i64 a3].length = 4 := rfl
  generalize [AV.i .i64 a0, .i .i64 a1, .i .i64 a2, .i .i64 a3] = L4 at *
  simp only [hL4] at hh hK
  refine Loop.countI (F := ⟨Try.prog, cxT TL4, [45, 57, 78, 91, 130], 135, 0⟩) hTL4 mo 4 (fun _ => True)
    (fun j => [(3, .i .u16 wt), (4, .i .u16 tr), (5, .p 0 0), (7, .p 2 0), (14, .p 5 0), (16, .i .i64 rd), (43, .agg L), (44, .i .i64 k), (55, .agg M), (56, .i .i64 i), (89, .agg L4), (90, .i .i64 (j : Int))])
    (fun _ => [(5, { cells := [.i .i64 w.ti, .b w.st, .i .i64 w.tp, .fz X xm] }), (2, { cells := [.i .i64 n0, .i .i64 n1] }), (0, { cells := D })]) 6 (by decide) trivial he hh (fun j hj _ => ?_)
  dsimp only [TL4]
  by_cases hlt : j < 4
  · have c1 : decide ((j : Int) < 4) = true := decide_eq_true (by omega)
    have c2 : decide (0 ≤ (j : Int) ∧ (j : Int) < 4) = true := decide_eq_true (by omega)
    have hw : IntKind.i64.wrap ((j : Int) + 1) = ((j + 1 : Nat) : Int) := by rw [wrapL (by omega) (by omega)]; omega
    obtain ⟨now, hr⟩ := h4 j hlt
    have hr1 : L4[j * 1]? = some (.i .i64 now) := by rw [Nat.mul_one]; exact hr
    have c3 : decide (j * 1 + 1 ≤ L4.length) = true := decide_eq_true (by omega)
    have hll : decide (w.l.length ≤ 1000000000000) = true := decide_eq_true (by omega)
    have hks : ∀ (h : Hp) n, k20 [.agg [.i .i64 w.ti, .b w.st, .i .i64 w.tp, .fz X xm], .i .i64 now, .i .i64 rd] h n = some (true, { v := askV (askS w now rd), n }) := fun h n => by
      simp only [k20, hwa, Option.bind_some, hll]
    have hsl := askS_len w now rd
    have hnl := askN_len w now rd
    have hsa := wsA_a (askS w now rd).1
    have hna := in1_un (askS w now rd).2.1
    generalize askS w now rd = R at *
    obtain ⟨⟨rt, rs, rp, rl⟩, rn, ru, re⟩ := R
    simp only [askV, Ws.a_of] at hks hsa
    dsimp only at hsl hnl hna
    have hl2 : decide (rl.length ≤ 1000000000000) = true := decide_eq_true (by omega)
    have hl3 : decide (rn.length ≤ 1000000000000) = true := decide_eq_true (by omega)
    have hk15 : ∀ (h : Hp) n, k15 [.agg [.i .i64 rt, .b rs, .i .i64 rp, .fz (rows Wt.l rl) rl.length], .agg [.i .i64 rt, .b rs, .i .i64 rp, .fz (rows Wt.l rl) rl.length]] h n = some (true, { v := .b true, n }) := fun h n => by
      simp only [k15, hsa, Option.bind_some, hl2, weq_r, Bool.and_self]
    have hk22 : ∀ (h : Hp) n, k22 [.fz (rows I1 rn) rn.length, .fz (rows I1 rn) rn.length] h n = some (true, { v := .b true, n }) := fun h n => by
      simp only [k22, hna, Option.bind_some, hl3, leq_r, Bool.and_self]
    have n1' : (re != re) = false := by simp
    have n2 : (ru == ru) = true := by simp
    have n3 : (ru != ru) = false := by simp
    simp (config := { maxSteps := 400000 }) only [go_sem, c1, c2, c3, hr, hr1, hw, hks, hk15, hk22, n1', n2, n3, hlt, hLb, hMb, hXb, hb4, hD, AV.bel, belL, nblt, wrB, irB, simprocAttr]
  · have c1 : decide ((j : Int) < 4) = false := decide_eq_false (by omega)
    simp (config := { maxSteps := 400000 }) only [go_sem, c1, simprocAttr]
    exact hK _ rfl rfl rfl rfl rfl rfl rfl rfl rfl
theorem mid4 (D : List AV) (hD : ∀ j, belL j D = true) (c : List AV) (w : Ws) (hc : IsW c w) (hwl : w.l.length ≤ 66) (L : List AV) (hLb : ∀ j, belL j L = true) (k n0 n1 wt tr r0 r1 r2 : Int) {K : Kont} {e : Env} {h : Hp} {n : Nat}
    (he : EnvIn 6 e [(3, .i .u16 wt), (4, .i .u16 tr), (5, .p 0 0), (7, .p 2 0), (14, .p 5 0), (43, .agg L), (44, .i .i64 k), (55, .agg [.i .i64 r0, .i .i64 r1, .i .i64 r2]), (56, .i .i64 0)])
    (hh : HpIn 6 h (hL4 D c n0 n1))
    (hK : ∀ e', eget e' 3 = some (.i .u16 wt) → eget e' 4 = some (.i .u16 tr) → eget e' 5 = some (.p 0 0) → eget e' 7 = some (.p 2 0) → eget e' 43 = some (.agg L) → eget e' 44 = some (.i .i64 k) → K (.exit 2) e' (hL4 D c n0 n1) 6) :
    Ab.Loop Try.prog [45, 57, 78, 91, 130] 135 0 i4l23 K e h n := by
  have hc0 := hc
  obtain ⟨hwa, X, xm, rfl, hXb⟩ := hc
  have h3 : ∀ j, j < 3 → ∃ a, [AV.i .i64 r0, .i .i64 r1, .i .i64 r2][j]? = some (.i .i64 a) := fun j hj => by
    match j, hj with
    | 0, _ => exact ⟨_, rfl⟩
    | 1, _ => exact ⟨_, rfl⟩
    | 2, _ => exact ⟨_, rfl⟩
  have hb3 : ∀ j, belL j [AV.i .i64 r0, .i .i64 r1, .i .i64 r2] = true := fun _ => rfl
  have hl3 : [AV.i .i64 r0, .i .i64 r1, .i .i64 r2].length = 3 := rfl
  generalize [AV.i .i64 r0, .i .i64 r1, .i .i64 r2] = M at *
  simp only [hL4] at hh hK
  refine Loop.countI (F := ⟨Try.prog, cxT TL4, [45, 57, 78, 91, 130], 135, 0⟩) hTL4 mo 3 (fun _ => True)
    (fun j => [(3, .i .u16 wt), (4, .i .u16 tr), (5, .p 0 0), (7, .p 2 0), (14, .p 5 0), (43, .agg L), (44, .i .i64 k), (55, .agg M), (56, .i .i64 (j : Int))])
    (fun _ => [(5, { cells := [.i .i64 w.ti, .b w.st, .i .i64 w.tp, .fz X xm] }), (2, { cells := [.i .i64 n0, .i .i64 n1] }), (0, { cells := D })]) 6 (by decide) trivial he hh (fun j hj _ => ?_)
  dsimp only [TL4]
  by_cases hlt : j < 3
  · have c1 : decide ((j : Int) < 3) = true := decide_eq_true (by omega)
    have c2 : decide (0 ≤ (j : Int) ∧ (j : Int) < 3) = true := decide_eq_true (by omega)
    have hw : IntKind.i64.wrap ((j : Int) + 1) = ((j + 1 : Nat) : Int) := by rw [wrapL (by omega) (by omega)]; omega
    obtain ⟨rd, hr⟩ := h3 j hlt
    have hr1 : M[j * 1]? = some (.i .i64 rd) := by rw [Nat.mul_one]; exact hr
    have c3 : decide (j * 1 + 1 ≤ M.length) = true := decide_eq_true (by omega)
    have hll : decide (w.l.length ≤ 1000000000000) = true := decide_eq_true (by omega)
    have hks : ∀ (h : Hp) n, k18 [.agg [.i .i64 w.ti, .b w.st, .i .i64 w.tp, .fz X xm], .i .i64 rd] h n = some (true, { v := nextV (nextS w rd), n }) := fun h n => by
      simp only [k18, hwa, Option.bind_some, hll]
    generalize nextS w rd = R at *
    obtain ⟨t, te⟩ := R
    simp only [nextV] at hks
    have n1' : (t != t) = false := by simp
    have n2 : (te != te) = false := by simp
    have inn := fun (K : Kont) (e : Env) (h : Hp) (n : Nat) (a0 a1 a2 a3 : Int) => inner4 D hD _ w hc0 hwl L M hLb hb3 k (j : Int) n0 n1 wt tr rd a0 a1 a2 a3 (K := K) (e := e) (h := h) (n := n)
    simp (config := { maxSteps := 400000 }) only [go_sem, c1, c2, c3, hr, hr1, hks, n1', n2, simprocAttr]
    refine inn _ _ _ _ n0 (IntKind.i64.wrap (w.ti + IntKind.i64.wrap wt)) t (IntKind.i64.wrap (t - 1)) ?_ ?_ (fun e' g1 g2 g3 g4 g5 g6 g7 g8 g9 => ?_)
    · simp (config := { maxSteps := 400000 }) only [go_sem, hLb, hXb, hb3, hD, AV.bel, belL, nblt, simprocAttr]
    · simp (config := { maxSteps := 400000 }) only [go_sem, hLb, hXb, hb3, hD, AV.bel, belL, nblt, simprocAttr]
    · simp (config := { maxSteps := 400000 }) only [go_sem, g1, g2, g3, g4, g5, g6, g7, g8, g9, hw, hlt, hLb, hXb, hb3, hD, AV.bel, belL, nblt, simprocAttr]
  · have c1 : decide ((j : Int) < 3) = false := decide_eq_false (by omega)
    simp (config := { maxSteps := 400000 }) only [go_sem, c1, simprocAttr]
    exact hK _ rfl rfl rfl rfl rfl rfl
theorem body4 (d : Dr) (b0 b1 : Bd) (n0 n1 wt tr : Int) (hd : d.ok) (hb0 : b0.okB = true) (hb1 : b1.okB = true) (htr : 0 ≤ tr ∧ tr ≤ 65535) :
    FTL Try.prog 4 [.agg d.a, .agg (b0.a ++ b1.a), .agg [.i .i64 n0, .i .i64 n1], .i .u16 wt, .i .u16 tr] [] 0 (.b true) [] 0 := by
  have hda := drA_a d
  have hok := Dr.ok_iff.2 hd
  have hk9 : ∀ (h : Hp) n, k9 [.agg d.a] h n = some (true, { v := .agg (wntS d).a, n }) := fun h n => by simp only [k9, hda, Option.bind_some, hok]
  have hk17 : ∀ (h : Hp) n, k17 [.agg d.a] h n = some (true, { v := .i .i64 (roundS d), n }) := fun h n => by simp only [k17, hda, Option.bind_some, hok]
  have hw0 : (wntS d).l.length ≤ 64 := wnt_len d _
  generalize wntS d = w at *
  generalize roundS d = rd at *
  have hb1' : (bendS b0 w).l.length ≤ 65 := Nat.le_trans (bend_len _ _) (by omega)
  have hb2' : (bendS b1 (bendS b0 w)).l.length ≤ 66 := Nat.le_trans (bend_len _ _) (by omega)
  have hwa := wsA_a w
  have hwa1 := wsA_a (bendS b0 w)
  have e1 : ∀ (h : Hp) n, k10 [.agg b0.a, .agg w.a] h n = some (true, { v := .agg (bendS b0 w).a, n }) := fun h n => by
    have h3 : bd3 b0.a = some b0 := rfl
    have h1 : decide (w.l.length ≤ 1000000) = true := decide_eq_true (by omega)
    simp only [k10, h3, hwa, Option.bind_some, hb0, h1, Bool.and_self]
  generalize bendS b0 w = w1 at *
  have e2 : ∀ (h : Hp) n, k10 [.agg b1.a, .agg w1.a] h n = some (true, { v := .agg (bendS b1 w1).a, n }) := fun h n => by
    have h3 : bd3 b1.a = some b1 := rfl
    have h1 : decide (w1.l.length ≤ 1000000) = true := decide_eq_true (by omega)
    simp only [k10, h3, hwa1, Option.bind_some, hb1, h1, Bool.and_self]
  generalize bendS b1 w1 = w2 at *
  have q0 := IsW.a w
  have q1 := IsW.a w1
  have q2 := IsW.a w2
  have t1 : 0 ≤ tr.tmod 2000 ∧ tr.tmod 2000 < 2000 := by rw [Int.tmod_eq_emod_of_nonneg (by omega)]; omega
  have m1 : IntKind.u16.wrap (tr.tmod 2000) = tr.tmod 2000 := by rw [wrapU16]; omega
  have m2 : IntKind.i64.wrap (tr.tmod 2000) = tr.tmod 2000 := wrapL (by omega) (by omega)
  have m3 : IntKind.i64.wrap (1 + tr.tmod 2000) = 1 + tr.tmod 2000 := wrapL (by omega) (by omega)
  obtain ⟨t0, s0, p0, l0⟩ := w
  obtain ⟨ta, s1, p1, l1⟩ := w1
  obtain ⟨t2, s2, p2, l2⟩ := w2
  obtain ⟨sq, dtr, ev⟩ := d
  obtain ⟨bw, ba, bn⟩ := b0
  obtain ⟨cw, ca, cn⟩ := b1
  simp only [Dr.a, Bd.a, Ws.a_of, List.cons_append, List.nil_append] at hk9 hk17 e1 e2 q0 q1 q2 ⊢
  dsimp only at hw0 hb1' hb2'
  refine FTL.of_iw (cx := cxT TL4) hTL4 mo Try.func4 i4_eq (by simp [i4]) (iw_of_jw ?_)
  dsimp only [i4, TL4]
  simp (config := { maxSteps := 400000 }) only [go_sem, hk9, e1, e2, simprocAttr]
  have hD : ∀ j, belL j [AV.i .u16 sq, .i .u16 dtr, .fz (rows Ev.l ev) ev.length] = true := fun j => by simp only [belL, AV.bel, erB, Bool.and_self]
  have hL : ∀ k, k < 3 → ∃ c w, List.take 4 (List.drop (k * 4) [AV.i .i64 t0, .b s0, .i .i64 p0, .fz (rows Wt.l l0) l0.length, .i .i64 ta, .b s1, .i .i64 p1, .fz (rows Wt.l l1) l1.length, .i .i64 t2, .b s2, .i .i64 p2, .fz (rows Wt.l l2) l2.length]) = c ∧ IsW c w ∧ w.l.length ≤ 66 := fun k hk => by
    match k, hk with
    | 0, _ => exact ⟨_, _, rfl, q0, by show l0.length ≤ 66; omega⟩
    | 1, _ => exact ⟨_, _, rfl, q1, by show l1.length ≤ 66; omega⟩
    | 2, _ => exact ⟨_, _, rfl, q2, hb2'⟩
  have hLb : ∀ j, belL j [AV.i .i64 t0, .b s0, .i .i64 p0, .fz (rows Wt.l l0) l0.length, .i .i64 ta, .b s1, .i .i64 p1, .fz (rows Wt.l l1) l1.length, .i .i64 t2, .b s2, .i .i64 p2, .fz (rows Wt.l l2) l2.length] = true := fun j => by simp only [belL, AV.bel, wrB, Bool.and_self]
  have hlL : [AV.i .i64 t0, .b s0, .i .i64 p0, .fz (rows Wt.l l0) l0.length, .i .i64 ta, .b s1, .i .i64 p1, .fz (rows Wt.l l1) l1.length, .i .i64 t2, .b s2, .i .i64 p2, .fz (rows Wt.l l2) l2.length].length = 12 := rfl
  generalize [AV.i .i64 t0, .b s0, .i .i64 p0, .fz (rows Wt.l l0) l0.length, .i .i64 ta, .b s1, .i .i64 p1, .fz (rows Wt.l l1) l1.length, .i .i64 t2, .b s2, .i .i64 p2, .fz (rows Wt.l l2) l2.length] = L at *
  refine Loop.countI (F := ⟨Try.prog, cxT TL4, [45, 57, 78, 91, 130], 135, 0⟩) hTL4 mo 3 (fun _ => True)
    (fun k => [(3, .i .u16 wt), (4, .i .u16 tr), (5, .p 0 0), (7, .p 2 0), (43, .agg L), (44, .i .i64 (k : Int))])
    (fun _ => [(2, { cells := [.i .i64 n0, .i .i64 n1] }), (0, { cells := [.i .u16 sq, .i .u16 dtr, .fz (rows Ev.l ev) ev.length] })]) 5 (by decide) trivial ?_ ?_ (fun k hk _ => ?_)
  · simp (config := { maxSteps := 400000 }) only [go_sem, hLb, AV.bel, belL, nblt, simprocAttr]
  · simp (config := { maxSteps := 400000 }) only [go_sem, erB, AV.bel, belL, nblt, simprocAttr]
  dsimp only [TL4]
  clear hk9 e1 e2 q0 q1 q2
  by_cases hlt : k < 3
  · have c1 : decide ((k : Int) < 3) = true := decide_eq_true (by omega)
    have c2 : decide (0 ≤ (k : Int) ∧ (k : Int) < 3) = true := decide_eq_true (by omega)
    have hw : IntKind.i64.wrap ((k : Int) + 1) = ((k + 1 : Nat) : Int) := by rw [wrapL (by omega) (by omega)]; omega
    obtain ⟨c, w, hr, hcw, hwl⟩ := hL k hlt
    have c3 : decide (k * 4 + 4 ≤ L.length) = true := decide_eq_true (by omega)
    have hcw' := hcw
    obtain ⟨hwa', X, xm, rfl, hXb⟩ := hcw'
    have inn := fun (K : Kont) (e : Env) (h : Hp) (n : Nat) (r0 r1 r2 : Int) => mid4 _ hD _ w hcw hwl L hLb (k : Int) n0 n1 wt tr r0 r1 r2 (K := K) (e := e) (h := h) (n := n)
    simp (config := { maxSteps := 400000 }) only [go_sem, c1, c2, c3, hr, hk17, m1, m2, m3, simprocAttr]
    refine inn _ _ _ _ n1 rd (1 + tr.tmod 2000) ?_ ?_ (fun e' g1 g2 g3 g4 g5 g6 => ?_)
    · simp (config := { maxSteps := 400000 }) only [go_sem, hLb, hXb, erB, AV.bel, belL, nblt, simprocAttr]
    · simp (config := { maxSteps := 400000 }) only [go_sem, hXb, erB, AV.bel, belL, nblt, simprocAttr]
    · simp (config := { maxSteps := 400000 }) only [go_sem, g1, g2, g3, g4, g5, g6, hw, hlt, hLb, hXb, erB, AV.bel, belL, nblt, simprocAttr]
  · have c1 : decide ((k : Int) < 3) = false := decide_eq_false (by omega)
    simp (config := { maxSteps := 400000 }) only [go_sem, c1, k16, simprocAttr]
    exact Ends.pureE rfl rfl
end Go.Proofs.Res
