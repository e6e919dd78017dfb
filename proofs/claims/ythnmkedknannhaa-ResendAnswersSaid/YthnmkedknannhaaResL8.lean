/- The walk of ResendAnswers; printed by resl8.py. -/
import Derived.Test.YthnmkedknannhaaResL8a
import Derived.Test.YthnmkedknannhaaResI8
import Derived.Test.YthnmkedknannhaaResK
namespace Go.Proofs.Res
open Go.Ab
set_option maxRecDepth 100000
set_option maxHeartbeats 16000000
set_option linter.unusedSimpArgs false
set_option linter.unusedVariables false
noncomputable def TL8 : List (Nat × Ct) := [(16, k16), (17, k17), (27, k27g), (36, k36), (37, k37v), (38, k38), (42, k42), (43, k43), (44, k44), (45, k45), (46, k46), (47, k47), (48, k48)]
theorem hTL8 : Sound Try.prog (cxT TL8) := Sound.cons s16 (Sound.cons s17 (Sound.cons s27g (Sound.cons s36 (Sound.cons s37v (Sound.cons s38 (Sound.cons s42 (Sound.cons s43 (Sound.cons s44v (Sound.cons s45 (Sound.cons s46 (Sound.cons s47 (Sound.cons s48 Sound.nil))))))))))))
noncomputable abbrev F8 : Fx := ⟨Try.prog, cxT TL8, [57, 67, 88, 126, 134, 143, 171], 178, 0⟩
def IsN (v : AV) (ns : List Int) : Prop := ∃ X m, v = .fz X m ∧ cellsAt X 0 (m * 1) = rows int1 ns ∧ m = ns.length ∧ (∀ j, belL j X = true) ∧ m ≤ 1000000000000
theorem IsN.bel {v : AV} {ns : List Int} (h : IsN v ns) (j : Nat) : v.bel j = true := by
 obtain ⟨X, m, rfl, _, _, hb, _⟩ := h
 exact hb j
theorem IsN.k37 {v : AV} {ns : List Int} (hv : IsN v ns) {w : Hs} (hw : w.l.length ≤ 66) (ht : tinyH w = true) (h : Hp) (n : Nat) (now trip : Int) : k37v [.agg w.a, .i .i64 now, .i .i64 trip, v] h n = some (true, { v := rsA (ansS w now trip ns), n }) := by
 obtain ⟨X, m, rfl, hc, rfl, _, hm⟩ := hv
 have h1 : decide (w.l.length ≤ 1000000000000) = true := decide_eq_true (by omega)
 have h2 : decide (ns.length ≤ 1000000000000) = true := decide_eq_true hm
 have h3 : decide ((rows int1 ns).length = ns.length * 1) = true := decide_eq_true (rows_len int1_len)
 simp only [k37v, vwK_f, hc, hsA_a, in_un, Option.bind_some, h1, h2, h3, tiny_fin ht, wrt, dels, Bool.and_self]
theorem IsN.k44 {v : AV} {ns : List Int} (hv : IsN v ns) {w : Hs} (hw : w.l.length ≤ 66) (ht : tinyH w = true) (h : Hp) (n : Nat) (now trip : Int) : k44 [.agg w.a, .i .i64 now, .i .i64 trip, v] h n = some (true, { v := rsA (ansS w now trip ns), n }) := hv.k37 hw ht h n now trip
theorem md_k36 (q : Md) (h1 : q.cs.length ≤ 1000000000000) (h2 : q.xs.length ≤ 1000000000000) (h : Hp) (n : Nat) : k36 [.agg q.l, .agg q.l] h n = some (true, { v := .b true, n }) := by
 have e1 : decide (q.cs.length ≤ 1000000000000) = true := decide_eq_true h1
 have e2 : decide (q.xs.length ≤ 1000000000000) = true := decide_eq_true h2
 simp only [k36, md9_l, Option.bind_some, if_true, e1, e2, Bool.and_self]
abbrev H8 (D Y c : List AV) (n0 n1 : Int) : Hp := [(0, { cells := D }), (2, { cells := [.i .i64 n0, .i .i64 n1] }), (3, { cells := Y }), (6, { cells := c })]
theorem in28 (D Y c : List AV) (hD : ∀ j, belL j D = true) (hY : ∀ j, belL j Y = true) (hc : ∀ j, belL j c = true) (n0 n1 wt : Int) (R0 OW : AV) (hR0 : ∀ j, R0.bel j = true) (hOW : ∀ j, OW.bel j = true) (L : List AV) (hL : ∀ j, belL j L = true) (k : Int) (T : List AV) (hT : ∀ j, belL j T = true) (jj : Int) (NV : AV) (hNV : ∀ j, NV.bel j = true) (M : List AV) (hM : ∀ j, belL j M = true) (ii : Int) (PV : AV) (hPV : ∀ j, PV.bel j = true) (pn pi_ : Int) (Q : List AV) (hQl : Q.length = 18) (hQb : ∀ j, belL j Q = true) (hQ : ∀ j, j < 2 → ∃ z : Md, List.take 9 (List.drop (j * 9) Q) = z.l ∧ z.fin = true) {K : Kont} {e : Env} {h : Hp} {n : Nat}
 (he : EnvIn 7 e [(3, .i .u16 wt), (4, R0), (6, .p 0 0), (8, .p 2 0), (11, .p 3 0), (15, OW), (17, .p 6 0), (19, NV), (55, .agg L), (56, .i .i64 k), (65, .agg T), (66, .i .i64 jj), (86, .agg M), (87, .i .i64 ii), (131, PV), (132, .i .i64 pn), (133, .i .i64 pi_), (141, .agg Q), (142, .i .i64 0)]) (hh : HpIn 7 h (H8 D Y c n0 n1))
 (hK : ∀ e', eget e' 3 = some (.i .u16 wt) → eget e' 4 = some (R0) → eget e' 6 = some (.p 0 0) → eget e' 8 = some (.p 2 0) → eget e' 11 = some (.p 3 0) → eget e' 15 = some (OW) → eget e' 17 = some (.p 6 0) → eget e' 19 = some (NV) → eget e' 55 = some (.agg L) → eget e' 56 = some (.i .i64 k) → eget e' 65 = some (.agg T) → eget e' 66 = some (.i .i64 jj) → eget e' 86 = some (.agg M) → eget e' 87 = some (.i .i64 ii) → eget e' 131 = some (PV) → eget e' 132 = some (.i .i64 pn) → eget e' 133 = some (.i .i64 pi_) → K (.exit 8) e' (H8 D Y c n0 n1) 7) :
 Ab.Loop Try.prog [57, 67, 88, 126, 134, 143, 171] 178 0 i8l28 K e h n := by
 refine Loop.countI (F := F8) hTL8 mo 2 (fun _ => True)
  (fun j => [(3, .i .u16 wt), (4, R0), (6, .p 0 0), (8, .p 2 0), (11, .p 3 0), (15, OW), (17, .p 6 0), (19, NV), (55, .agg L), (56, .i .i64 k), (65, .agg T), (66, .i .i64 jj), (86, .agg M), (87, .i .i64 ii), (131, PV), (132, .i .i64 pn), (133, .i .i64 pi_), (141, .agg Q), (142, .i .i64 (j : Int))])
  (fun _ => (H8 D Y c n0 n1)) 7 (by decide) trivial he hh (fun j hj _ => ?_)
 dsimp only [F8, TL8, H8]
 by_cases hlt : j < 2
 · have c1 : decide ((j : Int) < 2) = true := decide_eq_true (by omega)
   have c2 : decide (0 ≤ (j : Int) ∧ (j : Int) < 2) = true := decide_eq_true (by omega)
   have hw : IntKind.i64.wrap ((j : Int) + 1) = ((j + 1 : Nat) : Int) := by rw [wrapL (by omega) (by omega)]; omega
   have c3 : decide (j * 9 + 9 ≤ Q.length) = true := decide_eq_true (by omega)
   obtain ⟨z, hz, hzf⟩ := hQ j hlt
   have h9 := md9_l z
   have k38f : ∀ (h : Hp) n, k38 [.agg z.l, .i .i64 n0, .i .i64 n1] h n = some (true, { v := rsM (orgS z n0 n1), n }) := fun h n => by simp only [k38, h9, Option.bind_some, hzf]
   have k48f : ∀ (h : Hp) n, k48 [.agg z.l, .i .i64 n0, .i .i64 n1] h n = some (true, { v := rsM (orgS z n0 n1), n }) := fun h n => by simp only [k48, h9, Option.bind_some]
   have hof := org_fin hzf n0 n1
   simp only [Bool.and_eq_true, decide_eq_true_eq] at hof
   generalize orgS z n0 n1 = R at *
   have k36f := md_k36 R.1 hof.1 hof.2
   obtain ⟨⟨ma, pty, sq, tm, pss, cs, xs, pd, pl⟩, re⟩ := R
   obtain ⟨zma, zpty, zsq, ztm, zpss, zcs, zxs, zpd, zpl⟩ := z
   simp only [rsM, Md.l] at k38f k48f k36f hz
   have e1 : (re != re) = false := by simp
   simp (maxSteps := 400000) only [go_sem, c1, c2, c3, hz, hw, k38f, k48f, k36f, e1, hlt, hT, hNV, hM, hPV, hQb, hD, hY, hc, hR0, hOW, hL, AV.bel, belL, nblt, simprocAttr]
 · have c1 : decide ((j : Int) < 2) = false := decide_eq_false (by omega)
   simp (maxSteps := 400000) only [go_sem, c1, simprocAttr]
   exact hK _ rfl rfl rfl rfl rfl rfl rfl rfl rfl rfl rfl rfl rfl rfl rfl rfl rfl
theorem in30 (D Y c : List AV) (hD : ∀ j, belL j D = true) (hY : ∀ j, belL j Y = true) (hc : ∀ j, belL j c = true) (n0 n1 wt : Int) (R0 OW : AV) (hR0 : ∀ j, R0.bel j = true) (hOW : ∀ j, OW.bel j = true) (L : List AV) (hL : ∀ j, belL j L = true) (k : Int) (T : List AV) (hT : ∀ j, belL j T = true) (jj : Int) (NV : AV) (hNV : ∀ j, NV.bel j = true) (M : List AV) (hM : ∀ j, belL j M = true) (ii : Int) (y : Bm) (hy : y.okB = true) (hYy : Y = y.a) (P : List Md) (hPs : ∀ p ∈ P, p.cs.length = 0 ∧ p.xs.length = 0 ∧ p.pl.length ≤ 3) (m3 : Nat) (hm3 : m3 ≤ P.length) (hm3' : m3 ≤ 3) {K : Kont} {e : Env} {h : Hp} {n : Nat}
 (he : EnvIn 7 e [(3, .i .u16 wt), (4, R0), (6, .p 0 0), (8, .p 2 0), (11, .p 3 0), (15, OW), (17, .p 6 0), (19, NV), (55, .agg L), (56, .i .i64 k), (65, .agg T), (66, .i .i64 jj), (86, .agg M), (87, .i .i64 ii), (131, .fz (rows Md.l P) m3), (132, .i .i64 (m3 : Int)), (133, .i .i64 0)]) (hh : HpIn 7 h (H8 D Y c n0 n1))
 (hK : ∀ e', eget e' 3 = some (.i .u16 wt) → eget e' 4 = some (R0) → eget e' 6 = some (.p 0 0) → eget e' 8 = some (.p 2 0) → eget e' 11 = some (.p 3 0) → eget e' 15 = some (OW) → eget e' 17 = some (.p 6 0) → eget e' 19 = some (NV) → eget e' 55 = some (.agg L) → eget e' 56 = some (.i .i64 k) → eget e' 65 = some (.agg T) → eget e' 66 = some (.i .i64 jj) → eget e' 86 = some (.agg M) → eget e' 87 = some (.i .i64 ii) → K (.exit 6) e' (H8 D Y c n0 n1) 7) :
 Ab.Loop Try.prog [57, 67, 88, 126, 134, 143, 171] 178 0 i8l30 K e h n := by
 have hPV : ∀ j, belL j (rows Md.l P) = true := fun j => mrB j P
 refine Loop.countI (F := F8) hTL8 mo m3 (fun _ => True)
  (fun j => [(3, .i .u16 wt), (4, R0), (6, .p 0 0), (8, .p 2 0), (11, .p 3 0), (15, OW), (17, .p 6 0), (19, NV), (55, .agg L), (56, .i .i64 k), (65, .agg T), (66, .i .i64 jj), (86, .agg M), (87, .i .i64 ii), (131, .fz (rows Md.l P) m3), (132, .i .i64 (m3 : Int)), (133, .i .i64 (j : Int))])
  (fun _ => (H8 D Y c n0 n1)) 7 (by decide) trivial he hh (fun j hj _ => ?_)
 dsimp only [F8, TL8, H8]
 by_cases hlt : j < m3
 · have c1 : decide ((j : Int) < (m3 : Int)) = true := decide_eq_true (by omega)
   have c2 : decide (0 ≤ (j : Int) ∧ (j : Int) < (m3 : Int)) = true := decide_eq_true (by omega)
   have hw : IntKind.i64.wrap ((j : Int) + 1) = ((j + 1 : Nat) : Int) := by rw [wrapL (by omega) (by omega)]; omega
   obtain ⟨q, hq⟩ : ∃ q, P[j]? = some q := ⟨_, List.getElem?_eq_getElem (by omega)⟩
   have hz : List.take 9 (List.drop (j * 9) (rows Md.l P)) = q.l := rows_at Md.len hq
   have hsm := hPs q (List.mem_of_getElem? hq)
   have hq1 := (small_q hsm).fin
   have hq2 := small_b hsm y
   have h9 := md9_l q
   have hbm := (small_q hsm).bm
   have hy3 : bm3 y.a = some y := rfl
   have k47f : ∀ (h : Hp) n, k47 [.agg y.a, .agg q.l] h n = some (true, { v := .agg (bmM y q).l, n }) := fun h n => by simp only [k47, hy3, h9, Option.bind_some, hy, hbm, Bool.and_self]
   generalize bmM y q = z at *
   subst hYy
   obtain ⟨ma, pty, sq, tm, pss, cs, xs, pd, pl⟩ := q
   obtain ⟨zma, zpty, zsq, ztm, zpss, zcs, zxs, zpd, zpl⟩ := z
   obtain ⟨yw, ya, yn⟩ := y
   simp only [Md.l, Bm.a] at k47f hz
   have hqB : ∀ j, belL j (rows int1 cs) = true := fun j => csB j cs
   have hqX : ∀ j, belL j (rows xtR xs) = true := fun j => xsB j xs
   have hzB : ∀ j, belL j (rows int1 zcs) = true := fun j => csB j zcs
   have hzX : ∀ j, belL j (rows xtR zxs) = true := fun j => xsB j zxs
   have inn := fun (K : Kont) (e : Env) (h : Hp) (n : Nat) (hQ1) (hQ2) (hQ3) => in28 D (Bm.a ⟨yw, ya, yn⟩) c hD hY hc n0 n1 wt R0 OW hR0 hOW L hL k T hT jj NV hNV M hM ii (.fz (rows Md.l P) m3) hPV (m3 : Int) (j : Int) [.b ma, .i .i64 pty, .i .i64 sq, .i .i64 tm, .i .i64 pss, .fz (rows int1 cs) cs.length, .fz (rows xtR xs) xs.length, .i .i64 pd, .s pl, .b zma, .i .i64 zpty, .i .i64 zsq, .i .i64 ztm, .i .i64 zpss, .fz (rows int1 zcs) zcs.length, .fz (rows xtR zxs) zxs.length, .i .i64 zpd, .s zpl] hQ1 hQ2 hQ3 (K := K) (e := e) (h := h) (n := n)
   have inn := fun (K : Kont) (e : Env) (h : Hp) (n : Nat) => inn K e h n rfl (fun j => by simp only [belL, AV.bel, hqB, hqX, hzB, hzX, Bool.and_self]) (fun j hj => by
    match j, hj with
    | 0, _ => exact ⟨⟨ma, pty, sq, tm, pss, cs, xs, pd, pl⟩, rfl, hq1⟩
    | 1, _ => exact ⟨⟨zma, zpty, zsq, ztm, zpss, zcs, zxs, zpd, zpl⟩, rfl, hq2⟩)
   simp only [Bm.a] at inn ⊢
   simp (maxSteps := 400000) only [go_sem, c1, c2, hz, hw, k47f, simprocAttr]
   refine inn _ _ _ _ ?_ ?_ (fun e' g3 g4 g6 g8 g11 g15 g17 g19 g55 g56 g65 g66 g86 g87 g131 g132 g133 => ?_)
   · simp (maxSteps := 400000) only [go_sem, hT, hNV, hM, hPV, hqB, hqX, hzB, hzX, hD, hY, hc, hR0, hOW, hL, AV.bel, belL, nblt, simprocAttr]
   · simp (maxSteps := 400000) only [go_sem, H8, hqB, hqX, hzB, hzX, hT, hNV, hM, hPV, hD, hY, hc, hR0, hOW, hL, AV.bel, belL, nblt, simprocAttr]
   · simp (maxSteps := 400000) only [go_sem, H8, g3, g4, g6, g8, g11, g15, g17, g19, g55, g56, g65, g66, g86, g87, g131, g132, g133, hw, hlt, hT, hNV, hM, hPV, hD, hY, hc, hR0, hOW, hL, AV.bel, belL, nblt, simprocAttr]
 · have c1 : decide ((j : Int) < (m3 : Int)) = false := decide_eq_false (by omega)
   simp (maxSteps := 400000) only [go_sem, c1, simprocAttr]
   exact hK _ rfl rfl rfl rfl rfl rfl rfl rfl rfl rfl rfl rfl rfl rfl
theorem in32 (D Y : List AV) (w : Hs) (c : List AV) (hcw : c = w.a) (hwl : w.l.length ≤ 66) (hwt : tinyH w = true) (hD : ∀ j, belL j D = true) (hY : ∀ j, belL j Y = true) (hc : ∀ j, belL j c = true) (n0 n1 wt : Int) (R0 OW : AV) (hR0 : ∀ j, R0.bel j = true) (hOW : ∀ j, OW.bel j = true) (L : List AV) (hL : ∀ j, belL j L = true) (k : Int) (T : List AV) (hT : ∀ j, belL j T = true) (jj : Int) (y : Bm) (hy : y.okB = true) (hYy : Y = y.a) (NV : AV) (ns : List Int) (hN : IsN NV ns) (M : List AV) (hM : ∀ j, belL j M = true) (hMl : M.length = 6) (hMi : ∀ j, j < 3 → ∃ a b : Int, List.take 2 (List.drop (j * 2) M) = [.i .i64 a, .i .i64 b]) {K : Kont} {e : Env} {h : Hp} {n : Nat}
 (he : EnvIn 7 e [(3, .i .u16 wt), (4, R0), (6, .p 0 0), (8, .p 2 0), (11, .p 3 0), (15, OW), (17, .p 6 0), (19, NV), (55, .agg L), (56, .i .i64 k), (65, .agg T), (66, .i .i64 jj), (86, .agg M), (87, .i .i64 0)]) (hh : HpIn 7 h (H8 D Y c n0 n1))
 (hK : ∀ e', eget e' 3 = some (.i .u16 wt) → eget e' 4 = some (R0) → eget e' 6 = some (.p 0 0) → eget e' 8 = some (.p 2 0) → eget e' 11 = some (.p 3 0) → eget e' 15 = some (OW) → eget e' 17 = some (.p 6 0) → eget e' 55 = some (.agg L) → eget e' 56 = some (.i .i64 k) → eget e' 65 = some (.agg T) → eget e' 66 = some (.i .i64 jj) → K (.exit 4) e' (H8 D Y c n0 n1) 7) :
 Ab.Loop Try.prog [57, 67, 88, 126, 134, 143, 171] 178 0 i8l32 K e h n := by
 have hNV := hN.bel
 refine Loop.countI (F := F8) hTL8 mo 3 (fun _ => True)
  (fun j => [(3, .i .u16 wt), (4, R0), (6, .p 0 0), (8, .p 2 0), (11, .p 3 0), (15, OW), (17, .p 6 0), (19, NV), (55, .agg L), (56, .i .i64 k), (65, .agg T), (66, .i .i64 jj), (86, .agg M), (87, .i .i64 (j : Int))])
  (fun _ => (H8 D Y c n0 n1)) 7 (by decide) trivial he hh (fun j hj _ => ?_)
 dsimp only [F8, TL8, H8]
 by_cases hlt : j < 3
 · have c1 : decide ((j : Int) < 3) = true := decide_eq_true (by omega)
   have c2 : decide (0 ≤ (j : Int) ∧ (j : Int) < 3) = true := decide_eq_true (by omega)
   have hw : IntKind.i64.wrap ((j : Int) + 1) = ((j + 1 : Nat) : Int) := by rw [wrapL (by omega) (by omega)]; omega
   have c3 : decide (j * 2 + 2 ≤ M.length) = true := decide_eq_true (by omega)
   obtain ⟨now, trip, hz⟩ := hMi j hlt
   have k37f := fun (h : Hp) (n : Nat) => hN.k37 hwl hwt h n now trip
   have k44f := fun (h : Hp) (n : Nat) => hN.k44 hwl hwt h n now trip
   have hpo := ans_out hwt now trip ns
   have hsm := sm_of (ans_tiny hwt now trip ns)
   have hsl := ans_ll w now trip ns
   have hol := ans_ol w now trip ns
   have hra := hsA_a (ansS w now trip ns).1
   rw [← hcw] at k37f k44f
   obtain ⟨ti, wss, wty, wnx, wl⟩ := w
   simp only [Hs.a] at hcw
   generalize ansS ⟨ti, wss, wty, wnx, wl⟩ now trip ns = R at *
   obtain ⟨⟨rt, rs, ry, rn, rl⟩, P, re⟩ := R
   simp only [rsA, Hs.a] at k37f k44f hra
   dsimp only at hpo hsm hsl hol hwl
   have e1 : (re != re) = false := by simp
   have e2 : decide (rl.length ≤ 1000000000000) = true := decide_eq_true (by omega)
   have e3 : decide (P.length ≤ 1000000000000) = true := decide_eq_true (by omega)
   have k45f : ∀ (h : Hp) n, k45 [.agg [.i .i64 rt, .i .i64 rs, .i .i64 ry, .i .i64 rn, .fz (rows Kp.l rl) rl.length], .agg [.i .i64 rt, .i .i64 rs, .i .i64 ry, .i .i64 rn, .fz (rows Kp.l rl) rl.length]] h n = some (true, { v := .b true, n }) := fun h n => by
    simp only [k45, hra, Option.bind_some, if_true, e2, hsm, Bool.and_self]
   have k46f : ∀ (h : Hp) n, k46 [.fz (rows Md.l P) P.length, .fz (rows Md.l P) P.length, .fn 36 []] h n = some (true, { v := .b true, n }) := fun h n => by
    simp only [k46, md_un, Option.bind_some, and_self, if_true, e3, smP_of hpo, Bool.and_self]
   have hmn : min (P.length : Int) 3 = ((min P.length 3 : Nat) : Int) := by omega
   have hm3 : min P.length 3 ≤ P.length := Nat.min_le_left _ _
   have hm3' : min P.length 3 ≤ 3 := Nat.min_le_right _ _
   generalize hmm : min P.length 3 = m3 at *
   have inn := fun (K : Kont) (e : Env) (h : Hp) (n : Nat) => in30 D Y c hD hY hc n0 n1 wt R0 OW hR0 hOW L hL k T hT jj NV hNV M hM (j : Int) y hy hYy P hpo m3 hm3 hm3' (K := K) (e := e) (h := h) (n := n)
   have hmb : ∀ j, belL j (rows Md.l P) = true := fun j => mrB j P
   have s1 : decide (0 ≤ (m3 : Int) ∧ (m3 : Int) ≤ (P.length : Int)) = true := decide_eq_true (by omega)
   have s2 : decide ((m3 : Int) ≤ (P.length : Int)) = true := decide_eq_true (by omega)
   subst hcw
   simp (maxSteps := 400000) only [go_sem, c1, c2, c3, hz, hw, k37f, k44f, k45f, k46f, e1, hmn, s1, s2, simprocAttr]
   refine inn _ _ _ _ ?_ ?_ (fun e' g3 g4 g6 g8 g11 g15 g17 g19 g55 g56 g65 g66 g86 g87 => ?_)
   · simp (maxSteps := 400000) only [go_sem, hT, hNV, hM, hmb, hD, hY, hc, hR0, hOW, hL, AV.bel, belL, nblt, simprocAttr]
   · simp (maxSteps := 400000) only [go_sem, H8, hT, hNV, hM, hmb, krB, hD, hY, hc, hR0, hOW, hL, AV.bel, belL, nblt, simprocAttr]
   · simp (maxSteps := 400000) only [go_sem, H8, g3, g4, g6, g8, g11, g15, g17, g19, g55, g56, g65, g66, g86, g87, hw, hlt, hT, hNV, hM, hmb, krB, hD, hY, hc, hR0, hOW, hL, AV.bel, belL, nblt, simprocAttr]
 · have c1 : decide ((j : Int) < 3) = false := decide_eq_false (by omega)
   simp (maxSteps := 400000) only [go_sem, c1, simprocAttr]
   exact hK _ rfl rfl rfl rfl rfl rfl rfl rfl rfl rfl rfl
theorem gQ_dr {α : Type} {f : α → List AV} {z b c : Nat} {l : List α} {k : Blk} {h : Hp} {r : List Nat} (hc : c ≠ b) : (subM (noneL ((gQ f z l).bl b)) ((gQ f z l).bl b ++ r) && hasM ((c, k) :: ((gQ f z l).h b ++ h)) (noneL ((gQ f z l).bl b))) = true := by
 unfold gQ
 split
 · rfl
 · simp [Sh.bl, Sh.h, noneL, subM, hasM, inl_cons, hget_cons, hc]
theorem in34 (D Y : List AV) (w : Hs) (c : List AV) (hcw : c = w.a) (hwl : w.l.length ≤ 66) (hwt : tinyH w = true) (hD : ∀ j, belL j D = true) (hY : ∀ j, belL j Y = true) (hc : ∀ j, belL j c = true) (n0 n1 wt : Int) (R0 OW : AV) (hR0 : ∀ j, R0.bel j = true) (hOW : ∀ j, OW.bel j = true) (L : List AV) (hL : ∀ j, belL j L = true) (k : Int) (d : Dr) (hd : d.ok) (hDd : D = d.a) (y : Bm) (hy : y.okB = true) (hYy : Y = y.a) (hwt0 : 0 ≤ wt ∧ wt ≤ 65535) (T : List AV) (hT : ∀ j, belL j T = true) (hTl : T.length = 2) (hTi : ∀ j, j < 2 → ∃ NV ns, T[j]? = some NV ∧ IsN NV ns) {K : Kont} {e : Env} {h : Hp} {n : Nat}
 (he : EnvIn 7 e [(3, .i .u16 wt), (4, R0), (6, .p 0 0), (8, .p 2 0), (11, .p 3 0), (15, OW), (17, .p 6 0), (55, .agg L), (56, .i .i64 k), (65, .agg T), (66, .i .i64 0)]) (hh : HpIn 7 h (H8 D Y c n0 n1))
 (hK : ∀ e', eget e' 3 = some (.i .u16 wt) → eget e' 4 = some (R0) → eget e' 6 = some (.p 0 0) → eget e' 8 = some (.p 2 0) → eget e' 11 = some (.p 3 0) → eget e' 15 = some (OW) → eget e' 55 = some (.agg L) → eget e' 56 = some (.i .i64 k) → K (.exit 2) e' (H8 D Y c n0 n1) 7) :
 Ab.Loop Try.prog [57, 67, 88, 126, 134, 143, 171] 178 0 i8l34 K e h n := by
 refine Loop.countI (F := F8) hTL8 mo 2 (fun _ => True)
  (fun j => [(3, .i .u16 wt), (4, R0), (6, .p 0 0), (8, .p 2 0), (11, .p 3 0), (15, OW), (17, .p 6 0), (55, .agg L), (56, .i .i64 k), (65, .agg T), (66, .i .i64 (j : Int))])
  (fun _ => (H8 D Y c n0 n1)) 7 (by decide) trivial he hh (fun j hj _ => ?_)
 dsimp only [F8, TL8, H8]
 have hda := drA_a d
 have hok := Dr.ok_iff.2 hd
 have k17f : ∀ (h : Hp) n, k17 [.agg d.a] h n = some (true, { v := .i .i64 (roundS d), n }) := fun h n => by simp only [k17, hda, Option.bind_some, hok]
 rw [← hDd] at k17f
 generalize roundS d = rd at *
 have w1 : IntKind.i64.wrap wt = wt := wrapL (by omega) (by omega)
 by_cases hlt : j < 2
 · have c1 : decide ((j : Int) < 2) = true := decide_eq_true (by omega)
   have c2 : decide (0 ≤ (j : Int) ∧ (j : Int) < 2) = true := decide_eq_true (by omega)
   have hw : IntKind.i64.wrap ((j : Int) + 1) = ((j + 1 : Nat) : Int) := by rw [wrapL (by omega) (by omega)]; omega
   have c3 : decide (j * 1 + 1 ≤ T.length) = true := decide_eq_true (by omega)
   obtain ⟨NV, ns, hz, hN⟩ := hTi j hlt
   have hz' : T[j * 1]? = some NV := by rw [Nat.mul_one]; exact hz
   have hDl : D.length = 3 := by rw [hDd]; rfl
   have hDt : List.take 3 (List.drop 0 D) = D := by rw [List.drop_zero, List.take_of_length_le (by omega)]
   have hNV := hN.bel
   have hMi : ∀ ti : Int, ∀ i, i < 3 → ∃ a b : Int, List.take 2 (List.drop (i * 2) [AV.i .i64 n0, .i .i64 n1, .i .i64 (IntKind.i64.wrap (ti + wt)), .i .i64 rd, .i .i64 (IntKind.i64.wrap (ti + wt)), .i .i64 n1]) = [.i .i64 a, .i .i64 b] := fun ti i hi => by
    match i, hi with
    | 0, _ => exact ⟨_, _, rfl⟩
    | 1, _ => exact ⟨_, _, rfl⟩
    | 2, _ => exact ⟨_, _, rfl⟩
   have inn := fun (K : Kont) (e : Env) (h : Hp) (n : Nat) => in32 D Y w c hcw hwl hwt hD hY hc n0 n1 wt R0 OW hR0 hOW L hL k T hT (j : Int) y hy hYy NV ns hN [AV.i .i64 n0, .i .i64 n1, .i .i64 (IntKind.i64.wrap (w.ti + wt)), .i .i64 rd, .i .i64 (IntKind.i64.wrap (w.ti + wt)), .i .i64 n1] (fun _ => rfl) rfl (hMi w.ti) (K := K) (e := e) (h := h) (n := n)
   obtain ⟨ti, wss, wty, wnx, wl⟩ := w
   simp only [Hs.a] at hcw
   subst hcw
   dsimp only at inn
   simp (maxSteps := 400000) only [go_sem, c1, c2, c3, hz, hz', hw, hDl, hDt, k17f, w1, hNV, simprocAttr]
   refine inn _ _ _ _ ?_ ?_ (fun e' g3 g4 g6 g8 g11 g15 g17 g55 g56 g65 g66 => ?_)
   · simp (maxSteps := 400000) only [go_sem, hT, hNV, hD, hY, hc, hR0, hOW, hL, AV.bel, belL, nblt, simprocAttr]
   · simp (maxSteps := 400000) only [go_sem, H8, hT, hNV, krB, hD, hY, hc, hR0, hOW, hL, AV.bel, belL, nblt, simprocAttr]
   · simp (maxSteps := 400000) only [go_sem, H8, g3, g4, g6, g8, g11, g15, g17, g55, g56, g65, g66, hw, hlt, hT, hNV, krB, hD, hY, hc, hR0, hOW, hL, AV.bel, belL, nblt, simprocAttr]
 · have c1 : decide ((j : Int) < 2) = false := decide_eq_false (by omega)
   simp (maxSteps := 400000) only [go_sem, c1, simprocAttr]
   exact hK _ rfl rfl rfl rfl rfl rfl rfl rfl
theorem body8 (d : Dr) (b0 b1 : Bd) (n0 n1 wt : Int) (raw : List Int) (y : Bm) (hd : d.ok) (hb0 : b0.okB = true) (hb1 : b1.okB = true) (hwt0 : 0 ≤ wt ∧ wt ≤ 65535) (hy : y.okB = true) :
 FTL Try.prog 8 [.agg d.a, .agg (b0.a ++ b1.a), .agg [.i .i64 n0, .i .i64 n1], .i .u16 wt, .fz (rows int1 raw) raw.length, .agg y.a] [] 0 (.b true) [] 0 := by
 have hda := drA_a d
 have hok := Dr.ok_iff.2 hd
 have hk42 : ∀ (h : Hp) n, k42 [.agg d.a] h n = some (true, { v := .agg (hisS d).a, n }) := fun h n => by simp only [k42, hda, Option.bind_some, hok]
 have hk27 : ∀ (h : Hp) n, k27g [.agg d.a] h n = some (true, { v := (gQ I1 1 (stepsL d)).v n, n := n + 1, nw := (gQ I1 1 (stepsL d)).h n }) := fun h n => by simp only [k27g, hda, Option.bind_some, hok]
 have hsl : (stepsL d).length ≤ 40 := by rw [stepsL, mapN_len]; omega
 have hw0 : (hisS d).l.length ≤ 64 := (his_HB d _).len
 have ht0 : tinyH (hisS d) = true := his_tiny d _
 generalize hisS d = w at *
 generalize stepsL d = sl at *
 have hb1' : (bhS b0 w).l.length ≤ 65 := Nat.le_trans (bh_len _ _) (by omega)
 have hb2' : (bhS b1 (bhS b0 w)).l.length ≤ 66 := Nat.le_trans (bh_len _ _) (by omega)
 have ht1 := bh_tiny b0 ht0
 have ht2 := bh_tiny b1 ht1
 have hwa := hsA_a w
 have hwa1 := hsA_a (bhS b0 w)
 have e1 : ∀ (h : Hp) n, k43 [.agg b0.a, .agg w.a] h n = some (true, { v := .agg (bhS b0 w).a, n }) := fun h n => by
  have h3 : bd3 b0.a = some b0 := rfl
  have h1 : decide (w.l.length ≤ 1000000) = true := decide_eq_true (by omega)
  simp only [k43, h3, hwa, Option.bind_some, hb0, h1, Bool.and_self]
 generalize bhS b0 w = w1 at *
 have e2 : ∀ (h : Hp) n, k43 [.agg b1.a, .agg w1.a] h n = some (true, { v := .agg (bhS b1 w1).a, n }) := fun h n => by
  have h3 : bd3 b1.a = some b1 := rfl
  have h1 : decide (w1.l.length ≤ 1000000) = true := decide_eq_true (by omega)
  simp only [k43, h3, hwa1, Option.bind_some, hb1, h1, Bool.and_self]
 generalize bhS b1 w1 = w2 at *
 have hL3 : ∀ (L : List AV), L = w.a ++ w1.a ++ w2.a → ∀ k, k < 3 → ∃ x : Hs, List.take 5 (List.drop (k * 5) L) = x.a ∧ x.l.length ≤ 66 ∧ tinyH x = true := fun L hL k hk => by
  subst hL
  match k, hk with
  | 0, _ => exact ⟨w, rfl, by omega, ht0⟩
  | 1, _ => exact ⟨w1, rfl, by omega, ht1⟩
  | 2, _ => exact ⟨w2, rfl, hb2', ht2⟩
 have hsq := inI_t hd.sq
 have m0 : IntKind.i64.wrap d.sq = d.sq := wrapL (by omega) (by omega)
 have hD0 : ∀ j, belL j d.a = true := fun j => belL_mono0 _ (by simp only [Dr.bel])
 have hdd : d.a = [.i .u16 d.sq, .i .u16 d.tr, .fz (rows Ev.l d.ev) d.ev.length] := rfl
 obtain ⟨t0, s0, y0, x0, l0⟩ := w
 obtain ⟨ta, sa, ya, xa, la⟩ := w1
 obtain ⟨tb, sb, yb, xb, lb⟩ := w2
 obtain ⟨bw, ba, bn⟩ := b0
 obtain ⟨cw, ca, cn⟩ := b1
 obtain ⟨sq, tr, ev⟩ := d
 simp only [Dr.a, Bd.a, Hs.a, List.cons_append, List.nil_append] at hk42 hk27 e1 e2 hL3 hD0 ⊢
 dsimp only at hw0 hb1' hb2' hsq m0
 refine FTL.of_seam (cx := cxT TL8) Try.func8 i8_eq (by simp [i8]) ?_
 dsimp only [i8]
 refine Seam.part (F := F8) hTL8 mo ?_
 dsimp only [F8, TL8]
 simp (maxSteps := 400000) only [go_sem, simprocAttr]
 refine Seam.part (F := F8) hTL8 mo ?_
 dsimp only [F8, TL8]
 simp (maxSteps := 400000) only [go_sem, hk42, simprocAttr]
 refine Seam.part (F := F8) hTL8 mo ?_
 dsimp only [F8, TL8]
 simp (maxSteps := 400000) only [go_sem, e1, simprocAttr]
 refine Seam.part (F := F8) hTL8 mo ?_
 dsimp only [F8, TL8]
 have gm : decide (8 * (sl.length + 1) ≤ growMax) = true := decide_eq_true (by simp only [growMax]; omega)
 have zR : (rows I1 sl).length = sl.length * 1 := rows_len I1.len
 have pk := gIp sl
 simp (maxSteps := 400000) only [go_sem, hk27, m0, gm, zR, pk, simprocAttr]
 refine andB_i (gQ_dr (by decide)) ?_
 have hoe : rows I1 sl ++ [AV.i .i64 sq] = rows int1 (sl ++ [sq]) := by rw [rows_append]; rfl
 have hol : (sl ++ [sq]).length = sl.length + 1 := by simp
 have hob : ∀ j, belL j (rows int1 (sl ++ [sq])) = true := fun j => csB j _
 refine Seam.frz (F := F8) (b := 8) (x := .sg 8 0 (sl.length + 1)) (o := 0) (m := sl.length + 1) (k := { cells := rows I1 sl ++ [.i .i64 sq], gr := some 1 }) (cs := rows int1 (sl ++ [sq]))
  (e2 := [(3, .i .u16 wt), (4, .fz (rows int1 raw) raw.length), (6, .p 0 0), (7, .p 1 0), (8, .p 2 0), (11, .p 3 0), (13, .p 4 0), (14, .p 5 0), (15, .fz (rows int1 (sl ++ [sq])) (sl.length + 1))])
  (h2 := [(5, { cells := [.i .i64 ta, .i .i64 sa, .i .i64 ya, .i .i64 xa, .fz (rows Kp.l la) la.length] }), (4, { cells := [.i .i64 t0, .i .i64 s0, .i .i64 y0, .i .i64 x0, .fz (rows Kp.l l0) l0.length] }), (3, { cells := y.a }), (2, { cells := [.i .i64 n0, .i .i64 n1] }),
    (1, { cells := [.i .u8 bw, .i .u8 ba, .i .i64 bn, .i .u8 cw, .i .u8 ca, .i .i64 cn] }), (0, { cells := [.i .u16 sq, .i .u16 tr, .fz (rows Ev.l ev) ev.length] })]) ?_ rfl rfl (.inr rfl) (.inl hoe.symm)
  ⟨⟨_, rfl, FzV.refl⟩, ⟨_, rfl, FzV.refl⟩, ⟨_, rfl, FzV.refl⟩, ⟨_, rfl, FzV.refl⟩, ⟨_, rfl, FzV.refl⟩, ⟨_, rfl, FzV.refl⟩, ⟨_, rfl, FzV.refl⟩, ⟨_, rfl, FzV.refl⟩, ⟨_, rfl, FzV.hit⟩, trivial⟩
  ⟨⟨by decide, _, rfl, rfl, rfl, rfl, FzVs.refl⟩, ⟨by decide, _, rfl, rfl, rfl, rfl, FzVs.refl⟩, ⟨by decide, _, rfl, rfl, rfl, rfl, FzVs.refl⟩, ⟨by decide, _, rfl, rfl, rfl, rfl, FzVs.refl⟩, ⟨by decide, _, rfl, rfl, rfl, rfl, FzVs.refl⟩, ⟨by decide, _, rfl, rfl, rfl, rfl, FzVs.refl⟩, trivial⟩
 clear hk27 gm zR pk hoe hk42 e1
 have hON : IsN (.fz (rows int1 (sl ++ [sq])) (sl.length + 1)) (sl ++ [sq]) := ⟨_, _, rfl, by rw [cellsAt, List.drop_zero, ← hol, ← rows_len int1_len, List.take_length], hol.symm, hob, by omega⟩
 have hOW := hON.bel
 have hOX := hob
 clear hob
 generalize rows int1 (sl ++ [sq]) = OX at *
 clear hol
 generalize sl.length + 1 = om at *
 refine Seam.run (F := F8) hTL8 mo ?_
 dsimp only [F8, TL8]
 simp (maxSteps := 400000) only [go_sem, e2, simprocAttr]
 have hL3 := hL3 _ rfl
 have hLb : ∀ j, belL j [AV.i .i64 t0, .i .i64 s0, .i .i64 y0, .i .i64 x0, .fz (rows Kp.l l0) l0.length, .i .i64 ta, .i .i64 sa, .i .i64 ya, .i .i64 xa, .fz (rows Kp.l la) la.length, .i .i64 tb, .i .i64 sb, .i .i64 yb, .i .i64 xb, .fz (rows Kp.l lb) lb.length] = true := fun j => by simp only [belL, AV.bel, krB, Bool.and_self]
 have hLl : [AV.i .i64 t0, .i .i64 s0, .i .i64 y0, .i .i64 x0, .fz (rows Kp.l l0) l0.length, .i .i64 ta, .i .i64 sa, .i .i64 ya, .i .i64 xa, .fz (rows Kp.l la) la.length, .i .i64 tb, .i .i64 sb, .i .i64 yb, .i .i64 xb, .fz (rows Kp.l lb) lb.length].length = 15 := rfl
 generalize [AV.i .i64 t0, .i .i64 s0, .i .i64 y0, .i .i64 x0, .fz (rows Kp.l l0) l0.length, .i .i64 ta, .i .i64 sa, .i .i64 ya, .i .i64 xa, .fz (rows Kp.l la) la.length, .i .i64 tb, .i .i64 sb, .i .i64 yb, .i .i64 xb, .fz (rows Kp.l lb) lb.length] = L at *
 have hRb : ∀ j, belL j (rows int1 raw) = true := fun j => csB j raw
 have hYb : ∀ j, belL j y.a = true := fun j => rfl
 refine Loop.countI (F := F8) hTL8 mo 3 (fun _ => True)
  (fun k => [(3, .i .u16 wt), (4, .fz (rows int1 raw) raw.length), (6, .p 0 0), (8, .p 2 0), (11, .p 3 0), (15, .fz OX om), (55, .agg L), (56, .i .i64 (k : Int))])
  (fun _ => [(0, { cells := [.i .u16 sq, .i .u16 tr, .fz (rows Ev.l ev) ev.length] }), (2, { cells := [.i .i64 n0, .i .i64 n1] }), (3, { cells := y.a })]) 6 (by decide) trivial ?_ ?_ (fun k hk _ => ?_)
 · simp (maxSteps := 400000) only [go_sem, hLb, hRb, hOX, AV.bel, belL, nblt, simprocAttr]
 · simp (maxSteps := 400000) only [go_sem, erB, hYb, AV.bel, belL, nblt, simprocAttr]
 dsimp only [F8, TL8]
 clear e2
 by_cases hlt : k < 3
 · have c1 : decide ((k : Int) < 3) = true := decide_eq_true (by omega)
   have c2 : decide (0 ≤ (k : Int) ∧ (k : Int) < 3) = true := decide_eq_true (by omega)
   have hw : IntKind.i64.wrap ((k : Int) + 1) = ((k + 1 : Nat) : Int) := by rw [wrapL (by omega) (by omega)]; omega
   have c3 : decide (k * 5 + 5 ≤ L.length) = true := decide_eq_true (by omega)
   obtain ⟨w, hr, hwl, hwt⟩ := hL3 k hlt
   have hmn : min (raw.length : Int) 66 = ((min raw.length 66 : Nat) : Int) := by omega
   have hm3 : min raw.length 66 ≤ raw.length := Nat.min_le_left _ _
   have hm4 : min raw.length 66 ≤ 66 := Nat.min_le_right _ _
   generalize min raw.length 66 = m3 at *
   have s1 : decide (0 ≤ (m3 : Int) ∧ (m3 : Int) ≤ (raw.length : Int)) = true := decide_eq_true (by omega)
   have s2 : decide ((m3 : Int) ≤ (raw.length : Int)) = true := decide_eq_true (by omega)
   have hTi : ∀ j, j < 2 → ∃ NV ns, [AV.fz (rows int1 raw) m3, .fz OX om][j]? = some NV ∧ IsN NV ns := fun j hj => by
    match j, hj with
    | 0, _ => exact ⟨_, raw.take m3, rfl, _, _, rfl, by
     rw [cellsAt, List.drop_zero, ← rows_take int1_len, Nat.mul_one], by rw [List.length_take]; omega, hRb, by omega⟩
    | 1, _ => exact ⟨_, _, rfl, hON⟩
   have inn := fun (K : Kont) (e : Env) (h : Hp) (n : Nat) => in34 [.i .u16 sq, .i .u16 tr, .fz (rows Ev.l ev) ev.length] y.a w _ rfl hwl hwt hD0 hYb (fun j => belL_mono0 _ (Hs.bel w)) n0 n1 wt (.fz (rows int1 raw) raw.length) (.fz OX om) hRb hOW L hLb (k : Int) ⟨sq, tr, ev⟩ hd rfl y hy rfl hwt0 [.fz (rows int1 raw) m3, .fz OX om] (fun j => by simp only [belL, AV.bel, hRb, hOX, Bool.and_self]) rfl hTi (K := K) (e := e) (h := h) (n := n)
   obtain ⟨ti, wss, wty, wnx, wl⟩ := w
   simp only [Hs.a] at hr inn
   simp (maxSteps := 400000) only [go_sem, c1, c2, c3, hr, hmn, s1, s2, simprocAttr]
   refine inn _ _ _ _ ?_ ?_ (fun e' g3 g4 g6 g8 g11 g15 g55 g56 => ?_)
   · simp (maxSteps := 400000) only [go_sem, hLb, hRb, hOX, AV.bel, belL, nblt, simprocAttr]
   · simp (maxSteps := 400000) only [go_sem, H8, erB, hYb, krB, AV.bel, belL, nblt, simprocAttr]
   · simp (maxSteps := 400000) only [go_sem, H8, g3, g4, g6, g8, g11, g15, g55, g56, hw, hlt, hLb, hRb, hOX, erB, hYb, AV.bel, belL, nblt, simprocAttr]
 · have c1 : decide ((k : Int) < 3) = false := decide_eq_false (by omega)
   simp (maxSteps := 400000) only [go_sem, c1, k16, simprocAttr]
   exact Go.Ab.Ends.pureE rfl rfl
end Go.Proofs.Res
