/- Chapter 41: LayersWaits, the walk. -/
import Derived.Test.YtkpiibllomjeaaaLysP3
import Derived.Test.YtkpiibllomjeaaaLysI5
import Derived.Test.YtkpiibllomjeaaaLysKb
namespace Go.Proofs.Lys
open Go.Ab
set_option maxRecDepth 100000
set_option maxHeartbeats 8000000
set_option linter.unusedSimpArgs false
set_option linter.unusedVariables false
noncomputable def T5 : List (Nat × Ct) := [(8, k8), (10, k10), (14, k14), (19, k19), (20, k20), (22, k22), (24, k24), (26, k26), (27, k27), (28, k28)]
theorem hT5 : Sound Try.prog (cxT T5) := Sound.cons s8 (Sound.cons s10 (Sound.cons s14 (Sound.cons s19 (Sound.cons s20 (Sound.cons s22 (Sound.cons s24 (Sound.cons s26 (Sound.cons s27 (Sound.cons s28 Sound.nil)))))))))
noncomputable abbrev F5 : Fx := ⟨Try.prog, cxT T5, [33, 39, 90, 98, 121, 147], 190, 0⟩
structure PlQ (p : Pl) (n : Int) : Prop where
 v : PlV p
 nw : p.s.nw = n
theorem w5 (d : Dr) (ac : List Ac) (o : Int) (hd : d.ok = true) (hal : ac.length ≤ 9223372036854775807) (hao : ∀ a ∈ ac, a.ok = true) (ho : inI 0 255 o = true) :
 FTL Try.prog 5 [.agg d.l, .fz (rows Ac.l ac) ac.length, .i .u8 o] [] 0 (.b true) [] 0 := by
 have hdr := dr21_l d
 have hk8 : ∀ (h : Hp) n, k8 [.agg d.l] h n = some (true, { v := .agg (switchS d).a, n }) := fun h n => by simp only [k8, hdr, Option.bind_some, hd]
 have hV := switch_v hd
 generalize switchS d = P at *
 have hDl : d.l.length = 21 := rfl
 have hDt : List.take 21 d.l = d.l := List.take_of_length_le (by rw [hDl]; omega)
 generalize d.l = DL at *
 have ho := inI_t ho
 have qa1 := Pl.len
 have qa2 := Pl.t24
 have qa3 := Pl.one
 have pt2 := Pl.t18
 have so := Sw.one
 have sl := Sw.len
 have stt := Sw.t18
 have e3 : ∀ p : Pl, p.a[3]? = some (.i .i64 p.s.nw) := fun _ => rfl
 have e6 : ∀ p : Pl, p.a[6]? = some (.i .i64 p.s.ai) := fun _ => rfl
 have hnw := hV.gd.nw
 have hai := hV.gd.ai
 rw [hV.l] at hnw
 simp only [List.length_cons, List.length_nil] at hnw
 refine FTL.of_iw hT5 mo Try.func5 i5_eq (by simp [i5]) (iw_of_jw ?_)
 dsimp only [i5, T5]
 cases c0 : decide (P.s.nw < 0)
 rotate_left
 · simp (maxSteps := 400000) only [go_sem, k19, hk8, hDl, hDt, qa1, qa2, qa3, e3, c0, List.drop_zero, simprocAttr]
   exact Ends.pureE rfl rfl
 have hn0 := of_decide_eq_false c0
 have v1 : IntKind.i64.wrap (P.s.nw + 1) = P.s.nw + 1 := wrapL (by omega) (by omega)
 have v2 : o.tmod 2 = o % 2 := Int.tmod_eq_emod_of_nonneg (by omega)
 have v3 : IntKind.i64.wrap (o % 2) = o % 2 := wrapL (by omega) (by omega)
 have v4 : IntKind.i64.wrap (P.s.nw + 1 + o % 2) = P.s.nw + 1 + o % 2 := wrapL (by omega) (by omega)
 have v5 : (P.s.nw + 1 + o % 2).tmod 3 = (P.s.nw + 1 + o % 2) % 3 := Int.tmod_eq_emod_of_nonneg (by omega)
 have v6 : IntKind.i64.wrap ((P.s.nw + 1 + o % 2) % 3) = (P.s.nw + 1 + o % 2) % 3 := wrapL (by omega) (by omega)
 have hkr : 0 ≤ (P.s.nw + 1 + o % 2) % 3 ∧ (P.s.nw + 1 + o % 2) % 3 ≤ 2 ∧ (P.s.nw + 1 + o % 2) % 3 ≠ P.s.nw := by omega
 generalize hK : (P.s.nw + 1 + o % 2) % 3 = k at *
 have g14 : ∀ (la : Int) (h : Hp) n, k14 [.agg P.s.a, .i .i64 la, .i .i64 P.s.ai] h n = some (true, { v := .tup [.agg (wantS P.s la P.s.ai).1.a, .i .i64 (wantS P.s la P.s.ai).2], n }) := fun la h n => by
  have : decide (P.s.l.length ≤ 9223372036854775807) = true := decide_eq_true (by rw [hV.l]; simp)
  simp only [k14, swA_a, Option.bind_some, this, swV]
 have wn : wantS P.s P.s.nw P.s.ai = (P.s.w P.s.nw, 0) := by
  rw [(want_gd (la := P.s.nw) (ai := P.s.ai) hV.gd (by rw [hV.l]; simp only [List.length_cons, List.length_nil]; omega) hai).1, c0]; rfl
 have wk : wantS P.s k P.s.ai = (P.s.w k, 0) := by
  rw [(want_gd (la := k) (ai := P.s.ai) hV.gd (by rw [hV.l]; simp only [List.length_cons, List.length_nil]; omega) hai).1, decide_eq_false (by omega : ¬ k < 0)]; rfl
 have hgk := gd_w hV.gd hV.l (a := k) (by omega)
 have nk : needsS (P.s.w k) = (k, 0) := by
  unfold needsS
  have e1 : decide ((P.s.w k).wa < 0) = false := decide_eq_false (show ¬ k < 0 by omega)
  have e2 : ((P.s.w k).wa == (P.s.w k).nw) = false := by show (k == P.s.nw) = false; simp; omega
  rw [gd_iff.2 hgk, e1, e2]; rfl
 have g10 : ∀ (u : Sw) (h : Hp) n, u.l = [10, 20, 30] → k10 [.agg u.a] h n = some (true, { v := .tup [.i .i64 (needsS u).1, .i .i64 (needsS u).2], n }) := fun u h n hu => by
  have : decide (u.l.length ≤ 9223372036854775807) = true := decide_eq_true (by rw [hu]; simp)
  simp only [k10, swA_a, Option.bind_some, this]
 have g10k := fun h n => g10 (P.s.w k) h n hV.l
 have hmn : min (ac.length : Int) 30 = ((min ac.length 30 : Nat) : Int) := by omega
 have hle : min ac.length 30 ≤ ac.length := Nat.min_le_left _ _
 generalize min ac.length 30 = M at *
 have cM : decide (0 ≤ (M : Int) ∧ (M : Int) ≤ (ac.length : Int)) = true := decide_eq_true (by omega)
 have kk0 : (k != k) = false := by simp
 simp (maxSteps := 400000) only [go_sem, k19, hk8, hDl, hDt, qa1, qa2, qa3, e3, e6, c0, v1, v2, v3, v4, v5, v6, hK, g14, wn, wk, pt2, so, sl, stt, g10k, nk, hmn, minI, cM, kk0, Int.toNat_natCast, List.drop_zero, simprocAttr]
 generalize hNW : P.s.nw = n at *
 have hn3 : 0 ≤ n ∧ n ≤ 2 := by omega
 have acb : ∀ j, belL j (rows Ac.l ac) = true := fun j => acB j ac
 have plb : ∀ (p : Pl) j, belL j p.a = true := fun p j => Pl.bel j p
 have swb : ∀ (s : Sw) j, belL j s.a = true := fun s j => Sw.bel j s
 have ml : ∀ q : Md, q.l.length = 9 := fun q => rfl
 have mt : ∀ q : Md, List.take 9 q.l = q.l := fun q => List.take_of_length_le (Nat.le_refl 9)
 have mo1 : ∀ q : Md, oneAll q.l = true := fun q => rfl
 have me : ∀ q : Md, List.drop 9 q.l = [] := fun _ => rfl
 have pe := Pl.d24
 have sd : ∀ s : Sw, List.drop 18 s.a = [] := fun _ => rfl
 have he : ∀ i : Int, 0 ≤ i ∧ i ≤ 2 → (rows int1 [10, 20, 30])[i.toNat * 1]? = some (.i .i64 (10 * i + 10)) := fun i hi => by
  rcases (show i = 0 ∨ i = 1 ∨ i = 2 by omega) with rfl | rfl | rfl <;> rfl
 refine Loop.by (F := F5) hT5 mo (X := Pl × Sw × Nat) (fun y => (PlQ y.1 n ∧ Wt y.2.1 n) ∧ y.2.2 ≤ M) (fun y => M - y.2.2)
  (fun y => [(7, .p 1 0), (8, .i .i64 k), (9, .p 2 0), (11, .p 3 0), (95, .fz (rows Ac.l ac) M), (96, .i .i64 (M : Int)), (97, .i .i64 (y.2.2 : Int))])
  (fun y => [(3, { cells := (y.2.1.w k).a }), (2, { cells := (y.2.1.w n).a }), (1, { cells := y.1.a })]) 4 (P, P.s, 0) (by decide) ⟨⟨⟨hV, hNW⟩, ⟨hV.gd, hV.l, hNW⟩⟩, Nat.zero_le _⟩ ?_ ?_ (fun y hy => ?_)
 · simp (maxSteps := 400000) only [go_sem, acb, AV.bel, belL, nblt, simprocAttr]
 · simp (maxSteps := 400000) only [go_sem, swb, plb, AV.bel, belL, nblt, simprocAttr]
 obtain ⟨p, u, j⟩ := y
 obtain ⟨⟨⟨hp, hpn⟩, hu⟩, hjM⟩ := hy
 dsimp only [F5, T5] at hp hpn hu hjM ⊢
 by_cases hlt : j < M
 rotate_left
 · have c1 : decide ((j : Int) < (M : Int)) = false := decide_eq_false (by omega)
   obtain ⟨wc, v, q, we, wl, wnw, wneed, wsq⟩ := waits_end hu hn3 ⟨hkr.1, hkr.2.1⟩ hkr.2.2
   have h27 : ∀ (h : Hp) n, k27 [.i .i64 (10 * k + 10), .i .i64 9, .i .i64 9, .agg [.b false, .b true, .b false, .b false, .i .i64 5, .i .i64 5, .i .i64 0, .i .i64 0]] h n = some (true, { v := .agg (keyM k).l, n }) := fun h n => rfl
   have h28 : ∀ (h : Hp) n, k28 [.agg (u.w k).a, .agg (keyM k).l] h n = some (true, { v := .tup [.agg v.a, .agg q.l, .b true], n }) := fun h n => by
    simp only [k28, swA_a, md9_l, Option.bind_some, wc, we, pdV]
   have h10 := fun h n => g10 v h n wl
   rw [wneed] at h10
   have v3' : v.a[3]? = some (.i .i64 v.nw) := rfl
   rw [wnw] at v3'
   have q2' : q.l[2]? = some (.i .i64 q.sq) := rfl
   rw [wsq] at q2'
   have u14 : (u.w k).a[14]? = some (.i .i64 u.ss) := rfl
   have hss := hu.gd.ss
   have x1 : IntKind.i64.wrap (u.ss + 1) = u.ss + 1 := wrapL (by omega) (by omega)
   have x2 : (u.ss + 1).tmod 65536 = (u.ss + 1) % 65536 := Int.tmod_eq_emod_of_nonneg (by omega)
   have x3 : IntKind.i64.wrap ((u.ss + 1) % 65536) = (u.ss + 1) % 65536 := wrapL (by omega) (by omega)
   have ck : decide (0 ≤ k ∧ k < 3) = true := decide_eq_true (by omega)
   have hek := he k ⟨hkr.1, hkr.2.1⟩
   simp (maxSteps := 400000) only [go_sem, c1, k26, ck, hek, h27, h28, h10, v3', q2', u14, x1, x2, x3, so, sl, stt, ml, mt, mo1, List.drop_zero, beq_self_eq_true, simprocAttr]
   exact Ends.pureE rfl rfl
 have c1 : decide ((j : Int) < (M : Int)) = true := decide_eq_true (by omega)
 have c3 : decide (0 ≤ (j : Int) ∧ (j : Int) < (M : Int)) = true := decide_eq_true (by omega)
 have hw : IntKind.i64.wrap ((j : Int) + 1) = ((j + 1 : Nat) : Int) := by rw [wrapL (by omega) (by omega)]; omega
 obtain ⟨a, ha⟩ : ∃ a, ac[j]? = some a := ⟨_, List.getElem?_eq_getElem (by omega)⟩
 have rx : List.take 4 (List.drop (j * 4) (rows Ac.l ac)) = a.l := rows_at Ac.len ha
 have al : a.l.length = 4 := rfl
 have at4 : List.take 4 a.l = a.l := List.take_of_length_le (Nat.le_refl 4)
 have ao1 : oneAll a.l = true := rfl
 have haO := hao a (List.mem_of_getElem? ha)
 have hx4 := ac4_l a
 have hnx := hp.next a
 have hk20 : ∀ (h : Hp) n, k20 [.agg p.a, .agg a.l] h n = some (true, { v := .tup [.agg (nextS p a).1.a, .agg (nextS p a).2.1.l, .b (nextS p a).2.2], n }) := fun h n => by
  simp only [k20, plA_a, hx4, Option.bind_some, hp.i.ok, haO, Bool.and_self, nextV]
 generalize nextS p a = N at *
 obtain ⟨p1, m, is⟩ := N
 dsimp only at hnx hk20
 obtain ⟨hp1, hps, hpk⟩ := hnx
 have hsn : p1.s.nw = n := by rw [hps]; exact hpn
 have hgo : ∀ S : Sw, Wt S n → (((PlQ p1 n ∧ Wt S n) ∧ j + 1 ≤ M) ∧ M - (j + 1) < M - j) := fun S hS => ⟨⟨⟨⟨hp1, hsn⟩, hS⟩, by omega⟩, by omega⟩
 cases is
 · simp (maxSteps := 400000) only [go_sem, sd, c1, c3, hw, rx, al, at4, ao1, hk20, pe, qa1, qa2, qa3, so, sl, stt, ml, mt, mo1, me, e3, hsn, List.drop_zero, List.take_zero, List.nil_append, List.append_nil, simprocAttr]
   refine ⟨(p1, u, j + 1), hgo u hu, ?_, ?_⟩
   · simp (maxSteps := 400000) only [go_sem, acb, AV.bel, belL, nblt, simprocAttr]
   · simp (maxSteps := 400000) only [go_sem, swb, plb, AV.bel, belL, nblt, simprocAttr]
 obtain ⟨ss, hss, hv⟩ := hpk rfl
 have hm4 : m.l[4]? = some (.i .i64 m.ss) := rfl
 have cn : decide (0 ≤ n ∧ n < 3) = true := decide_eq_true (by omega)
 have hen := he n hn3
 cases hne : (m.ss != 10 * n + 10)
 rotate_left
 · simp (maxSteps := 400000) only [go_sem, sd, c1, c3, hw, rx, al, at4, ao1, hk20, pe, qa1, qa2, qa3, so, sl, stt, ml, mt, mo1, me, e3, hsn, List.drop_zero, List.take_zero, List.nil_append, List.append_nil, hm4, cn, k26, hen, hne, simprocAttr]
   refine ⟨(p1, u, j + 1), hgo u hu, ?_, ?_⟩
   · simp (maxSteps := 400000) only [go_sem, acb, AV.bel, belL, nblt, simprocAttr]
   · simp (maxSteps := 400000) only [go_sem, swb, plb, AV.bel, belL, nblt, simprocAttr]
 have hme : m.ss = 10 * n + 10 := by simpa using hne
 obtain rfl : ss = 10 * n + 10 := by rw [← hv.2.1]; exact hme
 obtain ⟨v, l, hv1, hol, e1, e2⟩ := waits_step hu hn3 ⟨hkr.1, hkr.2.1⟩ hkr.2.2 hv
 have hok := vpk_ok hv
 have hpc : ∀ S : Sw, S.l = [10, 20, 30] → pushC S m = true := fun S hS => pushC_of (by rw [hS]; decide) hok
 have h22n : ∀ (h : Hp) n', k22 [.agg (u.w n).a, .agg m.l] h n' = some (true, { v := .tup [.agg (v.w n).a, .fz (rows Md.l l) l.length, .i .i64 0], n := n' }) := fun h n' => by
  simp only [k22, swA_a, md9_l, Option.bind_some, hpc (u.w n) hu.l, e1, pushV]
 have h22k : ∀ (h : Hp) n', k22 [.agg (u.w k).a, .agg m.l] h n' = some (true, { v := .tup [.agg (v.w k).a, .fz (rows Md.l l) l.length, .i .i64 0], n := n' }) := fun h n' => by
  simp only [k22, swA_a, md9_l, Option.bind_some, hpc (u.w k) hu.l, e2, pushV]
 have h24 : ∀ (h : Hp) n', k24 [.fz (rows Md.l l) l.length, .fz (rows Md.l l) l.length] h n' = some (true, { v := .b true, n := n' }) := fun h n' => by rw [k24_a, hol]
 simp (maxSteps := 400000) only [go_sem, sd, c1, c3, hw, rx, al, at4, ao1, hk20, pe, qa1, qa2, qa3, so, sl, stt, ml, mt, mo1, me, e3, hsn, List.drop_zero, List.take_zero, List.nil_append, List.append_nil, hm4, cn, k26, hen, hne, h22n, h22k, h24, simprocAttr]
 refine ⟨(p1, v, j + 1), hgo v hv1, ?_, ?_⟩
 · simp (maxSteps := 400000) only [go_sem, acb, AV.bel, belL, nblt, simprocAttr]
 · simp (maxSteps := 400000) only [go_sem, swb, plb, AV.bel, belL, nblt, simprocAttr]
end Go.Proofs.Lys
