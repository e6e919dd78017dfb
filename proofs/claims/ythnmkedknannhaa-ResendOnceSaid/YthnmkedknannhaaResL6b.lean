/- The walk of ResendOnce. -/
import Derived.Test.YthnmkedknannhaaResL6
namespace Go.Proofs.Res
open Go.Ab
set_option maxRecDepth 100000
set_option maxHeartbeats 8000000
set_option linter.unusedSimpArgs false
set_option linter.unusedVariables false
def TL6 : List (Nat × Ct) := [(16, k16), (17, k17), (27, k27), (13, k13), (28, k28), (11, k11), (30, k30), (18, k18), (20, k20)]
theorem hTL6 : Sound Try.prog (cxT TL6) := Sound.cons s16 <| Sound.cons s17 <| Sound.cons s27 <| Sound.cons s13 <| Sound.cons s28 <| Sound.cons s11 <| Sound.cons s30 <| Sound.cons s18 <| Sound.cons s20 Sound.nil
noncomputable abbrev F6 : Fx := ⟨Try.prog, cxT TL6, [25, 32, 54, 63, 69, 80, 91, 94, 112, 151, 155, 184, 196, 212], 215, 0⟩
theorem seq_rng {d : Dr} (hd : d.ok) (k : Nat) : 0 ≤ seqN d.ev d.sq k ∧ seqN d.ev d.sq k ≤ 65535 := by
 have h1 := atN_rng hd.ev (inI_t hd.sq) k
 have h2 := Ev.rng (evN_ok hd.ev k)
 unfold seqN
 rw [Int.tmod_eq_emod_of_nonneg (by omega)]; omega
theorem w6 (d : Dr) (hd : d.ok) : FTL Try.prog 6 [.agg d.a] [] 0 (.b true) [] 0 := by
 have hda := drA_a d
 have hok := Dr.ok_iff.2 hd
 have hev := hd.ev
 have hsr := seq_rng hd
 have hrr := roundS_rng hd
 have hsl : (stepsL d).length = min d.ev.length 40 := by rw [stepsL, mapN_len]
 have hsg : ∀ k, k < (stepsL d).length → (stepsL d)[k]? = some (seqN d.ev d.sq k) := fun k hk => by rw [hsl] at hk; exact mapN_get hk
 have hst : ∀ k, st6 d (k + 1) = bif ((evN d.ev k).wh.tmod 3 != 0) then saw6 (st6 d k) ((st6 d k).w.ti + (evN d.ev k).wa.tmod 700) (seqN d.ev d.sq k) else ask6 (st6 d k) ((st6 d k).w.ti + (evN d.ev k).wa.tmod 700) (roundS d) := fun _ => rfl
 have hs0 : st6 d 0 = ⟨zW, fun _ => 0, fun _ => 0, fun _ => false⟩ := rfl
 generalize hso : stepsL d = sl at *
 generalize hro : roundS d = rd at *
 have hk17 : ∀ (h : Hp) n, k17 [.agg d.a] h n = some (true, { v := .i .i64 rd, n }) := fun h n => by simp only [k17, hda, Option.bind_some, hok, hro]
 have hk27 : ∀ (h : Hp) n, k27 [.agg d.a] h n = some (true, { v := .fz (rows I1 sl) sl.length, n }) := fun h n => by simp only [k27, hda, Option.bind_some, hok, hso]
 generalize seqN d.ev d.sq = sqn at *
 generalize st6 d = st at *
 obtain ⟨sq0, tr, ev⟩ := d
 dsimp only at hev hsl hst
 simp only [Dr.a] at hk17 hk27 ⊢
 have hle : sl.length ≤ ev.length := by omega
 have hs40 : sl.length ≤ 40 := by omega
 have erb : ∀ j, belL j (rows Ev.l ev) = true := fun j => belL_mono0 _ (rows_bel Ev.bel)
 refine FTL.of_seam (cx := cxT TL6) Try.func6 i6_eq (by simp [i6]) ?_
 dsimp only [i6]
 refine Seam.part (F := F6) hTL6 mo ?_
 dsimp only [F6, TL6]
 simp (maxSteps := 400000) only [go_sem, simprocAttr]
 refine Seam.part (F := F6) hTL6 mo ?_
 dsimp only [F6, TL6]
 simp (maxSteps := 400000) only [go_sem, k16, simprocAttr]
 refine Seam.part (F := F6) hTL6 mo ?_
 dsimp only [F6, TL6]
 simp (maxSteps := 400000) only [go_sem, simprocAttr]
 refine Seam.part (F := F6) hTL6 mo ?_
 dsimp only [F6, TL6]
 simp (maxSteps := 400000) only [go_sem, simprocAttr]
 refine Seam.part (F := F6) hTL6 mo ?_
 dsimp only [F6, TL6]
 simp (maxSteps := 400000) only [go_sem, simprocAttr]
 refine Seam.part (F := F6) hTL6 mo ?_
 dsimp only [F6, TL6]
 simp (maxSteps := 400000) only [go_sem, hk17, simprocAttr]
 refine Seam.wk (e2 := [(1, .p 0 0), (3, .p 1 0), (4, .p 2 0), (5, .p 3 0), (6, .p 4 0), (7, .i .i64 rd)])
  (h2 := [(4, { cells := tC (fun _ => false) }), (3, { cells := tT (fun _ => 0) }), (2, { cells := tT (fun _ => 0) }), (1, { cells := zW.a }), (0, { cells := [.i .u16 sq0, .i .u16 tr, .fz (rows Ev.l ev) ev.length] })]) ?_ ?_ ?_
 rotate_left
 · exact ⟨⟨_, rfl, Go.Ab.Wka.refl _⟩, ⟨_, rfl, Go.Ab.Wka.refl _⟩, ⟨_, rfl, Go.Ab.Wka.refl _⟩, ⟨_, rfl, Go.Ab.Wka.refl _⟩, ⟨_, rfl, Go.Ab.Wka.refl _⟩, ⟨_, rfl, Go.Ab.Wka.refl _⟩, trivial⟩
 · rw [← tT_z, ← tC_z]
   exact ⟨⟨_, rfl, rfl, rfl, rfl, Go.Ab.WkaL.refl _⟩, ⟨_, rfl, rfl, rfl, rfl, Go.Ab.WkaL.refl _⟩, ⟨_, rfl, rfl, rfl, rfl, Go.Ab.WkaL.refl _⟩, ⟨_, rfl, rfl, rfl, rfl, ⟨Go.Ab.Wka.refl _, Go.Ab.Wka.refl _, Go.Ab.Wka.refl _, Go.Ab.Wka.ns, trivial⟩⟩, ⟨_, rfl, rfl, rfl, rfl, Go.Ab.WkaL.refl _⟩, trivial⟩
 refine Seam.run (F := F6) hTL6 mo ?_
 dsimp only [F6, TL6]
 simp (maxSteps := 400000) only [go_sem, hk27, simprocAttr]
 clear hk27 hk17 hda
 have hwb : ∀ j (w : Ws), belL j w.a = true := fun j w => belL_mono0 _ w.bel
 refine Loop.countI (F := F6) hTL6 mo sl.length (fun k => ok6 (st k) k)
  (fun k => [(1, .p 0 0), (3, .p 1 0), (4, .p 2 0), (5, .p 3 0), (6, .p 4 0), (7, .i .i64 rd), (29, .fz (rows I1 sl) sl.length), (30, .i .i64 (sl.length : Int)), (31, .i .i64 (k : Int))])
  (fun k => [(4, { cells := tC (st k).C }), (3, { cells := tT (st k).A }), (2, { cells := tT (st k).T }), (1, { cells := (st k).w.a }), (0, { cells := [.i .u16 sq0, .i .u16 tr, .fz (rows Ev.l ev) ev.length] })]) 5 (by decide) ?_ ?_ ?_ (fun k hk ho => ?_)
 · rw [hs0]
   exact ⟨⟨⟨by decide, by decide⟩, ⟨by decide, by decide⟩, by decide, .inr ⟨rfl, rfl⟩, fun x hx => (by cases hx), List.Pairwise.nil⟩, fun x hx => (by cases hx), by decide⟩
 · simp (maxSteps := 400000) only [go_sem, AV.bel, belL, nblt, irB, simprocAttr]
 · rw [hs0]
   simp (maxSteps := 400000) only [go_sem, AV.bel, belL, nblt, hwb, tT_bel, tC_bel, erb, simprocAttr]
 dsimp only [F6, TL6]
 by_cases hlt : k < sl.length
 rotate_left
 · have c1 : decide ((k : Int) < (sl.length : Int)) = false := decide_eq_false (by omega)
   obtain rfl : k = sl.length := by omega
   simp (maxSteps := 400000) only [go_sem, c1, simprocAttr]
   exact Ends.pureE rfl rfl
 have c1 : decide ((k : Int) < (sl.length : Int)) = true := decide_eq_true (by omega)
 have c2 : decide (0 ≤ (k : Int) ∧ (k : Int) < (sl.length : Int)) = true := decide_eq_true (by omega)
 have c3 : decide (0 ≤ (k : Int) ∧ (k : Int) < (ev.length : Int)) = true := decide_eq_true (by omega)
 have hw : IntKind.i64.wrap ((k : Int) + 1) = ((k + 1 : Nat) : Int) := by rw [wrapL (by omega) (by omega)]; omega
 obtain ⟨x, hx⟩ : ∃ x, ev[k]? = some x := ⟨_, List.getElem?_eq_getElem (by omega)⟩
 have hr0 : (rows Ev.l ev)[k * 3]? = some (.i .u8 x.wh) := by
  have := rows_get (f := Ev.l) (z := 3) (j := 0) (v := .i .u8 x.wh) Ev.len hx rfl
  simpa using this
 have hr1 : (rows Ev.l ev)[k * 3 + 1]? = some (.i .u16 x.wa) := rows_get (f := Ev.l) (z := 3) (j := 1) (v := .i .u16 x.wa) Ev.len hx rfl
 have hr2 : (rows I1 sl)[k * 1]? = some (.i .i64 (sqn k)) := rows_get (f := I1) (z := 1) (j := 0) (v := .i .i64 (sqn k)) I1.len (hsg k hlt) rfl
 rw [Nat.mul_one] at hr2
 have hxr := Ev.rng (hev x (List.mem_of_getElem? hx))
 have hn := hst k
 rw [evN_at hx] at hn
 replace hsr := hsr k
 generalize sqn k = sq at hn hr2 hsr
 generalize hs1 : st (k + 1) = s1 at hn ⊢
 generalize hsk : st k = s at hn ho ⊢
 subst hn
 clear hs1 hsk hst hs0 st hsg sqn
 have t1 : 0 ≤ x.wa.tmod 700 ∧ x.wa.tmod 700 < 700 := by rw [Int.tmod_eq_emod_of_nonneg (by omega)]; omega
 have t2 : 0 ≤ x.wh.tmod 3 ∧ x.wh.tmod 3 < 3 := by rw [Int.tmod_eq_emod_of_nonneg (by omega)]; omega
 have m1 : IntKind.u16.wrap (x.wa.tmod 700) = x.wa.tmod 700 := by rw [wrapU16]; omega
 have m2 : IntKind.i64.wrap (x.wa.tmod 700) = x.wa.tmod 700 := wrapL (by omega) (by omega)
 have m3 : IntKind.u8.wrap (x.wh.tmod 3) = x.wh.tmod 3 := by rw [wrapU8]; omega
 obtain ⟨w, T, A, C⟩ := s
 obtain ⟨hg, hi, hti⟩ := ho
 dsimp only at hg hi hti ⊢
 have hgt := hg.ti
 have m4 : IntKind.i64.wrap (w.ti + x.wa.tmod 700) = w.ti + x.wa.tmod 700 := wrapL (by omega) (by omega)
 generalize hnow : w.ti + x.wa.tmod 700 = now at m4 ⊢
 have hnw : w.ti ≤ now ∧ now ≤ TT := by unfold TT; omega
 have hnk : now ≤ 700 * ((k + 1 : Nat) : Int) := by omega
 obtain ⟨q, rfl⟩ : ∃ q : Nat, sq = (q : Int) := ⟨sq.toNat, by omega⟩
 have hq : q < 65536 := by omega
 have hll : decide (w.l.length ≤ 1000000000000) = true := decide_eq_true (by have := hg.len; omega)
 have hk13 : ∀ (h : Hp) n, k13 [.agg w.a, .i .i64 now, .i .i64 (q : Int)] h n = some (true, { v := rsV (sawS w now q), n }) := fun h n => by
  simp only [k13, wsA_a, Option.bind_some, hll]
 have hk20 : ∀ (h : Hp) n, k20 [.agg w.a, .i .i64 now, .i .i64 rd] h n = some (true, { v := askV (askS w now rd), n }) := fun h n => by
  simp only [k20, wsA_a, Option.bind_some, hll]
 have hk18 : ∀ (h : Hp) n, k18 [.agg w.a, .i .i64 rd] h n = some (true, { v := nextV (nextS w rd), n }) := fun h n => by
  simp only [k18, wsA_a, Option.bind_some, hll]
 obtain ⟨wh, wa, sp⟩ := x
 dsimp only at *
 cases hb : (wh.tmod 3 != 0)
 · -- asked
   rw [cond_false]
   clear hk13
   have hwl : ∀ j, belL j (rows Wt.l w.l) = true := fun j => belL_mono0 _ (rows_bel Wt.bel)
   have hae := ask_eq hg hnw hrr
   have hae6 : ask6 ⟨w, T, A, C⟩ now rd = ⟨⟨now, w.st, w.tp, askL now rd w.l⟩, askF T (askN now rd w.l) (askN now rd w.l).length, askG A now (askN now rd w.l) (askN now rd w.l).length, C⟩ := by
    show (⟨(askS w now rd).1, _, _, _⟩ : S6) = _
    rw [hae]
   rw [hae6]
   rw [hae] at hk20
   have hnx := next_ask hg hnw hrr
   have hgood := ask_good hg hnw hrr
   have hinv := ask_inv (now := now) (trip := rd) hg hi (st := w.st) (tp := w.tp)
   have hN := fun n hn => ask_num (n := n) hg hnw.1 hrr hi hn
   have hnd := askN_nodup (now := now) (trip := rd) hg
   have hN64 : (askN now rd w.l).length ≤ 64 := by
    show ((((w.l.filter _).filter _).map _).length ≤ 64)
    rw [List.length_map]
    exact Nat.le_trans (List.length_filter_le _ _) (Nat.le_trans (List.length_filter_le _ _) hg.len)
   have hlen2 := askL_lt (now := now) (trip := rd) (l := w.l)
   have hfr := ask_fresh (now := now) (trip := rd) (l := w.l)
   generalize askL now rd w.l = LL at *
   generalize askN now rd w.l = N at *
   generalize askU now rd w.l = U at *
   generalize nextS w rd = NX at *
   obtain ⟨nt, ne⟩ := NX
   dsimp only at hnx
   clear hae hae6
   have hok2 : ok6 ⟨⟨now, w.st, w.tp, LL⟩, askF T N N.length, askG A now N N.length, C⟩ (k + 1) := ⟨hgood, hinv, hnk⟩
   have hLb : ∀ j, belL j (rows Wt.l LL) = true := fun j => belL_mono0 _ (rows_bel Wt.bel)
   have hNb : ∀ j, belL j (rows I1 N) = true := fun j => irB j
   have hl2 : decide (LL.length ≤ 1000000000000) = true := decide_eq_true (by have := hgood.len; dsimp only at this; omega)
   have hu2 : unrows 4 wt4 LL.length (rows Wt.l LL) = some LL := unrows_rows Wt.len wt4_l LL
   have hqn : inI 0 TT now = true := inI_of ⟨by omega, hnw.2⟩
   have hall : (LL.all fun x => inI 0 TT x.fd) = true := by
    rw [List.all_eq_true]
    intro x hx
    have := (want_iff.1 (hgood.all x hx).1).fd
    exact inI_of ⟨this.1, by have := this.2; dsimp only at this; have := hnw.2; omega⟩
   have hany : (LL.any fun x => decide (now - x.fd ≥ 2000)) = false := by
    rw [List.any_eq_false]
    intro x hx
    have := hfr x hx
    simp; omega
   have h28 : ∀ (h : Hp) n b, hget h b = some { cells := [.i .i64 now] } → k28 [.fz (rows Wt.l LL) LL.length, .fn 31 [.p b 0]] h n = some (true, { v := .b false, n, rd := [b] }) := fun h n b hb => by
    simp only [k28, vwK_rows Wt.len, hu2, Option.bind_some, hb, oneB, hl2, Bool.and_self, hqn, hall, hany]
   have h11 : ∀ (h : Hp) n, k11 [.agg [.i .i64 now, .b w.st, .i .i64 w.tp, .fz (rows Wt.l LL) LL.length]] h n = some (true, { v := .i .i64 0, n }) := fun h n => by
    have := wsA_a ⟨now, w.st, w.tp, LL⟩
    simp only [Ws.a] at this
    simp only [k11, this, Option.bind_some, hl2, good_gw.2 hgood, if_true]
   have hll2 : decide ((LL.length : Int) < (w.l.length : Int)) = U := by rw [← hlen2]; simp
   clear hlen2 hfr hall hany hqn hu2 hl2 hgood hinv
   simp only [Ws.a, askV, nextV] at hk20 hk18 ⊢
   cases g1 : decide ((N.length : Int) > 0)
   · have g1' := of_decide_eq_false g1
     obtain rfl : N = [] := List.eq_nil_of_length_eq_zero (by omega)
     simp only [List.length_nil, Nat.lt_irrefl, decide_false, Bool.false_or, askF_z, askG_z] at hnx hok2 hk20 ⊢
     have g4 : decide (((0 : Nat) : Int) > 0) = false := rfl
     have g5 : decide (((0 : Nat) : Int) < ((0 : Nat) : Int)) = false := rfl
     cases g2 : (ne == 0)
     · rw [g2, Bool.false_and] at hnx
       subst hnx
       simp (maxSteps := 400000) only [go_sem, c1, c2, c3, hr0, hr1, hr2, m1, m2, m3, m4, hnow, hb, hk20, hk18, hw, hlt, AV.bel, belL, nblt, hwb, hwl, tT_bel, tC_bel, erb, irB, hLb, Nat.mul_one, h11, hll2, h28, g2, g4, simprocAttr]
       refine Loop.rounds (F := F6) 1 hTL6 mo ?_
       dsimp only [F6, TL6]
       simp (maxSteps := 400000) only [go_sem, c1, c2, c3, hr0, hr1, hr2, m1, m2, m3, m4, hnow, hb, hk20, hk18, hw, hlt, AV.bel, belL, nblt, hwb, hwl, tT_bel, tC_bel, erb, irB, hLb, Nat.mul_one, h11, hll2, h28, g2, g5, simprocAttr]
       exact hok2
     · rw [g2, Bool.true_and] at hnx
       have g3 := hnx.symm
       simp (maxSteps := 400000) only [go_sem, c1, c2, c3, hr0, hr1, hr2, m1, m2, m3, m4, hnow, hb, hk20, hk18, hw, hlt, AV.bel, belL, nblt, hwb, hwl, tT_bel, tC_bel, erb, irB, hLb, Nat.mul_one, h11, hll2, h28, g2, g4, g3, simprocAttr]
       refine Loop.rounds (F := F6) 1 hTL6 mo ?_
       dsimp only [F6, TL6]
       simp (maxSteps := 400000) only [go_sem, c1, c2, c3, hr0, hr1, hr2, m1, m2, m3, m4, hnow, hb, hk20, hk18, hw, hlt, AV.bel, belL, nblt, hwb, hwl, tT_bel, tC_bel, erb, irB, hLb, Nat.mul_one, h11, hll2, h28, g2, g5, g3, simprocAttr]
       exact hok2
   have g1' := of_decide_eq_true g1
   have g0 : decide (0 < N.length) = true := decide_eq_true (by omega)
   rw [g0, Bool.true_or] at hnx
   have hnx := hnx.symm
   rw [Bool.and_eq_true] at hnx
   obtain ⟨g2, g3⟩ := hnx
   simp (maxSteps := 400000) only [go_sem, c1, c2, c3, hr0, hr1, hr2, m1, m2, m3, m4, hnow, hb, hk20, hk18, hw, hlt, AV.bel, belL, nblt, hwb, hwl, tT_bel, tC_bel, erb, irB, hLb, Nat.mul_one, h11, hll2, h28, g1, g2, g3, simprocAttr]
   refine Loop.countI (F := F6) hTL6 mo N.length (fun _ => True)
    (fun j => [(1, .p 0 0), (3, .p 1 0), (4, .p 2 0), (5, .p 3 0), (6, .p 4 0), (7, .i .i64 rd), (29, .fz (rows I1 sl) sl.length), (30, .i .i64 (sl.length : Int)), (31, .i .i64 (k : Int)), (10, .p 6 0), (18, .p 7 0), (20, .b U), (152, .fz (rows I1 N) N.length), (153, .i .i64 (N.length : Int)), (154, .i .i64 (j : Int))])
    (fun j => [(7, { cells := [.i .i64 now, .b w.st, .i .i64 w.tp, .fz (rows Wt.l LL) LL.length] }), (6, { cells := [.i .i64 now] }), (4, { cells := tC C }), (3, { cells := tT (askG A now N j) }), (2, { cells := tT (askF T N j) }),
      (1, { cells := [.i .i64 w.ti, .b w.st, .i .i64 w.tp, .fz (rows Wt.l w.l) w.l.length] }), (0, { cells := [.i .u16 sq0, .i .u16 tr, .fz (rows Ev.l ev) ev.length] })]) 8 (by decide) trivial ?_ ?_ (fun j hj _ => ?_)
   · simp (maxSteps := 400000) only [go_sem, AV.bel, belL, nblt, irB, simprocAttr]
   · simp (maxSteps := 400000) only [go_sem, askF_z, askG_z, AV.bel, belL, nblt, tT_bel, tC_bel, erb, hwl, hLb, simprocAttr]
   dsimp only [F6, TL6]
   by_cases hjl : j < N.length
   · have d1 : decide ((j : Int) < (N.length : Int)) = true := decide_eq_true (by omega)
     have d2 : decide (0 ≤ (j : Int) ∧ (j : Int) < (N.length : Int)) = true := decide_eq_true (by omega)
     obtain ⟨n, hn⟩ : ∃ n, N[j]? = some n := ⟨_, List.getElem?_eq_getElem hjl⟩
     have hnr : (rows I1 N)[j]? = some (.i .i64 n) := by
      have := rows_get (f := I1) (z := 1) (j := 0) (v := .i .i64 n) I1.len hn rfl
      simpa using this
     obtain ⟨n1, n2, n3, n4⟩ := hN n (List.mem_of_getElem? hn)
     have hni := nodup_take (fun x hx => (hN x hx).1.1) hnd hn
     have yF := askF_s (T := T) hn hni
     have yG := askG_s (A := A) (now := now) hn
     have vF : askF T N j n.toNat = T n.toNat := if_neg hni
     have vG : askG A now N j n.toNat = A n.toNat := if_neg hni
     have vF2 : askF T N (j + 1) n.toNat = T n.toNat + 1 := by rw [← yF, upd_eq, vF]
     rw [vF] at yF
     obtain ⟨nn, rfl⟩ : ∃ nn : Nat, n = (nn : Int) := ⟨n.toNat, by omega⟩
     simp only [Int.toNat_natCast] at *
     have hnn : nn < 65536 := by omega
     have x1 : decide ((nn : Int) < 0) = false := decide_eq_false (by omega)
     have x2 : decide ((nn : Int) > 65535) = false := decide_eq_false (by omega)
     have cn : decide (0 ≤ (nn : Int) ∧ (nn : Int) < 65536) = true := decide_eq_true (by omega)
     have ln : decide (nn ≤ 65535) = true := decide_eq_true (by omega)
     have gC : (tC C)[nn]? = some (.b false) := by rw [tC_get C hnn, n2]
     have gF : (tT (askF T N j))[nn]? = some (.i .i64 (T nn)) := by rw [tT_get _ hnn, vF]
     have gG : (tT (askG A now N j))[nn]? = some (.i .i64 (A nn)) := by rw [tT_get _ hnn, vG]
     have gF2 : (tT (askF T N (j + 1)))[nn]? = some (.i .i64 (T nn + 1)) := by rw [tT_get _ hnn, vF2]
     have sF := tT_set (askF T N j) hnn (T nn + 1)
     have sG := tT_set (askG A now N j) hnn now
     rw [yF] at sF
     rw [yG] at sG
     have u1 : IntKind.i64.wrap (T nn + 1) = T nn + 1 := wrapL (by omega) (by omega)
     have u2 : decide (T nn + 1 > 6) = false := decide_eq_false (by omega)
     have hw2 : IntKind.i64.wrap ((j : Int) + 1) = ((j + 1 : Nat) : Int) := by rw [wrapL (by omega) (by omega)]; omega
     clear yF yG vF vG vF2 hni hn
     cases p1 : decide (T nn > 0)
     · simp (maxSteps := 400000) only [go_sem, d1, d2, hnr, x1, x2, cn, ln, gC, gF, gG, gF2, sF, sG, u1, u2, p1, hw2, hjl, tC_len, tT_len, hw, hlt, AV.bel, belL, nblt, hwb, hwl, tT_bel, tC_bel, erb, irB, hLb, Nat.mul_one, simprocAttr]
     · obtain ⟨a0, a1, a2⟩ := n4 (of_decide_eq_true p1)
       have u3 : IntKind.i64.wrap (now - A nn) = now - A nn := wrapL (by omega) (by omega)
       have u4 : decide (now - A nn < min rd 1000) = false := decide_eq_false (by omega)
       simp (maxSteps := 400000) only [go_sem, d1, d2, hnr, x1, x2, cn, ln, gC, gF, gG, gF2, sF, sG, u1, u2, u3, u4, p1, hw2, hjl, tC_len, tT_len, hw, hlt, AV.bel, belL, nblt, hwb, hwl, tT_bel, tC_bel, erb, irB, hLb, Nat.mul_one, simprocAttr]
   · have d1 : decide ((j : Int) < (N.length : Int)) = false := decide_eq_false (by omega)
     obtain rfl : j = N.length := by omega
     simp (maxSteps := 400000) only [go_sem, d1, h28, hll2, hw, hlt, AV.bel, belL, nblt, hwb, hwl, tT_bel, tC_bel, erb, irB, hLb, Nat.mul_one, simprocAttr]
     exact hok2
 · -- seen
   have hsc := saw_cases hg hnw hsr
   have hsv : saw6 ⟨w, T, A, C⟩ now q = bif (sawS w now q).2 == 0 then ⟨(sawS w now q).1, wip T 0 w.tp (sawM w q), A, wip (upd C (q : Int).toNat true) false w.tp (sawM w q)⟩ else ⟨w, T, A, C⟩ := rfl
   rw [cond_true, hsv]
   generalize sawS w now q = R at hsc hk13 ⊢
   obtain ⟨⟨ri, rs, rp, rl⟩, re⟩ := R
   dsimp only at hsc ⊢
   have hrb : ∀ j, belL j (rows Wt.l rl) = true := fun j => belL_mono0 _ (rows_bel Wt.bel)
   have hwl : ∀ j, belL j (rows Wt.l w.l) = true := fun j => belL_mono0 _ (rows_bel Wt.bel)
   rcases hsc with (h | h) | ⟨h, hg2, hti2, ha, hi2, hm2⟩
   · subst h
     rw [show ((6 : Int) == 0) = false from rfl, cond_false]
     simp only [Ws.a, rsV] at hk13 ⊢
     simp (maxSteps := 400000) only [go_sem, c1, c2, c3, hr0, hr1, hr2, m1, m2, m3, m4, hnow, hb, hk13, hw, hlt, AV.bel, belL, nblt, hwb, hwl, tT_bel, tC_bel, erb, irB, Nat.mul_one, simprocAttr]
     exact ⟨hg, hi, by show w.ti ≤ _; omega⟩
   · subst h
     rw [show ((3 : Int) == 0) = false from rfl, cond_false]
     simp only [Ws.a, rsV] at hk13 ⊢
     simp (maxSteps := 400000) only [go_sem, c1, c2, c3, hr0, hr1, hr2, m1, m2, m3, m4, hnow, hb, hk13, hw, hlt, AV.bel, belL, nblt, hwb, hwl, tT_bel, tC_bel, erb, irB, Nat.mul_one, simprocAttr]
     exact ⟨hg, hi, by show w.ti ≤ _; omega⟩
   · subst h
     rw [show ((0 : Int) == 0) = true from rfl, cond_true, Int.toNat_natCast]
     have hi2 := hi2 T A C hi
     rw [Int.toNat_natCast] at hi2
     have hl2 : decide (rl.length ≤ 1000000000000) = true := decide_eq_true (by have := hg2.len; dsimp only at this; omega)
     have hu2 : unrows 4 wt4 rl.length (rows Wt.l rl) = some rl := unrows_rows Wt.len wt4_l rl
     have h28 : ∀ (h : Hp) n b, hget h b = some { cells := [.i .i64 (q : Int)] } → k28 [.fz (rows Wt.l rl) rl.length, .fn 29 [.p b 0]] h n = some (true, { v := .b false, n, rd := [b] }) := fun h n b hb => by
      simp only [k28, vwK_rows Wt.len, hu2, Option.bind_some, hb, oneB, hl2, Bool.and_self, ha]
     have h11 : ∀ (h : Hp) n, k11 [.agg [.i .i64 ri, .b rs, .i .i64 rp, .fz (rows Wt.l rl) rl.length]] h n = some (true, { v := .i .i64 0, n }) := fun h n => by
      have := wsA_a ⟨ri, rs, rp, rl⟩
      simp only [Ws.a] at this
      simp only [k11, this, Option.bind_some, hl2, good_gw.2 hg2, if_true]
     have hok2 : ∀ T' C', Inv ⟨ri, rs, rp, rl⟩ T' A C' → ok6 ⟨⟨ri, rs, rp, rl⟩, T', A, C'⟩ (k + 1) := fun T' C' h => ⟨hg2, h, by show ri ≤ _; rw [hti2]; exact hnk⟩
     have cq : decide (0 ≤ (q : Int) ∧ (q : Int) < 65536) = true := decide_eq_true (by omega)
     have lq : decide (q ≤ 65535) = true := decide_eq_true (by omega)
     have zC := tC_set C hq true
     have htp := hg.tp
     obtain ⟨L, hL⟩ : ∃ L, L = ((q : Int) - w.tp) % 65536 := ⟨_, rfl⟩
     have eL : andI .i64 (IntKind.i64.wrap ((q : Int) - w.tp)) 65535 = L := by rw [Go.Ab.and16, wrapL (by omega) (by omega), hL]
     have hL0 : 0 ≤ L ∧ L < 65536 := by omega
     clear hk20 hk18 ha hsv
     cases hst : w.st
     · have hM : sawM w q = 0 := by simp [sawM, hst]
       rw [hM] at hi2 ⊢
       simp only [wip_z] at hi2 ⊢
       simp only [Ws.a, rsV, hst] at hk13 ⊢
       simp (maxSteps := 400000) only [go_sem, c1, c2, c3, hr0, hr1, hr2, m1, m2, m3, m4, hnow, hb, hk13, hw, hlt, AV.bel, belL, nblt, hwb, hwl, tT_bel, tC_bel, erb, irB, h28, h11, cq, lq, zC, eL, tC_len, tT_len, hrb, Nat.mul_one, simprocAttr]
       exact hok2 _ _ hi2
     cases hlL : decide (L < 32768)
     · have hM : sawM w q = 0 := by
        have := of_decide_eq_false hlL
        simp only [sawM, hst, cond_true, lead]
        rw [if_pos (by omega)]; omega
       rw [hM] at hi2 ⊢
       simp only [wip_z] at hi2 ⊢
       simp only [Ws.a, rsV, hst] at hk13 ⊢
       simp (maxSteps := 400000) only [go_sem, c1, c2, c3, hr0, hr1, hr2, m1, m2, m3, m4, hnow, hb, hk13, hw, hlt, AV.bel, belL, nblt, hwb, hwl, tT_bel, tC_bel, erb, irB, h28, h11, cq, lq, zC, eL, hlL, tC_len, tT_len, hrb, Nat.mul_one, simprocAttr]
       exact hok2 _ _ hi2
     have hL3 := of_decide_eq_true hlL
     obtain ⟨M, hM⟩ : ∃ M, M = sawM w q := ⟨_, rfl⟩
     have hML : M = (L - 1).toNat := by
      rw [hM]
      simp only [sawM, hst, cond_true, lead]
      rw [if_neg (by omega), hL]
     rw [← hM] at hi2 hm2 ⊢
     simp only [Ws.a, rsV, hst] at hk13 ⊢
     simp (maxSteps := 400000) only [go_sem, c1, c2, c3, hr0, hr1, hr2, m1, m2, m3, m4, hnow, hb, hk13, hw, hlt, AV.bel, belL, nblt, hwb, hwl, tT_bel, tC_bel, erb, irB, h28, h11, cq, lq, zC, eL, hlL, tC_len, tT_len, hrb, Nat.mul_one, simprocAttr]
     have z01 : ((0 : Nat) : Int) + 1 = 1 := rfl
     refine Loop.countI (F := F6) hTL6 mo M (fun _ => True)
      (fun j => [(1, .p 0 0), (3, .p 1 0), (4, .p 2 0), (5, .p 3 0), (6, .p 4 0), (7, .i .i64 rd), (29, .fz (rows I1 sl) sl.length), (30, .i .i64 (sl.length : Int)), (31, .i .i64 (k : Int)), (10, .p 6 0), (11, .p 7 0), (13, .i .i64 L), (14, .i .i64 ((j : Int) + 1))])
      (fun j => [(7, { cells := [.i .i64 ri, .b rs, .i .i64 rp, .fz (rows Wt.l rl) rl.length] }), (6, { cells := [.i .i64 now] }), (4, { cells := tC (wip (upd C q true) false w.tp j) }), (3, { cells := tT A }), (2, { cells := tT (wip T 0 w.tp j) }),
        (1, { cells := [.i .i64 w.ti, .b true, .i .i64 w.tp, .fz (rows Wt.l w.l) w.l.length] }), (0, { cells := [.i .u16 sq0, .i .u16 tr, .fz (rows Ev.l ev) ev.length] })]) 8 (by decide) trivial ?_ ?_ (fun j hj _ => ?_)
     · simp (maxSteps := 400000) only [go_sem, z01, AV.bel, belL, nblt, irB, simprocAttr]
     · simp (maxSteps := 400000) only [go_sem, wip_z, AV.bel, belL, nblt, tT_bel, tC_bel, erb, hwl, hrb, simprocAttr]
     dsimp only [F6, TL6]
     by_cases hjl : j < M
     · have d1 : decide ((j : Int) + 1 < L) = true := decide_eq_true (by omega)
       have e1 : andI .i64 (IntKind.i64.wrap (w.tp + ((j : Int) + 1))) 65535 = (missN w.tp j : Int) := by
        rw [Go.Ab.and16, wrapL (by omega) (by omega)]; unfold missN; omega
       have hnn : missN w.tp j < 65536 := by unfold missN; omega
       have y1 := tC_set (wip (upd C q true) false w.tp j) hnn false
       have y2 := tT_set (wip T 0 w.tp j) hnn 0
       rw [wip_s] at y1 y2
       have hw2 : IntKind.i64.wrap ((j : Int) + 1 + 1) = ((j + 1 : Nat) : Int) + 1 := by rw [wrapL (by omega) (by omega)]; omega
       have h30 : ∀ (h : Hp) n, k30 [.fz (rows Wt.l rl) rl.length, .agg [.i .i64 (missN w.tp j : Int), .i .i64 now, .i .i64 0, .i .i64 0]] h n = some (true, { v := .b true, n }) := fun h n => by
        have e : wt4 [.i .i64 (missN w.tp j : Int), .i .i64 now, .i .i64 0, .i .i64 0] = some ⟨(missN w.tp j : Int), now, 0, 0⟩ := rfl
        simp only [k30, hu2, e, Option.bind_some, hl2, hm2 j hjl]
       generalize missN w.tp j = nn at *
       have cn : decide (0 ≤ (nn : Int) ∧ (nn : Int) < 65536) = true := decide_eq_true (by omega)
       have ln : decide (nn ≤ 65535) = true := decide_eq_true (by omega)
       simp (maxSteps := 400000) only [go_sem, d1, e1, y1, y2, hw2, h30, cn, ln, hjl, tC_len, tT_len, Nat.mul_one, AV.bel, belL, nblt, tT_bel, tC_bel, erb, hwl, hrb, irB, simprocAttr]
     · have d1 : decide ((j : Int) + 1 < L) = false := decide_eq_false (by omega)
       obtain rfl : j = M := by omega
       simp (maxSteps := 400000) only [go_sem, d1, hw, hlt, AV.bel, belL, nblt, hwb, hwl, tT_bel, tC_bel, erb, irB, hrb, simprocAttr]
       exact hok2 _ _ hi2
end Go.Proofs.Res
