/- Chapter 41: LayersContinuous, the walk. -/
import Derived.Test.YtkpiibllomjeaaaLysPc
import Derived.Test.YtkpiibllomjeaaaLysI7
import Derived.Test.YtkpiibllomjeaaaLysKb
namespace Go.Proofs.Lys
open Go.Ab
set_option maxRecDepth 100000
set_option maxHeartbeats 8000000
set_option linter.unusedSimpArgs false
set_option linter.unusedVariables false
def T7 : List (Nat × Ct) := [(12, k12), (14, k14), (19, k19), (20, k20), (25, k25), (28, k28), (45, k45), (46, k46), (47, k47)]
theorem hT7 : Sound Try.prog (cxT T7) := Sound.cons s12 (Sound.cons s14 (Sound.cons s19 (Sound.cons s20 (Sound.cons s25 (Sound.cons s28 (Sound.cons s45 (Sound.cons s46 (Sound.cons s47 Sound.nil))))))))
noncomputable abbrev F7 : Fx := ⟨Try.prog, cxT T7, [31, 44, 50, 70, 86, 101, 106, 159, 161, 166, 197, 210, 219, 232], 234, 0⟩
def nums (s : Sw) : List AV := [.i .i64 s.ss, .i .i64 s.sT, .i .i64 s.si, .i .i64 s.sb]
theorem w7 (d : Dr) (ac : List Ac) (hd : d.ok = true) (hal : ac.length ≤ 9223372036854775807) (hao : ∀ a ∈ ac, a.ok = true) :
 FTL Try.prog 7 [.agg d.l, .fz (rows Ac.l ac) ac.length] [] 0 (.b true) [] 0 := by
 have hdr := dr21_l d
 have hk45 : ∀ (h : Hp) n, k45 [.agg d.l] h n = some (true, { v := .agg (beginS d).a, n }) := fun h n => by simp only [k45, hdr, Option.bind_some, hd]
 have hI := begin_ci hd
 generalize beginS d = P at *
 have hDl : d.l.length = 21 := rfl
 have hDt : List.take 21 d.l = d.l := List.take_of_length_le (by rw [hDl]; omega)
 generalize d.l = DL at *
 have qa1 := Pl.len
 have qa2 := Pl.t24
 have qa3 := Pl.one
 have pt2 := Pl.t18
 have pd := Pl.d18
 have pe := Pl.d24
 have prl : ∀ p : Pl, p.r.length = 6 := fun _ => rfl
 have so := Sw.one
 have sl := Sw.len
 have stt := Sw.t18
 have sd : ∀ s : Sw, List.drop 18 s.a = [] := fun _ => rfl
 have ml : ∀ q : Md, q.l.length = 9 := fun q => rfl
 have mt : ∀ q : Md, List.take 9 q.l = q.l := fun q => List.take_of_length_le (Nat.le_refl 9)
 have mo1 : ∀ q : Md, oneAll q.l = true := fun q => rfl
 have me : ∀ q : Md, List.drop 9 q.l = [] := fun _ => rfl
 have e14 : ∀ p : Pl, List.take 4 (List.drop 14 p.a) = nums p.s := fun _ => rfl
 have nl : ∀ s : Sw, (nums s).length = 4 := fun _ => rfl
 have nt : ∀ s : Sw, List.take 4 (nums s) = nums s := fun _ => rfl
 have no : ∀ s : Sw, oneAll (nums s) = true := fun _ => rfl
 have acb : ∀ j, belL j (rows Ac.l ac) = true := fun j => acB j ac
 have plb : ∀ (p : Pl) j, belL j p.a = true := fun p j => Pl.bel j p
 have plr : ∀ (p : Pl) (S : Sw) j, belL j (S.a ++ p.r) = true := fun p S j => Pl.bel j { p with s := S }
 have nb : ∀ (s : Sw) j, belL j (nums s) = true := fun _ _ => rfl
 have db : ∀ (x : Dc) j, belL j x.l = true := fun _ _ => rfl
 have zdl : zDc.l = [.b false, .i .i64 0, .i .i64 0, .i .i64 0, .b false, .i .i64 0, .i .i64 0, .i .i64 0, .b false, .i .i64 0, .i .i64 0, .i .i64 0] := rfl
 have hmn : min (ac.length : Int) 60 = ((min ac.length 60 : Nat) : Int) := by omega
 have hle : min ac.length 60 ≤ ac.length := Nat.min_le_left _ _
 generalize min ac.length 60 = M at *
 have cM : decide (0 ≤ (M : Int) ∧ (M : Int) ≤ (ac.length : Int)) = true := decide_eq_true (by omega)
 refine FTL.of_iw hT7 mo Try.func7 i7_eq (by simp [i7]) (iw_of_jw ?_)
 dsimp only [i7, T7]
 simp (maxSteps := 400000) only [go_sem, k19, hk45, hDl, hDt, qa1, qa2, qa3, e14, nl, nt, no, hmn, minI, cM, Int.toNat_natCast, List.drop_zero, simprocAttr]
 refine Loop.by (F := F7) hT7 mo (X := Pl × Dc × Nat) (fun y => CI y.1 y.2.1 ∧ y.2.2 ≤ M) (fun y => M - y.2.2)
  (fun y => [(5, .p 1 0), (6, .p 2 0), (7, .p 3 0), (41, .fz (rows Ac.l ac) M), (42, .i .i64 (M : Int)), (43, .i .i64 (y.2.2 : Int))])
  (fun y => [(3, { cells := y.2.1.l }), (2, { cells := nums y.1.s }), (1, { cells := y.1.a })]) 4 (P, zDc, 0) (by decide) ⟨hI, Nat.zero_le _⟩ ?_ ?_ (fun y hy => ?_)
 · simp (maxSteps := 400000) only [go_sem, acb, AV.bel, belL, nblt, simprocAttr]
 · simp (maxSteps := 400000) only [go_sem, zdl, nb, plb, AV.bel, belL, nblt, simprocAttr]
 obtain ⟨p, dc, j⟩ := y
 obtain ⟨hc, hjM⟩ := hy
 dsimp only [F7, T7] at hc hjM ⊢
 by_cases hlt : j < M
 rotate_left
 · have c1 : decide ((j : Int) < (M : Int)) = false := decide_eq_false (by omega)
   simp (maxSteps := 400000) only [go_sem, c1, simprocAttr]
   exact Ends.pureE rfl rfl
 have c1 : decide ((j : Int) < (M : Int)) = true := decide_eq_true (by omega)
 have c3 : decide (0 ≤ (j : Int) ∧ (j : Int) < (M : Int)) = true := decide_eq_true (by omega)
 have hw : IntKind.i64.wrap ((j : Int) + 1) = ((j + 1 : Nat) : Int) := by rw [wrapL (by omega) (by omega)]; omega
 obtain ⟨a, ha⟩ : ∃ a, ac[j]? = some a := ⟨_, List.getElem?_eq_getElem (by omega)⟩
 have rx : List.take 4 (List.drop (j * 4) (rows Ac.l ac)) = a.l := rows_at Ac.len ha
 have haO := hao a (List.mem_of_getElem? ha)
 have hx4 := ac4_l a
 have hwr := wish_rng haO
 have hk25 : ∀ (h : Hp) n, k25 [.agg a.l] h n = some (true, { v := .tup [.i .i64 (wishS a).1, .i .i64 (wishS a).2], n }) := fun h n => by
  simp only [k25, hx4, Option.bind_some, haO]
 have g14 : ∀ (la ai : Int) (h : Hp) n, k14 [.agg p.s.a, .i .i64 la, .i .i64 ai] h n = some (true, { v := .tup [.agg (wantS p.s la ai).1.a, .i .i64 (wantS p.s la ai).2], n }) := fun la ai h n => by
  have : decide (p.s.l.length ≤ 9223372036854775807) = true := decide_eq_true (by rw [hc.v.l]; simp)
  simp only [k14, swA_a, Option.bind_some, this, swV]
 have g12 : ∀ (u : Sw) (h : Hp) n, Gd u → u.l = [10, 20, 30] → k12 [.agg u.a] h n = some (true, { v := .i .i64 0, n }) := fun u h n hg hu => by
  have : decide (u.l.length ≤ 9223372036854775807) = true := decide_eq_true (by rw [hu]; simp)
  simp only [k12, swA_a, Option.bind_some, this, gd_iff.2 hg, if_true]
 obtain ⟨w1, w2, w3, w4, w5, w6⟩ := hc.want hwr.1 hwr.2
 have f12 := fun h n => g12 (wantS p.s (wishS a).1 (wishS a).2).1 h n w2.v.gd w2.v.l
 have f14 := fun h n => g14 (wishS a).1 (wishS a).2 h n
 rw [w1] at f14
 generalize (wantS p.s (wishS a).1 (wishS a).2).1 = W at *
 have hnW : nums W = nums p.s := by unfold nums; rw [w3, w4, w5, w6]
 generalize wishS a = wi at *
 obtain ⟨wla, wai⟩ := wi
 obtain ⟨wh, at_, la, ai⟩ := a
 have hwo := haO
 simp only [Ac.ok, Bool.and_eq_true] at hwo
 have m8 := (u8m8 hwo.1).1
 have hwr6 := inI_t hwo.1
 have m6 : wh.tmod 6 = wh % 6 := Int.tmod_eq_emod_of_nonneg (by have := hwr6.1; exact this)
 simp only [Ac.l] at rx hk25
 dsimp only at m8 hk25 f14 hwr6
 have mkx : ∀ (p' : Pl) (d' : Dc), CI p' d' → ((CI p' d' ∧ j + 1 ≤ M) ∧ M - (j + 1) < M - j) := fun p' d' h => ⟨⟨h, by omega⟩, by omega⟩
 cases e7 : (wh % 8 == 7)
 rotate_left
 · simp (maxSteps := 400000) only [go_sem, c1, c3, hw, rx, m8, pe, pd, prl, qa1, qa2, qa3, pt2, so, sl, stt, sd, ml, mt, mo1, me, List.drop_zero, List.take_zero, List.nil_append, List.append_nil, e7, hk25, f14, f12, nl, nt, no, simprocAttr]
   refine ⟨({ p with s := W }, dc, j + 1), mkx _ _ w2, ?_, ?_⟩
   · simp (maxSteps := 400000) only [go_sem, acb, AV.bel, belL, nblt, simprocAttr]
   · have hpa : Pl.a { p with s := W } = W.a ++ p.r := rfl
     have hns : nums ({ p with s := W } : Pl).s = nums p.s := hnW
     simp (maxSteps := 400000) only [go_sem, hpa, hns, db, nb, plr, AV.bel, belL, nblt, simprocAttr]
 have ha6 : (⟨wh % 6, at_, la, ai⟩ : Ac).wh % 8 < 6 := by show wh % 6 % 8 < 6; omega
 have hx6 : ac4 [.i .u8 (wh % 6), .i .u8 at_, .i .u8 la, .i .u8 ai] = some ⟨wh % 6, at_, la, ai⟩ := rfl
 have hok6 : Ac.ok ⟨wh % 6, at_, la, ai⟩ = true := by
  simp only [Ac.ok, Bool.and_eq_true]
  exact ⟨by simp only [inI, Bool.and_eq_true, decide_eq_true_eq]; omega, hwo.2⟩
 have hk20 : ∀ (h : Hp) n, k20 [.agg p.a, .agg [.i .u8 (wh % 6), .i .u8 at_, .i .u8 la, .i .u8 ai]] h n = some (true, { v := .tup [.agg (nextS p ⟨wh % 6, at_, la, ai⟩).1.a, .agg (nextS p ⟨wh % 6, at_, la, ai⟩).2.1.l, .b (nextS p ⟨wh % 6, at_, la, ai⟩).2.2], n }) := fun h n => by
  simp only [k20, plA_a, hx6, Option.bind_some, hc.v.i.ok, hok6, Bool.and_self, nextV]
 rcases cont_push hc ha6 with e | ⟨p1, m, e, hps, hmk, s', hS⟩
 · rw [e] at hk20
   simp (maxSteps := 400000) only [go_sem, c1, c3, hw, rx, m8, pe, pd, prl, qa1, qa2, qa3, pt2, so, sl, stt, sd, ml, mt, mo1, me, List.drop_zero, List.take_zero, List.nil_append, List.append_nil, e7, m6, hk20, simprocAttr]
   refine ⟨(p, dc, j + 1), mkx _ _ hc, ?_, ?_⟩
   · simp (maxSteps := 400000) only [go_sem, acb, AV.bel, belL, nblt, simprocAttr]
   · simp (maxSteps := 400000) only [go_sem, db, nb, plb, AV.bel, belL, nblt, simprocAttr]
 rw [e] at hk20
 dsimp only at hk20
 have hpc : pushC p1.s m = true := pushC_of (by rw [hps, hc.v.l]; decide) hmk
 have g28 : ∀ (h : Hp) n, k28 [.agg p1.s.a, .agg m.l] h n = some (true, { v := .tup [.agg (pdS p1.s m).1.a, .agg (pdS p1.s m).2.1.l, .b (pdS p1.s m).2.2], n }) := fun h n => by
  simp only [k28, swA_a, md9_l, Option.bind_some, hpc, pdV]
 have hpa : Pl.a { p1 with s := s' } = s'.a ++ p1.r := rfl
 have m8' : m.l[8]? = some (.s m.pl) := rfl
 have m1' : m.l[1]? = some (.i .i64 m.ty) := rfl
 have m0' : m.l[0]? = some (.b m.ma) := rfl
 rcases hS with ⟨k1, k2, k3, k4, k5, k6⟩ | ⟨o, y, r, k1, k2, k3, k4, k5, k6, k7, k8_, k9_, k10_, hk⟩
 · rw [k1] at g28
   have h12 := fun h n => g12 s' h n k6.v.gd k6.v.l
   have z8 : zMd.l[8]? = some (.s []) := rfl
   simp (maxSteps := 400000) only [go_sem, c1, c3, hw, rx, m8, pe, pd, prl, qa1, qa2, qa3, pt2, so, sl, stt, sd, ml, mt, mo1, me, List.drop_zero, List.take_zero, List.nil_append, List.append_nil, e7, m6, hk20, g28, h12, z8, bne_self_eq_false, beq_self_eq_true, eqk, eqs, eq1, simprocAttr]
   refine ⟨({ p1 with s := s' }, dc, j + 1), mkx _ _ k6, ?_, ?_⟩
   · simp (maxSteps := 400000) only [go_sem, acb, AV.bel, belL, nblt, simprocAttr]
   · have hns : nums ({ p1 with s := s' } : Pl).s = nums p.s := by show nums s' = _; unfold nums; rw [k2, k3, k4, k5, hps]
     simp (maxSteps := 400000) only [go_sem, hpa, hns, db, nb, plr, AV.bel, belL, nblt, simprocAttr]
 rw [k1] at g28
 have hgd : Gd s' ∧ s'.l = [10, 20, 30] := by
  rcases hk with ⟨_, _, _, d', _, h⟩ | ⟨_, _, _, h⟩
  · exact ⟨h.v.gd, h.v.l⟩
  · exact ⟨h.v.gd, h.v.l⟩
 have h12 := fun h n => g12 s' h n hgd.1 hgd.2
 have o8 : o.l[8]? = some (.s o.pl) := rfl
 have o4 : o.l[4]? = some (.i .i64 5) := by rw [← k5]; rfl
 have o1 : o.l[1]? = some (.i .i64 m.ty) := by rw [← k6]; rfl
 have o0 : o.l[0]? = some (.b m.ma) := by rw [← k7]; rfl
 have o2 : o.l[2]? = some (.i .i64 ((p.s.ss + 1) % 65536)) := by rw [← hps, ← k8_]; rfl
 have o3 : o.l[3]? = some (.i .i64 s'.sT) := by rw [← k10_]; rfl
 have hne : (o.pl == []) = false := by simpa using k4
 have hds : decV (dec m.pl) = .tup [.agg y.l, .s r, .i .i64 0] := by rw [k2]; rfl
 have hdo : decV (dec o.pl) = .tup [.agg (Go.Proofs.Lys.Sh.l { y with id := s'.si, ba := s'.sb }), .s r, .i .i64 0] := by rw [k3]; rfl
 have hgp := hc.v.gd
 have hps1 := hgp.ss
 have hps2 := hgp.si
 have hps3 := hgp.sb
 have x1 : IntKind.i64.wrap (p.s.ss + 1) = p.s.ss + 1 := wrapL (by omega) (by omega)
 have x2 : (p.s.ss + 1).tmod 65536 = (p.s.ss + 1) % 65536 := Int.tmod_eq_emod_of_nonneg (by omega)
 have x3 : IntKind.i64.wrap ((p.s.ss + 1) % 65536) = (p.s.ss + 1) % 65536 := wrapL (by omega) (by omega)
 have x4 : IntKind.i64.wrap (p.s.si + 1) = p.s.si + 1 := wrapL (by omega) (by omega)
 have x5 : (p.s.si + 1).tmod 32768 = (p.s.si + 1) % 32768 := Int.tmod_eq_emod_of_nonneg (by omega)
 have x6 : IntKind.i64.wrap ((p.s.si + 1) % 32768) = (p.s.si + 1) % 32768 := wrapL (by omega) (by omega)
 have x7 : IntKind.i64.wrap (p.s.sb + 1) = p.s.sb + 1 := wrapL (by omega) (by omega)
 have x8 : (p.s.sb + 1).tmod 256 = (p.s.sb + 1) % 256 := Int.tmod_eq_emod_of_nonneg (by omega)
 have x9 : IntKind.i64.wrap ((p.s.sb + 1) % 256) = (p.s.sb + 1) % 256 := wrapL (by omega) (by omega)
 have hss' : s'.ss = (p.s.ss + 1) % 65536 := by rw [← k9_, k8_, hps]
 rw [hps] at hk
 have hn14 : List.take 4 (List.drop 14 s'.a) = [.i .i64 ((p.s.ss + 1) % 65536), .i .i64 s'.sT, .i .i64 s'.si, .i .i64 s'.sb] := by rw [← hss']; rfl
 have hnn : nums ({ p1 with s := s' } : Pl).s = [.i .i64 ((p.s.ss + 1) % 65536), .i .i64 s'.sT, .i .i64 s'.si, .i .i64 s'.sb] := by show nums s' = _; unfold nums; rw [hss']
 have dl : ∀ x : Dc, x.l.length = 12 := fun _ => rfl
 have dt : ∀ x : Dc, List.take 12 x.l = x.l := fun _ => rfl
 have do1 : ∀ x : Dc, oneAll x.l = true := fun _ => rfl
 have de : ∀ x : Dc, List.drop 12 x.l = [] := fun _ => rfl
 have dv : ∀ x : Dc, dcV x.l = some x := fun _ => rfl
 obtain ⟨yst, yky, ysy, yla, yid, yba, yte, ysp⟩ := y
 dsimp only at hk hds hdo
 simp only [Go.Proofs.Lys.Sh.l] at hds hdo
 simp only [nums]
 rcases hk with ⟨rfl, s1, s2, d', s3, s4⟩ | ⟨rfl, s1, s2, s4⟩
 · have h47 : ∀ (h : Hp) n, k47 [.agg dc.l, .agg [.b true, .b yky, .b ysy, .b yla, .i .i64 s'.si, .i .i64 s'.sb, .i .i64 yte, .i .i64 ysp]] h n = some (true, { v := .tup [.agg d'.l, .b true, .i .i64 0], n }) := fun h n => by
    have e1 : shV [.b true, .b yky, .b ysy, .b yla, .i .i64 s'.si, .i .i64 s'.sb, .i .i64 yte, .i .i64 ysp] = some ⟨true, yky, ysy, yla, s'.si, s'.sb, yte, ysp⟩ := rfl
    simp only [k47, dv, e1, Option.bind_some, s3]
   cases et : (yte == 0)
   · have hte : yte ≠ 0 := by simpa using et
     rw [if_neg hte] at s2
     rw [s1, s2] at h47 hdo hn14 hnn
     simp (maxSteps := 400000) only [go_sem, c1, c3, hw, rx, m8, pe, pd, prl, qa1, qa2, qa3, pt2, so, sl, stt, sd, ml, mt, mo1, me, List.drop_zero, List.take_zero, List.nil_append, List.append_nil, e7, m6, hk20, g28, h12, o8, o4, o1, o0, o2, o3, hne, k46, hds, hdo, m8', m1', m0', x1, x2, x3, x4, x5, x6, x7, x8, x9, et, h47, hn14, dl, dt, do1, de, bne_self_eq_false, beq_self_eq_true, eqk, eqs, eq1, simprocAttr]
     refine ⟨({ p1 with s := s' }, d', j + 1), mkx _ _ s4, ?_, ?_⟩
     · simp (maxSteps := 400000) only [go_sem, acb, AV.bel, belL, nblt, simprocAttr]
     · simp (maxSteps := 400000) only [go_sem, hpa, hss', s1, s2, db, nb, plr, AV.bel, belL, nblt, simprocAttr]
   · have hte : yte = 0 := by simpa using et
     rw [if_pos hte] at s2
     rw [s1, s2] at h47 hdo hn14 hnn
     simp (maxSteps := 400000) only [go_sem, c1, c3, hw, rx, m8, pe, pd, prl, qa1, qa2, qa3, pt2, so, sl, stt, sd, ml, mt, mo1, me, List.drop_zero, List.take_zero, List.nil_append, List.append_nil, e7, m6, hk20, g28, h12, o8, o4, o1, o0, o2, o3, hne, k46, hds, hdo, m8', m1', m0', x1, x2, x3, x4, x5, x6, x7, x8, x9, et, h47, hn14, dl, dt, do1, de, bne_self_eq_false, beq_self_eq_true, eqk, eqs, eq1, simprocAttr]
     refine ⟨({ p1 with s := s' }, d', j + 1), mkx _ _ s4, ?_, ?_⟩
     · simp (maxSteps := 400000) only [go_sem, acb, AV.bel, belL, nblt, simprocAttr]
     · simp (maxSteps := 400000) only [go_sem, hpa, hss', s1, s2, db, nb, plr, AV.bel, belL, nblt, simprocAttr]
 · rw [s1, s2] at hdo hn14 hnn
   simp (maxSteps := 400000) only [go_sem, c1, c3, hw, rx, m8, pe, pd, prl, qa1, qa2, qa3, pt2, so, sl, stt, sd, ml, mt, mo1, me, List.drop_zero, List.take_zero, List.nil_append, List.append_nil, e7, m6, hk20, g28, h12, o8, o4, o1, o0, o2, o3, hne, k46, hds, hdo, m8', m1', m0', x1, x2, x3, x4, x5, x6, x7, x8, x9, hn14, dl, dt, do1, de, bne_self_eq_false, beq_self_eq_true, eqk, eqs, eq1, simprocAttr]
   refine ⟨({ p1 with s := s' }, dc, j + 1), mkx _ _ s4, ?_, ?_⟩
   · simp (maxSteps := 400000) only [go_sem, acb, AV.bel, belL, nblt, simprocAttr]
   · simp (maxSteps := 400000) only [go_sem, hpa, hss', s1, s2, db, nb, plr, AV.bel, belL, nblt, simprocAttr]
end Go.Proofs.Lys
