/- Texts laid as one: LysD4 LysD5 LysD6. -/
import Derived.Test.YtkpiibllomjeaaaLysDa
import Derived.Test.YtkpiibllomjeaaaAbWka
section
/- Chapter 41: Film.Packets, Ssrcs, Fresh, Begin. -/
namespace Go.Proofs.Lys
open Go.Ab
set_option maxRecDepth 100000
set_option maxHeartbeats 4000000
set_option linter.unusedSimpArgs false
set_option linter.unusedVariables false
def bare (l : List Md) : Bool := l.all fun p => p.cs.isEmpty && p.xs.isEmpty
theorem wka_pk : ∀ {l : List Md}, bare l = true → WkaL (rows pkL l) (rows Md.l l)
 | [], _ => trivial
 | p :: l, h => by
  simp only [bare, List.all_cons, Bool.and_eq_true, List.isEmpty_iff] at h
  obtain ⟨⟨h1, h2⟩, h3⟩ := h
  have ih := wka_pk (l := l) h3
  have e1 : rows pkL (p :: l) = pkL p ++ rows pkL l := rfl
  have e2 : rows Md.l (p :: l) = Md.l p ++ rows Md.l l := rfl
  rw [e1, e2]
  refine WkaL.app ?_ ih
  obtain ⟨ma, ty, sq, tm, ss, cs, xs, pd, pl⟩ := p
  dsimp only at h1 h2
  subst h1; subst h2
  exact ⟨Wka.refl _, Wka.refl _, Wka.refl _, Wka.refl _, Wka.refl _, Wka.ns, Wka.ns, Wka.refl _, Wka.refl _, trivial⟩
theorem mapN_all {α : Type} {g : Nat → α} {f : α → Bool} (h : ∀ i, f (g i) = true) : ∀ k, (mapN g k).all f = true
 | 0 => rfl
 | k + 1 => by rw [mapN_s, List.all_append, mapN_all h k]; simp [h]
theorem fSt_bare (f : Fl) (ss : Int) : ∀ i, bare (fSt f ss i).q = true
 | 0 => rfl
 | i + 1 => by
  have ih := fSt_bare f ss i
  simp only [fSt, fNx, bare, inF, List.all_append, Bool.and_eq_true] at ih ⊢
  exact ⟨ih, mapN_all (fun j => rfl) _⟩
theorem w67 (f : Fl) (ss : Int) (hf : f.ok = true) : FTL Try.prog 67 [.agg f.l, .i .i64 ss] [] 0 (.fz (rows Md.l (filmS f ss)) (filmS f ss).length) [] 0 := by
 have hw : FTL Try.prog 67 [.agg f.l, .i .i64 ss] [] 0 (.fz (rows pkL (filmS f ss)) (filmS f ss).length) [] 0 := by
  have lp := fun (K : Kont) (e : Env) (h : Hp) (m : Nat) => @loop67o f ss hf K e h m
  have pk := gPk (filmS f ss)
  generalize hQ : filmS f ss = Q at *
  have hLb : ∀ j, belL j (rows u8R f.pc) = true := fun j => u8B j f.pc
  have hLr : ∀ ψ, renL ψ (rows u8R f.pc) = rows u8R f.pc := fun ψ => renL_fix0 _ (rows_bel u8R_bel)
  clear hQ
  simp only [Fl.ok, Bool.and_eq_true] at hf
  obtain ⟨o1, o2, o3, o4, o5⟩ := hf
  have o1 := inI_t o1
  have o4 := inI_t o4
  obtain ⟨sq, id, tm, fba, pc⟩ := f
  simp only [Fl.l, hD67] at lp ⊢
  dsimp only at *
  have w1 : IntKind.i64.wrap sq = sq := wrapL (by omega) (by omega)
  have w2 : IntKind.i64.wrap fba = fba := wrapL (by omega) (by omega)
  refine FTL.of_cov hT67 mo Try.func67 i67_eq (by simp [i67]) (iw_of_jw ?_)
  dsimp only [i67, T67]
  simp (maxSteps := 400000) only [go_sem, w1, w2, simprocAttr]
  refine lp _ _ _ _ ?_ ?_ (fun e' g5 => ?_)
  · simp (maxSteps := 400000) only [go_sem, gQ_nil, fv_n, List.length_nil, AV.bel, belL, nblt, AV.ren, renL, simprocAttr]
    try (simp; done)
  · simp (maxSteps := 400000) only [go_sem, gQ_nil, fh_n, hLb, hLr, AV.bel, belL, nblt, Blk.ren, AV.ren, renL, simprocAttr]
  · simp (maxSteps := 400000) only [go_sem, g5, pk, simprocAttr]
    refine CovS.frzS (h' := []) (v' := .fz (rows pkL Q) Q.length) (gQ_is (f := pkL) pkL_bel pkL_len Q) (gQ_fresh Q) (gPcap Q) (by rw [hasS_hit]; trivial) FzV.hit (fun c kk hc => by simp [hget] at hc) ?_
    exact CovS.ends (Ends.pureE (by simp only [AV.bel, pkB]) rfl)
 exact hw.vmono (Wka.fz (wka_pk (fSt_bare f ss _)))
def k67 : Ct
 | [.agg c, .i .i64 ss], _, n => (fl5 c).bind fun f => some (f.ok, { v := .fz (rows Md.l (filmS f ss)) (filmS f ss).length, n })
 | _, _, _ => none
theorem mdB' (j : Nat) (l : List Md) : belL j (rows Md.l l) = true := belL_mono0 _ (rows_bel (fun p => p.bel))
theorem s67 : SoundAt Try.prog 67 k67 := fun args h n c E hc ht => by
 unfold k67 at hc
 split at hc
 · simp only [Option.bind_eq_some_iff] at hc
   obtain ⟨s, hd, he⟩ := hc
   cases he
   rw [fl5_eq hd]
   exact CallOK.pure (by kernel_rfl) (by simp only [belL, AV.bel, Fl.bel, Bool.and_self]) (by simp only [AV.bel, mdB']) (w67 s _ ht) _ _
 · cases hc
/-! Ssrcs -/
theorem w26 : FTL Try.prog 26 [] [] 0 (.fz (rows int1 [10, 20, 30]) 3) [] 0 := by
 refine FTL.of_cov (cx := cxT []) Sound.nil mo Try.func26 i26_eq (by simp [i26]) (iw_of_jw ?_)
 dsimp only [i26]
 simp (maxSteps := 400000) only [go_sem, simprocAttr]
 refine CovS.frz (b := 0) (k := { cells := [.i .i64 10, .i .i64 20, .i .i64 30] }) (h' := []) (o := 0) (m := 3) (cs := [.i .i64 10, .i .i64 20, .i .i64 30]) (v' := .fz (rows int1 [10, 20, 30]) 3) rfl rfl (.inl ⟨3, rfl, Nat.le_refl _⟩) (.inl rfl) FzV.hit (fun c kk hc => by simp [hget] at hc) ?_
 exact CovS.ends (Ends.pureE rfl rfl)
def k26 : Ct
 | [], _, n => some (true, { v := .fz (rows int1 [10, 20, 30]) 3, n })
 | _, _, _ => none
theorem s26 : SoundAt Try.prog 26 k26 := fun args h n c E hc ht => by
 unfold k26 at hc
 split at hc
 · cases hc; exact CallOK.pure (by kernel_rfl) rfl rfl w26 _ _
 · cases hc
/-! drafts -/
structure Dr where
 f0 : Fl
 f1 : Fl
 f2 : Fl
 a0 : Int
 a1 : Int
 a2 : Int
 a3 : Int
 st : Int
 ac : List Ac
def Dr.l (d : Dr) : List AV := [.i .u16 d.f0.sq, .i .u16 d.f0.id, .i .u32 d.f0.tm, .i .u8 d.f0.ba, .fz (rows u8R d.f0.pc) d.f0.pc.length, .i .u16 d.f1.sq, .i .u16 d.f1.id, .i .u32 d.f1.tm, .i .u8 d.f1.ba, .fz (rows u8R d.f1.pc) d.f1.pc.length, .i .u16 d.f2.sq, .i .u16 d.f2.id, .i .u32 d.f2.tm, .i .u8 d.f2.ba, .fz (rows u8R d.f2.pc) d.f2.pc.length,
 .i .u16 d.a0, .i .u16 d.a1, .i .u16 d.a2, .i .u16 d.a3, .i .u16 d.st, .fz (rows Ac.l d.ac) d.ac.length]
theorem Dr.bel (d : Dr) : belL 0 d.l = true := by simp only [Dr.l, belL, AV.bel, u8B, acB, Bool.and_self]
def dr21 : List AV → Option Dr
 | [.i .u16 a, .i .u16 b, .i .u32 c, .i .u8 d, .fz L m, .i .u16 a', .i .u16 b', .i .u32 c', .i .u8 d', .fz L' m', .i .u16 a'', .i .u16 b'', .i .u32 c'', .i .u8 d'', .fz L'' m'', .i .u16 x, .i .u16 y, .i .u16 z, .i .u16 w, .i .u16 st, .fz A k] =>
  (unrows 1 u8V m L).bind fun l => (unrows 1 u8V m' L').bind fun l' => (unrows 1 u8V m'' L'').bind fun l'' => (unrows 4 ac4 k A).bind fun ac => some ⟨⟨a, b, c, d, l⟩, ⟨a', b', c', d', l'⟩, ⟨a'', b'', c'', d'', l''⟩, x, y, z, w, st, ac⟩
 | _ => none
theorem dr21_l (d : Dr) : dr21 d.l = some d := by
 obtain ⟨⟨a, b, c, d, l⟩, ⟨a', b', c', d', l'⟩, ⟨a'', b'', c'', d'', l''⟩, x, y, z, w, st, ac⟩ := d
 simp only [dr21, Dr.l, unrows_rows u8R_len u8V_r, unrows_rows Ac.len ac4_l, Option.bind_some]
theorem dr21_eq {c : List AV} {d : Dr} (h : dr21 c = some d) : c = d.l := by
 unfold dr21 at h
 split at h
 · simp only [Option.bind_eq_some_iff, Option.some.injEq] at h
   obtain ⟨l, hl, l', hl', l'', hl'', ac, ha, rfl⟩ := h
   obtain ⟨rfl, h1⟩ := unrows_eq (f := u8R) u8V_eq hl
   obtain ⟨rfl, h2⟩ := unrows_eq (f := u8R) u8V_eq hl'
   obtain ⟨rfl, h3⟩ := unrows_eq (f := u8R) u8V_eq hl''
   obtain ⟨rfl, h4⟩ := unrows_eq (f := Ac.l) ac4_eq ha
   subst h1; subst h2; subst h3; subst h4; rfl
 · cases h
def Dr.ok (d : Dr) : Bool := d.f0.ok && (d.f1.ok && (d.f2.ok && (inI 0 65535 d.a0 && (inI 0 65535 d.a1 && (inI 0 65535 d.a2 && (inI 0 65535 d.a3 && (inI 0 65535 d.st && (d.ac.all Ac.ok && decide (d.ac.length ≤ 9223372036854775807)))))))))
def freshS (d : Dr) : Sw := (newS [10, 20, 30] 5 (1 + d.st) d.a0 (d.a1 * 65537) (d.a2 % 32768) (d.a3 % 256)).1
def T66 : List (Nat × Ct) := [(18, k17), (26, k26)]
theorem hT66 : Sound Try.prog (cxT T66) := Sound.cons s18 (Sound.cons s26 Sound.nil)
theorem w66 (d : Dr) (hd : d.ok = true) : FTL Try.prog 66 [.agg d.l] [] 0 (.agg (freshS d).a) [] 0 := by
 simp only [Dr.ok, Bool.and_eq_true] at hd
 obtain ⟨-, -, -, h0, h1, h2, h3, h4, -⟩ := hd
 have h0 := inI_t h0
 have h1 := inI_t h1
 have h2 := inI_t h2
 have h3 := inI_t h3
 have h4 := inI_t h4
 have v0 : IntKind.i64.wrap d.a0 = d.a0 := wrapL (by omega) (by omega)
 have v1 : IntKind.i64.wrap d.a1 = d.a1 := wrapL (by omega) (by omega)
 have v2 : IntKind.i64.wrap d.a2 = d.a2 := wrapL (by omega) (by omega)
 have v3 : IntKind.i64.wrap d.a3 = d.a3 := wrapL (by omega) (by omega)
 have v4 : IntKind.i64.wrap d.st = d.st := wrapL (by omega) (by omega)
 have v5 : IntKind.i64.wrap (1 + d.st) = 1 + d.st := wrapL (by omega) (by omega)
 have v6 : IntKind.i64.wrap (d.a1 * 65537) = d.a1 * 65537 := wrapL (by omega) (by omega)
 have m2 : d.a2.tmod 32768 = d.a2 % 32768 := Int.tmod_eq_emod_of_nonneg (by omega)
 have m3 : d.a3.tmod 256 = d.a3 % 256 := Int.tmod_eq_emod_of_nonneg (by omega)
 have v7 : IntKind.i64.wrap (d.a2 % 32768) = d.a2 % 32768 := wrapL (by omega) (by omega)
 have v8 : IntKind.i64.wrap (d.a3 % 256) = d.a3 % 256 := wrapL (by omega) (by omega)
 have hR : freshS d = (newS [10, 20, 30] 5 (1 + d.st) d.a0 (d.a1 * 65537) (d.a2 % 32768) (d.a3 % 256)).1 := rfl
 have hu := i_un [10, 20, 30]
 have hu : unrows 1 intV 3 (rows int1 [10, 20, 30]) = some [10, 20, 30] := hu
 have hg : decide (8 * [10, 20, 30].length ≤ growMax) = true := rfl
 have hg2 : decide (24 ≤ growMax) = true := rfl
 generalize freshS d = R at *
 obtain ⟨⟨a, b, c, dd, l⟩, ⟨a', b', c', d', l'⟩, ⟨a'', b'', c'', d'', l''⟩, x, y, z, w, st, ac⟩ := d
 simp only [Dr.l]
 dsimp only at *
 generalize hN : newS [10, 20, 30] 5 (1 + st) x (y * 65537) (z % 32768) (w % 256) = N at *
 obtain ⟨⟨rl, rou, rst, rnw, rwa, rca, rai, rtp, rfr, rkp, rsq, rtm, rid, rba, rss, rsT, rsi, rsb⟩, e⟩ := N
 refine FTL.of_iw hT66 mo Try.func66 i66_eq (by simp [i66]) (iw_of_jw ?_)
 dsimp only [i66, T66]
 simp (maxSteps := 400000) only [go_sem, v0, v1, v2, v3, v4, v5, v6, v7, v8, m2, m3, k26, k17, hu, hg, hg2, hN, swV, Sw.a, simprocAttr]
 rw [hR]
 exact Ends.pureE (by simp only [AV.bel, belL, ib, Bool.and_self]) rfl
def k66 : Ct
 | [.agg c], _, n => (dr21 c).bind fun d => some (d.ok, { v := .agg (freshS d).a, n })
 | _, _, _ => none
theorem s66 : SoundAt Try.prog 66 k66 := fun args h n c E hc ht => by
 unfold k66 at hc
 split at hc
 · simp only [Option.bind_eq_some_iff] at hc
   obtain ⟨d, hd, he⟩ := hc
   cases he
   rw [dr21_eq hd]
   exact CallOK.pure (by kernel_rfl) (by simp only [belL, AV.bel, Dr.bel, Bool.and_self]) (by simp only [AV.bel, Sw.bel]) (w66 d ht) _ _
 · cases hc
/-! plays -/
structure Pl where
 s : Sw
 q0 : List Md
 q1 : List Md
 q2 : List Md
 n0 : Int
 n1 : Int
 n2 : Int
def Pl.r (p : Pl) : List AV := [.fz (rows Md.l p.q0) p.q0.length, .fz (rows Md.l p.q1) p.q1.length, .fz (rows Md.l p.q2) p.q2.length, .i .i64 p.n0, .i .i64 p.n1, .i .i64 p.n2]
def Pl.a (p : Pl) : List AV := p.s.a ++ p.r
theorem Pl.bel (j : Nat) (p : Pl) : belL j p.a = true := by
 obtain ⟨s, q0, q1, q2, n0, n1, n2⟩ := p
 simp only [Pl.a, Pl.r, Sw.a, List.cons_append, List.nil_append, belL, AV.bel, ib, mdB', Bool.and_self]
def beginS (d : Dr) : Pl := ⟨freshS d, filmS d.f0 10, filmS d.f1 20, filmS d.f2 30, 0, 0, 0⟩
def T45 : List (Nat × Ct) := [(26, k26), (66, k66), (67, k67)]
theorem hT45 : Sound Try.prog (cxT T45) := Sound.cons s26 (Sound.cons s66 (Sound.cons s67 Sound.nil))
theorem w45 (d : Dr) (hd : d.ok = true) : FTL Try.prog 45 [.agg d.l] [] 0 (.agg (beginS d).a) [] 0 := by
 have hdr := dr21_l d
 have h0 := fl5_l d.f0
 have h1 := fl5_l d.f1
 have h2 := fl5_l d.f2
 have hok := hd
 simp only [Dr.ok, Bool.and_eq_true] at hd
 obtain ⟨o0, o1, o2, -⟩ := hd
 have hR : beginS d = ⟨freshS d, filmS d.f0 10, filmS d.f1 20, filmS d.f2 30, 0, 0, 0⟩ := rfl
 generalize beginS d = R at *
 refine FTL.of_iw hT45 mo Try.func45 i45_eq (by simp [i45]) (iw_of_jw ?_)
 dsimp only [i45, T45]
 generalize hfr : freshS d = FR at *
 generalize hq0 : filmS d.f0 10 = Q0 at *
 generalize hq1 : filmS d.f1 20 = Q1 at *
 generalize hq2 : filmS d.f2 30 = Q2 at *
 obtain ⟨rl, rou, rst, rnw, rwa, rca, rai, rtp, rfr, rkp, rsq, rtm, rid, rba, rss, rsT, rsi, rsb⟩ := FR
 obtain ⟨⟨a, b, c, dd, l⟩, ⟨a', b', c', d', l'⟩, ⟨a'', b'', c'', d'', l''⟩, x, y, z, w, st, ac⟩ := d
 simp only [Dr.l, Fl.l] at hdr h0 h1 h2 ⊢
 dsimp only at *
 have e10 : (rows int1 [10, 20, 30])[0]? = some (.i .i64 10) := rfl
 have e20 : (rows int1 [10, 20, 30])[1]? = some (.i .i64 20) := rfl
 have e30 : (rows int1 [10, 20, 30])[2]? = some (.i .i64 30) := rfl
 simp (maxSteps := 400000) only [go_sem, k66, hdr, hok, hfr, Sw.a, simprocAttr]
 refine Loop.rounds (F := ⟨Try.prog, cxT T45, [9], 25, 0⟩) 4 hT45 mo ?_
 dsimp only [T45]
 simp (maxSteps := 400000) only [go_sem, lp, k26, k67, h0, h1, h2, o0, o1, o2, hq0, hq1, hq2, e10, e20, e30, simprocAttr]
 rw [hR]
 exact Ends.pureE (by simp only [AV.bel, belL, ib, mdB', Bool.and_self]) rfl
def k45 : Ct
 | [.agg c], _, n => (dr21 c).bind fun d => some (d.ok, { v := .agg (beginS d).a, n })
 | _, _, _ => none
theorem s45 : SoundAt Try.prog 45 k45 := fun args h n c E hc ht => by
 unfold k45 at hc
 split at hc
 · simp only [Option.bind_eq_some_iff] at hc
   obtain ⟨d, hd, he⟩ := hc
   cases he
   rw [dr21_eq hd]
   exact CallOK.pure (by kernel_rfl) (by simp only [belL, AV.bel, Dr.bel, Bool.and_self]) (by simp only [AV.bel, Pl.bel]) (w45 d ht) _ _
 · cases hc
end Go.Proofs.Lys
end
section
/- Chapter 41: Play.Next, Act.Wish. -/
namespace Go.Proofs.Lys
open Go.Ab
set_option maxRecDepth 100000
set_option maxHeartbeats 4000000
set_option linter.unusedSimpArgs false
set_option linter.unusedVariables false
theorem md_at {l : List Md} {k : Nat} {x : Md} (h : l[k]? = some x) : List.take 9 (List.drop (k * 9) (rows Md.l l)) = x.l := rows_at Md.len h
def zMd : Md := ⟨false, 0, 0, 0, 0, [], [], 0, []⟩
def Pl.q (p : Pl) (k : Int) : List Md := bif k == 0 then p.q0 else bif k == 1 then p.q1 else p.q2
def Pl.n (p : Pl) (k : Int) : Int := bif k == 0 then p.n0 else bif k == 1 then p.n1 else p.n2
def Pl.up (p : Pl) (k : Int) : Pl := bif k == 0 then { p with n0 := p.n0 + 1 } else bif k == 1 then { p with n1 := p.n1 + 1 } else { p with n2 := p.n2 + 1 }
def nextK (p : Pl) (a : Ac) (w k : Int) : Pl × Md × Bool :=
 bif w == 6 && decide (p.n k > 0) then (p, (p.q k).getD (a.at_ % p.n k).toNat zMd, true)
 else bif decide (w < 6) && decide (p.n k < ((p.q k).length : Int)) then (p.up k, (p.q k).getD (p.n k).toNat zMd, true)
 else (p, zMd, false)
def nextS (p : Pl) (a : Ac) : Pl × Md × Bool := nextK p a (a.wh % 8) (a.wh % 8 % 3)
def Pl.ok (p : Pl) : Bool := (inI 0 p.q0.length p.n0 && decide (p.q0.length ≤ 1000)) && ((inI 0 p.q1.length p.n1 && decide (p.q1.length ≤ 1000)) && (inI 0 p.q2.length p.n2 && decide (p.q2.length ≤ 1000)))
def nextV (r : Pl × Md × Bool) : AV := .tup [.agg r.1.a, .agg r.2.1.l, .b r.2.2]
theorem nextV_bel (r : Pl × Md × Bool) : (nextV r).bel 0 = true := by simp only [nextV, AV.bel, belL, Pl.bel, md_bel, Bool.and_self]
theorem u8m8 {x : Int} (h : inI 0 255 x = true) : x.tmod 8 = x % 8 ∧ IntKind.i64.wrap (x % 8) = x % 8 ∧ (x % 8).tmod 3 = x % 8 % 3 ∧ IntKind.i64.wrap (x % 8 % 3) = x % 8 % 3 := by
 have h := inI_t h
 exact ⟨Int.tmod_eq_emod_of_nonneg (by omega), wrapL (by omega) (by omega), Int.tmod_eq_emod_of_nonneg (by omega), wrapL (by omega) (by omega)⟩
theorem elt {l : List Md} {i : Int} (h0 : 0 ≤ i) (h1 : i < (l.length : Int)) : List.take 9 (List.drop (i.toNat * 9) (rows Md.l l)) = (l.getD i.toNat zMd).l := by
 obtain ⟨p, hp⟩ : ∃ p, l[i.toNat]? = some p := ⟨_, List.getElem?_eq_getElem (by omega)⟩
 rw [md_at hp, List.getD_eq_getElem?_getD, hp]; rfl
theorem nextK_b {p : Pl} {a : Ac} {w k : Int} {b : Bool} (h1 : (w == 6) = false) (h2 : decide (w < 6) = true) (d : decide (p.n k < ((p.q k).length : Int)) = b) : nextK p a w k = bif b then (p.up k, (p.q k).getD (p.n k).toNat zMd, true) else (p, zMd, false) := by
 simp only [nextK, h1, h2, d, Bool.false_and, Bool.true_and, cond_false]
theorem nextK_6 {p : Pl} {a : Ac} {k : Int} {b : Bool} (d : decide (p.n k > 0) = b) : nextK p a 6 k = bif b then (p, (p.q k).getD (a.at_ % p.n k).toNat zMd, true) else (p, zMd, false) := by
 simp only [nextK, d]; rfl
theorem w20 (p : Pl) (a : Ac) (hp : p.ok = true) (ha : a.ok = true) : FTL Try.prog 20 [.agg p.a, .agg a.l] [] 0 (nextV (nextS p a)) [] 0 := by
 simp only [Ac.ok, Bool.and_eq_true] at ha
 obtain ⟨a1, a2, -⟩ := ha
 obtain ⟨m1, m2, m3, m4⟩ := u8m8 a1
 have a1 := inI_t a1
 have a2 := inI_t a2
 simp only [Pl.ok, Bool.and_eq_true, decide_eq_true_eq] at hp
 obtain ⟨⟨p0, l0⟩, ⟨p1, l1⟩, p2, l2⟩ := hp
 have p0 := inI_t p0
 have p1 := inI_t p1
 have p2 := inI_t p2
 have w8 : a.wh % 8 = 0 ∨ a.wh % 8 = 1 ∨ a.wh % 8 = 2 ∨ a.wh % 8 = 3 ∨ a.wh % 8 = 4 ∨ a.wh % 8 = 5 ∨ a.wh % 8 = 6 ∨ a.wh % 8 = 7 := by omega
 have hR : nextS p a = nextK p a (a.wh % 8) (a.wh % 8 % 3) := rfl
 generalize nextS p a = R at *
 obtain ⟨wh, at_, la, ai⟩ := a
 dsimp only at *
 have v1 : IntKind.i64.wrap at_ = at_ := wrapL (by omega) (by omega)
 obtain ⟨⟨l, ou, st, nw, wa, ca, ai', tp, fr, kp, sq, tm, id, ba, ss, sT, si, sb⟩, q0, q1, q2, n0, n1, n2⟩ := p
 simp only [Pl.a, Pl.r, Sw.a, Ac.l, List.cons_append, List.nil_append]
 dsimp only at *
 have b0 : IntKind.i64.wrap (n0 + 1) = n0 + 1 := wrapL (by omega) (by omega)
 have b1 : IntKind.i64.wrap (n1 + 1) = n1 + 1 := wrapL (by omega) (by omega)
 have b2 : IntKind.i64.wrap (n2 + 1) = n2 + 1 := wrapL (by omega) (by omega)
 have c0 : IntKind.i64.wrap (n0 + 1 - 1) = n0 := by rw [wrapL (by omega) (by omega)]; omega
 have c1 : IntKind.i64.wrap (n1 + 1 - 1) = n1 := by rw [wrapL (by omega) (by omega)]; omega
 have c2 : IntKind.i64.wrap (n2 + 1 - 1) = n2 := by rw [wrapL (by omega) (by omega)]; omega
 have hlM : ∀ x : Md, x.l.length = 9 := fun x => rfl
 have htM : ∀ x : Md, List.take 9 x.l = x.l := fun x => List.take_of_length_le (Nat.le_refl 9)
 have hoM : ∀ x : Md, oneAll x.l = true := fun x => rfl
 have hSp : ∀ x : Md, List.take 0 [AV.b false, .i .i64 0, .i .i64 0, .i .i64 0, .i .i64 0, .ns, .ns, .i .i64 0, .s []] ++ x.l ++ List.drop 9 [AV.b false, .i .i64 0, .i .i64 0, .i .i64 0, .i .i64 0, .ns, .ns, .i .i64 0, .s []] = x.l := fun x => by simp
 refine FTL.of_cov (cx := cxT []) Sound.nil mo Try.func20 i20_eq (by simp [i20]) (iw_of_jw ?_)
 dsimp only [i20]
 rcases w8 with e | e | e | e | e | e | e | e
 all_goals rw [e] at m1 hR
 · cases d : decide (n0 < (q0.length : Int))
   · have hR' : R = (⟨⟨l, ou, st, nw, wa, ca, ai', tp, fr, kp, sq, tm, id, ba, ss, sT, si, sb⟩, q0, q1, q2, n0, n1, n2⟩, zMd, false) := Eq.trans hR (Eq.trans (nextK_b rfl rfl d) rfl)
     simp (maxSteps := 400000) only [go_sem, m1, m2, m3, m4, v1, d, simprocAttr]
     rw [hR']
     refine CovS.frzN (l := []) (v' := nextV (⟨⟨l, ou, st, nw, wa, ca, ai', tp, fr, kp, sq, tm, id, ba, ss, sT, si, sb⟩, q0, q1, q2, n0, n1, n2⟩, zMd, false)) (FzV.tup ⟨FzV.refl, FzV.agg ⟨FzV.refl, FzV.refl, FzV.refl, FzV.refl, FzV.refl, FzV.hit, FzV.hit, FzV.refl, FzV.refl, trivial⟩, FzV.refl, trivial⟩) ?_
     exact CovS.ends (Ends.pureE (nextV_bel _) rfl)
   · have dd := of_decide_eq_true d
     have f1 : decide (0 ≤ n0 ∧ n0 < (q0.length : Int)) = true := decide_eq_true (by omega)
     have he := elt (l := q0) (i := n0) (by omega) (by omega)
     have hR' : R = (⟨⟨l, ou, st, nw, wa, ca, ai', tp, fr, kp, sq, tm, id, ba, ss, sT, si, sb⟩, q0, q1, q2, n0 + 1, n1, n2⟩, q0.getD n0.toNat zMd, true) := Eq.trans hR (Eq.trans (nextK_b rfl rfl d) rfl)
     simp (maxSteps := 400000) only [go_sem, m1, m2, m3, m4, v1, d, b0, c0, f1, he, hlM, htM, hoM, hSp, List.drop_zero, simprocAttr]
     rw [hR']
     exact CovS.ends (Ends.pureE (nextV_bel (⟨⟨l, ou, st, nw, wa, ca, ai', tp, fr, kp, sq, tm, id, ba, ss, sT, si, sb⟩, q0, q1, q2, n0 + 1, n1, n2⟩, q0.getD n0.toNat zMd, true)) rfl)
 · cases d : decide (n1 < (q1.length : Int))
   · have hR' : R = (⟨⟨l, ou, st, nw, wa, ca, ai', tp, fr, kp, sq, tm, id, ba, ss, sT, si, sb⟩, q0, q1, q2, n0, n1, n2⟩, zMd, false) := Eq.trans hR (Eq.trans (nextK_b rfl rfl d) rfl)
     simp (maxSteps := 400000) only [go_sem, m1, m2, m3, m4, v1, d, simprocAttr]
     rw [hR']
     refine CovS.frzN (l := []) (v' := nextV (⟨⟨l, ou, st, nw, wa, ca, ai', tp, fr, kp, sq, tm, id, ba, ss, sT, si, sb⟩, q0, q1, q2, n0, n1, n2⟩, zMd, false)) (FzV.tup ⟨FzV.refl, FzV.agg ⟨FzV.refl, FzV.refl, FzV.refl, FzV.refl, FzV.refl, FzV.hit, FzV.hit, FzV.refl, FzV.refl, trivial⟩, FzV.refl, trivial⟩) ?_
     exact CovS.ends (Ends.pureE (nextV_bel _) rfl)
   · have dd := of_decide_eq_true d
     have f1 : decide (0 ≤ n1 ∧ n1 < (q1.length : Int)) = true := decide_eq_true (by omega)
     have he := elt (l := q1) (i := n1) (by omega) (by omega)
     have hR' : R = (⟨⟨l, ou, st, nw, wa, ca, ai', tp, fr, kp, sq, tm, id, ba, ss, sT, si, sb⟩, q0, q1, q2, n0, n1 + 1, n2⟩, q1.getD n1.toNat zMd, true) := Eq.trans hR (Eq.trans (nextK_b rfl rfl d) rfl)
     simp (maxSteps := 400000) only [go_sem, m1, m2, m3, m4, v1, d, b1, c1, f1, he, hlM, htM, hoM, hSp, List.drop_zero, simprocAttr]
     rw [hR']
     exact CovS.ends (Ends.pureE (nextV_bel (⟨⟨l, ou, st, nw, wa, ca, ai', tp, fr, kp, sq, tm, id, ba, ss, sT, si, sb⟩, q0, q1, q2, n0, n1 + 1, n2⟩, q1.getD n1.toNat zMd, true)) rfl)
 · cases d : decide (n2 < (q2.length : Int))
   · have hR' : R = (⟨⟨l, ou, st, nw, wa, ca, ai', tp, fr, kp, sq, tm, id, ba, ss, sT, si, sb⟩, q0, q1, q2, n0, n1, n2⟩, zMd, false) := Eq.trans hR (Eq.trans (nextK_b rfl rfl d) rfl)
     simp (maxSteps := 400000) only [go_sem, m1, m2, m3, m4, v1, d, simprocAttr]
     rw [hR']
     refine CovS.frzN (l := []) (v' := nextV (⟨⟨l, ou, st, nw, wa, ca, ai', tp, fr, kp, sq, tm, id, ba, ss, sT, si, sb⟩, q0, q1, q2, n0, n1, n2⟩, zMd, false)) (FzV.tup ⟨FzV.refl, FzV.agg ⟨FzV.refl, FzV.refl, FzV.refl, FzV.refl, FzV.refl, FzV.hit, FzV.hit, FzV.refl, FzV.refl, trivial⟩, FzV.refl, trivial⟩) ?_
     exact CovS.ends (Ends.pureE (nextV_bel _) rfl)
   · have dd := of_decide_eq_true d
     have f1 : decide (0 ≤ n2 ∧ n2 < (q2.length : Int)) = true := decide_eq_true (by omega)
     have he := elt (l := q2) (i := n2) (by omega) (by omega)
     have hR' : R = (⟨⟨l, ou, st, nw, wa, ca, ai', tp, fr, kp, sq, tm, id, ba, ss, sT, si, sb⟩, q0, q1, q2, n0, n1, n2 + 1⟩, q2.getD n2.toNat zMd, true) := Eq.trans hR (Eq.trans (nextK_b rfl rfl d) rfl)
     simp (maxSteps := 400000) only [go_sem, m1, m2, m3, m4, v1, d, b2, c2, f1, he, hlM, htM, hoM, hSp, List.drop_zero, simprocAttr]
     rw [hR']
     exact CovS.ends (Ends.pureE (nextV_bel (⟨⟨l, ou, st, nw, wa, ca, ai', tp, fr, kp, sq, tm, id, ba, ss, sT, si, sb⟩, q0, q1, q2, n0, n1, n2 + 1⟩, q2.getD n2.toNat zMd, true)) rfl)
 · cases d : decide (n0 < (q0.length : Int))
   · have hR' : R = (⟨⟨l, ou, st, nw, wa, ca, ai', tp, fr, kp, sq, tm, id, ba, ss, sT, si, sb⟩, q0, q1, q2, n0, n1, n2⟩, zMd, false) := Eq.trans hR (Eq.trans (nextK_b rfl rfl d) rfl)
     simp (maxSteps := 400000) only [go_sem, m1, m2, m3, m4, v1, d, simprocAttr]
     rw [hR']
     refine CovS.frzN (l := []) (v' := nextV (⟨⟨l, ou, st, nw, wa, ca, ai', tp, fr, kp, sq, tm, id, ba, ss, sT, si, sb⟩, q0, q1, q2, n0, n1, n2⟩, zMd, false)) (FzV.tup ⟨FzV.refl, FzV.agg ⟨FzV.refl, FzV.refl, FzV.refl, FzV.refl, FzV.refl, FzV.hit, FzV.hit, FzV.refl, FzV.refl, trivial⟩, FzV.refl, trivial⟩) ?_
     exact CovS.ends (Ends.pureE (nextV_bel _) rfl)
   · have dd := of_decide_eq_true d
     have f1 : decide (0 ≤ n0 ∧ n0 < (q0.length : Int)) = true := decide_eq_true (by omega)
     have he := elt (l := q0) (i := n0) (by omega) (by omega)
     have hR' : R = (⟨⟨l, ou, st, nw, wa, ca, ai', tp, fr, kp, sq, tm, id, ba, ss, sT, si, sb⟩, q0, q1, q2, n0 + 1, n1, n2⟩, q0.getD n0.toNat zMd, true) := Eq.trans hR (Eq.trans (nextK_b rfl rfl d) rfl)
     simp (maxSteps := 400000) only [go_sem, m1, m2, m3, m4, v1, d, b0, c0, f1, he, hlM, htM, hoM, hSp, List.drop_zero, simprocAttr]
     rw [hR']
     exact CovS.ends (Ends.pureE (nextV_bel (⟨⟨l, ou, st, nw, wa, ca, ai', tp, fr, kp, sq, tm, id, ba, ss, sT, si, sb⟩, q0, q1, q2, n0 + 1, n1, n2⟩, q0.getD n0.toNat zMd, true)) rfl)
 · cases d : decide (n1 < (q1.length : Int))
   · have hR' : R = (⟨⟨l, ou, st, nw, wa, ca, ai', tp, fr, kp, sq, tm, id, ba, ss, sT, si, sb⟩, q0, q1, q2, n0, n1, n2⟩, zMd, false) := Eq.trans hR (Eq.trans (nextK_b rfl rfl d) rfl)
     simp (maxSteps := 400000) only [go_sem, m1, m2, m3, m4, v1, d, simprocAttr]
     rw [hR']
     refine CovS.frzN (l := []) (v' := nextV (⟨⟨l, ou, st, nw, wa, ca, ai', tp, fr, kp, sq, tm, id, ba, ss, sT, si, sb⟩, q0, q1, q2, n0, n1, n2⟩, zMd, false)) (FzV.tup ⟨FzV.refl, FzV.agg ⟨FzV.refl, FzV.refl, FzV.refl, FzV.refl, FzV.refl, FzV.hit, FzV.hit, FzV.refl, FzV.refl, trivial⟩, FzV.refl, trivial⟩) ?_
     exact CovS.ends (Ends.pureE (nextV_bel _) rfl)
   · have dd := of_decide_eq_true d
     have f1 : decide (0 ≤ n1 ∧ n1 < (q1.length : Int)) = true := decide_eq_true (by omega)
     have he := elt (l := q1) (i := n1) (by omega) (by omega)
     have hR' : R = (⟨⟨l, ou, st, nw, wa, ca, ai', tp, fr, kp, sq, tm, id, ba, ss, sT, si, sb⟩, q0, q1, q2, n0, n1 + 1, n2⟩, q1.getD n1.toNat zMd, true) := Eq.trans hR (Eq.trans (nextK_b rfl rfl d) rfl)
     simp (maxSteps := 400000) only [go_sem, m1, m2, m3, m4, v1, d, b1, c1, f1, he, hlM, htM, hoM, hSp, List.drop_zero, simprocAttr]
     rw [hR']
     exact CovS.ends (Ends.pureE (nextV_bel (⟨⟨l, ou, st, nw, wa, ca, ai', tp, fr, kp, sq, tm, id, ba, ss, sT, si, sb⟩, q0, q1, q2, n0, n1 + 1, n2⟩, q1.getD n1.toNat zMd, true)) rfl)
 · cases d : decide (n2 < (q2.length : Int))
   · have hR' : R = (⟨⟨l, ou, st, nw, wa, ca, ai', tp, fr, kp, sq, tm, id, ba, ss, sT, si, sb⟩, q0, q1, q2, n0, n1, n2⟩, zMd, false) := Eq.trans hR (Eq.trans (nextK_b rfl rfl d) rfl)
     simp (maxSteps := 400000) only [go_sem, m1, m2, m3, m4, v1, d, simprocAttr]
     rw [hR']
     refine CovS.frzN (l := []) (v' := nextV (⟨⟨l, ou, st, nw, wa, ca, ai', tp, fr, kp, sq, tm, id, ba, ss, sT, si, sb⟩, q0, q1, q2, n0, n1, n2⟩, zMd, false)) (FzV.tup ⟨FzV.refl, FzV.agg ⟨FzV.refl, FzV.refl, FzV.refl, FzV.refl, FzV.refl, FzV.hit, FzV.hit, FzV.refl, FzV.refl, trivial⟩, FzV.refl, trivial⟩) ?_
     exact CovS.ends (Ends.pureE (nextV_bel _) rfl)
   · have dd := of_decide_eq_true d
     have f1 : decide (0 ≤ n2 ∧ n2 < (q2.length : Int)) = true := decide_eq_true (by omega)
     have he := elt (l := q2) (i := n2) (by omega) (by omega)
     have hR' : R = (⟨⟨l, ou, st, nw, wa, ca, ai', tp, fr, kp, sq, tm, id, ba, ss, sT, si, sb⟩, q0, q1, q2, n0, n1, n2 + 1⟩, q2.getD n2.toNat zMd, true) := Eq.trans hR (Eq.trans (nextK_b rfl rfl d) rfl)
     simp (maxSteps := 400000) only [go_sem, m1, m2, m3, m4, v1, d, b2, c2, f1, he, hlM, htM, hoM, hSp, List.drop_zero, simprocAttr]
     rw [hR']
     exact CovS.ends (Ends.pureE (nextV_bel (⟨⟨l, ou, st, nw, wa, ca, ai', tp, fr, kp, sq, tm, id, ba, ss, sT, si, sb⟩, q0, q1, q2, n0, n1, n2 + 1⟩, q2.getD n2.toNat zMd, true)) rfl)
 · cases d : decide (n0 > 0)
   · have hR' : R = (⟨⟨l, ou, st, nw, wa, ca, ai', tp, fr, kp, sq, tm, id, ba, ss, sT, si, sb⟩, q0, q1, q2, n0, n1, n2⟩, zMd, false) := Eq.trans hR (Eq.trans (nextK_6 d) rfl)
     simp (maxSteps := 400000) only [go_sem, m1, m2, m3, m4, v1, d, simprocAttr]
     rw [hR']
     refine CovS.frzN (l := []) (v' := nextV (⟨⟨l, ou, st, nw, wa, ca, ai', tp, fr, kp, sq, tm, id, ba, ss, sT, si, sb⟩, q0, q1, q2, n0, n1, n2⟩, zMd, false)) (FzV.tup ⟨FzV.refl, FzV.agg ⟨FzV.refl, FzV.refl, FzV.refl, FzV.refl, FzV.refl, FzV.hit, FzV.hit, FzV.refl, FzV.refl, trivial⟩, FzV.refl, trivial⟩) ?_
     exact CovS.ends (Ends.pureE (nextV_bel _) rfl)
   · have dd := of_decide_eq_true d
     have g0 : (n0 != 0) = true := bne_iff_ne.2 (by omega)
     have g1 : at_.tmod n0 = at_ % n0 := Int.tmod_eq_emod_of_nonneg (by omega)
     have g2 := Int.emod_nonneg at_ (b := n0) (by omega)
     have g3 := Int.emod_lt_of_pos at_ (b := n0) (by omega)
     have g4 : IntKind.i64.wrap (at_ % n0) = at_ % n0 := wrapL (by omega) (by omega)
     have f1 : decide (0 ≤ at_ % n0 ∧ at_ % n0 < (q0.length : Int)) = true := decide_eq_true (by omega)
     have he := elt (l := q0) (i := at_ % n0) (by omega) (by omega)
     have hR' : R = (⟨⟨l, ou, st, nw, wa, ca, ai', tp, fr, kp, sq, tm, id, ba, ss, sT, si, sb⟩, q0, q1, q2, n0, n1, n2⟩, q0.getD (at_ % n0).toNat zMd, true) := Eq.trans hR (Eq.trans (nextK_6 d) rfl)
     simp (maxSteps := 400000) only [go_sem, m1, m2, m3, m4, v1, d, g0, g1, g4, f1, he, hlM, htM, hoM, hSp, List.drop_zero, simprocAttr]
     rw [hR']
     exact CovS.ends (Ends.pureE (nextV_bel (⟨⟨l, ou, st, nw, wa, ca, ai', tp, fr, kp, sq, tm, id, ba, ss, sT, si, sb⟩, q0, q1, q2, n0, n1, n2⟩, q0.getD (at_ % n0).toNat zMd, true)) rfl)
 · have hR' : R = (⟨⟨l, ou, st, nw, wa, ca, ai', tp, fr, kp, sq, tm, id, ba, ss, sT, si, sb⟩, q0, q1, q2, n0, n1, n2⟩, zMd, false) := hR.trans rfl
   simp (maxSteps := 400000) only [go_sem, m1, m2, m3, m4, v1, simprocAttr]
   rw [hR']
   refine CovS.frzN (l := []) (v' := nextV (⟨⟨l, ou, st, nw, wa, ca, ai', tp, fr, kp, sq, tm, id, ba, ss, sT, si, sb⟩, q0, q1, q2, n0, n1, n2⟩, zMd, false)) (FzV.tup ⟨FzV.refl, FzV.agg ⟨FzV.refl, FzV.refl, FzV.refl, FzV.refl, FzV.refl, FzV.hit, FzV.hit, FzV.refl, FzV.refl, trivial⟩, FzV.refl, trivial⟩) ?_
   exact CovS.ends (Ends.pureE (nextV_bel _) rfl)
def plA (c : List AV) : Option Pl := (swA (c.take 18)).bind fun s => match c.drop 18 with
 | [.fz A a, .fz B b, .fz C c, .i .i64 x, .i .i64 y, .i .i64 z] => (unrows 9 md9 a A).bind fun q0 => (unrows 9 md9 b B).bind fun q1 => (unrows 9 md9 c C).bind fun q2 => some ⟨s, q0, q1, q2, x, y, z⟩
 | _ => none
theorem md9_r (p : Md) : md9 p.l = some p := md9_l p
theorem plA_a (p : Pl) : plA p.a = some p := by
 obtain ⟨s, q0, q1, q2, n0, n1, n2⟩ := p
 have h1 : List.take 18 (Pl.a ⟨s, q0, q1, q2, n0, n1, n2⟩) = s.a := rfl
 have h2 : List.drop 18 (Pl.a ⟨s, q0, q1, q2, n0, n1, n2⟩) = Pl.r ⟨s, q0, q1, q2, n0, n1, n2⟩ := rfl
 unfold plA
 rw [h1, h2, swA_a]
 simp only [Pl.r, unrows_rows Md.len md9_r, Option.bind_some]
theorem plA_eq {c : List AV} {p : Pl} (h : plA c = some p) : c = p.a := by
 unfold plA at h
 simp only [Option.bind_eq_some_iff] at h
 obtain ⟨s, hs, h⟩ := h
 split at h
 · rename_i A a B b C cc x y z hd
   simp only [Option.bind_eq_some_iff, Option.some.injEq] at h
   obtain ⟨q0, h0, q1, h1, q2, h2, rfl⟩ := h
   obtain ⟨rfl, e0⟩ := unrows_eq (f := Md.l) (fun c a h => md9_eq h) h0
   obtain ⟨rfl, e1⟩ := unrows_eq (f := Md.l) (fun c a h => md9_eq h) h1
   obtain ⟨rfl, e2⟩ := unrows_eq (f := Md.l) (fun c a h => md9_eq h) h2
   subst e0; subst e1; subst e2
   rw [take_split c 18, hd, swA_eq hs]; rfl
 · cases h
def k20 : Ct
 | [.agg c, .agg d], _, n => (plA c).bind fun p => (ac4 d).bind fun a => some (p.ok && a.ok, { v := nextV (nextS p a), n })
 | _, _, _ => none
theorem s20 : SoundAt Try.prog 20 k20 := fun args h n c E hc ht => by
 unfold k20 at hc
 split at hc
 · simp only [Option.bind_eq_some_iff, Option.some.injEq, Prod.mk.injEq] at hc
   obtain ⟨p, hp, a, ha, rfl, rfl⟩ := hc
   rw [plA_eq hp, ac4_eq _ _ ha]
   simp only [Bool.and_eq_true] at ht
   exact CallOK.pure (by kernel_rfl) (by simp only [belL, AV.bel, Pl.bel, Ac.bel, Bool.and_self]) (nextV_bel _) (w20 _ _ ht.1 ht.2) _ _
 · cases hc
/-! Wish -/
def wishS (a : Ac) : Int × Int := (a.la % 4 - 1, a.ai % 4)
theorem w25 (a : Ac) (ha : a.ok = true) : FTL Try.prog 25 [.agg a.l] [] 0 (.tup [.i .i64 (wishS a).1, .i .i64 (wishS a).2]) [] 0 := by
 simp only [Ac.ok, Bool.and_eq_true] at ha
 obtain ⟨-, -, a3, a4⟩ := ha
 have a3 := inI_t a3
 have a4 := inI_t a4
 obtain ⟨wh, at_, la, ai⟩ := a
 dsimp only at *
 have m1 : la.tmod 4 = la % 4 := Int.tmod_eq_emod_of_nonneg (by omega)
 have m2 : ai.tmod 4 = ai % 4 := Int.tmod_eq_emod_of_nonneg (by omega)
 have v1 : IntKind.i64.wrap (la % 4) = la % 4 := wrapL (by omega) (by omega)
 have v2 : IntKind.i64.wrap (ai % 4) = ai % 4 := wrapL (by omega) (by omega)
 have v3 : IntKind.i64.wrap (la % 4 - 1) = la % 4 - 1 := wrapL (by omega) (by omega)
 refine FTL.of_iw Sound.nil mo Try.func25 i25_eq (by simp [i25]) (iw_of_jw ?_)
 dsimp only [i25]
 simp only [Ac.l]
 simp (maxSteps := 400000) only [go_sem, m1, m2, v1, v2, v3, simprocAttr]
 exact Ends.pureE rfl rfl
def k25 : Ct
 | [.agg c], _, n => (ac4 c).bind fun a => some (a.ok, { v := .tup [.i .i64 (wishS a).1, .i .i64 (wishS a).2], n })
 | _, _, _ => none
theorem s25 : SoundAt Try.prog 25 k25 := fun args h n c E hc ht => by
 unfold k25 at hc
 split at hc
 · simp only [Option.bind_eq_some_iff, Option.some.injEq, Prod.mk.injEq] at hc
   obtain ⟨a, ha, rfl, rfl⟩ := hc
   rw [ac4_eq _ _ ha]
   exact CallOK.pure (by kernel_rfl) (by simp only [belL, AV.bel, Ac.bel, Bool.and_self]) rfl (w25 _ ht) _ _
 · cases hc
end Go.Proofs.Lys
end
section
/- Chapter 41: Draft.Switch. -/
namespace Go.Proofs.Lys
open Go.Ab
set_option maxRecDepth 100000
set_option maxHeartbeats 4000000
set_option linter.unusedSimpArgs false
set_option linter.unusedVariables false
def pkOK (p : Md) : Bool := p.fin && decide (p.pl.length ≤ 1000)
def stepP (p : Pl) (a : Ac) : Pl :=
 bif (nextS p a).2.2 then { (nextS p a).1 with s := (pushS (nextS p a).1.s (nextS p a).2.1).1 }
 else bif a.wh % 8 == 7 then { (nextS p a).1 with s := (wantS (nextS p a).1.s (wishS a).1 (wishS a).2).1 } else (nextS p a).1
def plN (p0 : Pl) (ac : List Ac) : Nat → Pl
 | 0 => p0
 | i + 1 => match ac[i]? with
  | some a => stepP (plN p0 ac i) a
  | none => plN p0 ac i
structure PlI (p : Pl) : Prop where
 ok : p.ok = true
 l : p.s.l.length ≤ 3
 q0 : p.q0.all pkOK = true
 q1 : p.q1.all pkOK = true
 q2 : p.q2.all pkOK = true
theorem zMd_ok : pkOK zMd = true := rfl
theorem getD_ok {l : List Md} (h : l.all pkOK = true) (i : Nat) : pkOK (l.getD i zMd) = true := by
 rw [List.getD_eq_getElem?_getD]
 cases hx : l[i]? with
 | none => exact zMd_ok
 | some x => exact List.all_eq_true.1 h x (List.mem_of_getElem? hx)
theorem PlI.q {p : Pl} (h : PlI p) (k : Int) : (p.q k).all pkOK = true := by
 unfold Pl.q
 cases (k == 0)
 · cases (k == 1)
   · exact h.q2
   · exact h.q1
 · exact h.q0
theorem PlI.up {p : Pl} (h : PlI p) (k : Int) (hl : p.n k < ((p.q k).length : Int)) : PlI (p.up k) := by
 have ho := h.ok
 simp only [Pl.ok, inI, Bool.and_eq_true, decide_eq_true_eq] at ho
 unfold Pl.up
 unfold Pl.n Pl.q at hl
 cases a : (k == 0)
 · rw [a] at hl
   cases b : (k == 1)
   · rw [b] at hl
     refine ⟨?_, h.l, h.q0, h.q1, h.q2⟩
     simp only [cond_false] at hl
     simp only [cond_false, Pl.ok, inI, Bool.and_eq_true, decide_eq_true_eq]
     omega
   · rw [b] at hl
     refine ⟨?_, h.l, h.q0, h.q1, h.q2⟩
     simp only [cond_false, cond_true] at hl
     simp only [cond_false, cond_true, Pl.ok, inI, Bool.and_eq_true, decide_eq_true_eq]
     omega
 · rw [a] at hl
   refine ⟨?_, h.l, h.q0, h.q1, h.q2⟩
   simp only [cond_true] at hl
   simp only [cond_true, Pl.ok, inI, Bool.and_eq_true, decide_eq_true_eq]
   omega
theorem PlI.next {p : Pl} (h : PlI p) (a : Ac) : PlI (nextS p a).1 ∧ pkOK (nextS p a).2.1 = true := by
 unfold nextS nextK
 cases h1 : (a.wh % 8 == 6 && decide (p.n (a.wh % 8 % 3) > 0))
 · cases h2 : (decide (a.wh % 8 < 6) && decide (p.n (a.wh % 8 % 3) < ((p.q (a.wh % 8 % 3)).length : Int)))
   · exact ⟨h, zMd_ok⟩
   · simp only [Bool.and_eq_true, decide_eq_true_eq] at h2
     exact ⟨h.up _ h2.2, getD_ok (h.q _) _⟩
 · exact ⟨h, getD_ok (h.q _) _⟩
theorem toldL_l (s : Sw) (k : Int) (p : Md) (x : Sh) : (toldL s k p x).1.l = s.l := by
 have h1 : (takeS s k p x).l = s.l := by unfold takeS; cases takeB s k x <;> rfl
 unfold toldL
 cases advB (takeS s k p x) k p
 · exact h1
 · have h2 : ∀ s : Sw, (advS s k p).l = s.l := fun s => by unfold advS; cases advB s k p <;> rfl
   have h3 : ∀ s : Sw, (frameS s x).l = s.l := fun s => by unfold frameS; cases (x.id == s.fr) <;> rfl
   have h4 : ∀ s : Sw, (dropS s x).l = s.l := fun s => by unfold dropS; cases dropB s x <;> rfl
   cases dropB (frameS (advS (takeS s k p x) k p) x) x
   · show (sendS _ p x).l = _
     simp only [sendS, h3, h2, h1]
   · show (dropS _ x).l = _
     simp only [h4, h3, h2, h1]
theorem pushS_l {s : Sw} {p : Md} (h : s.l.length ≤ 3) : (pushS s p).1.l.length ≤ 3 := by
 unfold pushS
 cases goodW s
 · exact Nat.zero_le _
 cases mdB p
 · exact Nat.zero_le _
 cases decide (ixS s.l p.ss < 0)
 · cases ((dec p.pl).2.2 == 0)
   · exact Nat.zero_le _
   · simp only [cond_true, cond_false, toldL_l]; exact h
 · exact Nat.zero_le _
theorem wantS_l {s : Sw} {la ai : Int} (h : s.l.length ≤ 3) : (wantS s la ai).1.l.length ≤ 3 := by
 unfold wantS
 cases goodW s
 · exact Nat.zero_le _
 cases (inI (-1) ((s.l.length : Int) - 1) la && inI 0 3 ai)
 · exact Nat.zero_le _
 cases decide (la < 0)
 · exact h
 · exact h
theorem PlI.sw {p : Pl} (h : PlI p) {s : Sw} (hs : s.l.length ≤ 3) : PlI { p with s } := ⟨h.ok, hs, h.q0, h.q1, h.q2⟩
theorem PlI.step {p : Pl} (h : PlI p) (a : Ac) : PlI (stepP p a) := by
 have hn := h.next a
 unfold stepP
 cases (nextS p a).2.2
 · cases (a.wh % 8 == 7)
   · exact hn.1
   · exact hn.1.sw (wantS_l hn.1.l)
 · exact hn.1.sw (pushS_l hn.1.l)
theorem PlI.N {p : Pl} (h : PlI p) (ac : List Ac) : ∀ i, PlI (plN p ac i)
 | 0 => h
 | i + 1 => by
  have ih := PlI.N h ac i
  unfold plN
  split
  · exact ih.step _
  · exact ih
theorem filmS_ok (f : Fl) (ss : Int) : ∀ i, (fSt f ss i).q.all pkOK = true
 | 0 => rfl
 | i + 1 => by
  have ih := filmS_ok f ss i
  simp only [fSt, fNx, inF, List.all_append, Bool.and_eq_true] at ih ⊢
  exact ⟨ih, mapN_all (fun j => rfl) _⟩
theorem newS_l (l : List Int) (ou st a b c d : Int) (h : l.length ≤ 3) : (newS l ou st a b c d).1.l.length ≤ 3 := by
 unfold newS
 cases goodW ⟨l, ou, st, -1, -1, 0, 0, 0, 0, false, 0, 0, 0, 0, a, b, c, d⟩
 · exact Nat.zero_le _
 · exact h
theorem film_len {f : Fl} (hf : f.ok = true) (ss : Int) : (filmS f ss).length ≤ 72 := by
 have := (fSt_rng hf ss (min (f.pc.length + 1) 24)).2.2
 unfold filmS; omega
theorem beginS_i {d : Dr} (hd : d.ok = true) : PlI (beginS d) := by
 simp only [Dr.ok, Bool.and_eq_true] at hd
 obtain ⟨o0, o1, o2, -⟩ := hd
 have h0 := film_len o0 10
 have h1 := film_len o1 20
 have h2 := film_len o2 30
 refine ⟨?_, newS_l _ _ _ _ _ _ _ (by decide), filmS_ok _ _ _, filmS_ok _ _ _, filmS_ok _ _ _⟩
 have e : ∀ n : Nat, inI 0 n 0 = true := fun n => by simp only [inI, Bool.and_eq_true, decide_eq_true_eq]; omega
 simp only [beginS, Pl.ok, e, Bool.and_eq_true]
 exact ⟨⟨trivial, decide_eq_true (by omega)⟩, ⟨trivial, decide_eq_true (by omega)⟩, trivial, decide_eq_true (by omega)⟩
theorem pushC_of {s : Sw} {p : Md} (hs : s.l.length ≤ 3) (hp : pkOK p = true) : pushC s p = true := by
 simp only [pkOK, Bool.and_eq_true, decide_eq_true_eq] at hp
 simp only [pushC, Bool.and_eq_true, decide_eq_true_eq]
 exact ⟨by omega, hp.1, by omega⟩
theorem Pl.len (p : Pl) : p.a.length = 24 := rfl
theorem Pl.t24 (p : Pl) : List.take 24 p.a = p.a := List.take_of_length_le (by rw [Pl.len]; omega)
theorem Pl.t18 (p : Pl) : List.take 18 p.a = p.s.a := rfl
theorem Pl.d18 (p : Pl) : List.drop 18 p.a = p.r := rfl
theorem Pl.d24 (p : Pl) : List.drop 24 p.a = [] := List.drop_of_length_le (by rw [Pl.len]; omega)
theorem Pl.one (p : Pl) : oneAll p.a = true := rfl
theorem Sw.one (s : Sw) : oneAll s.a = true := rfl
theorem Sw.len (s : Sw) : s.a.length = 18 := rfl
theorem Sw.t18 (s : Sw) : List.take 18 s.a = s.a := List.take_of_length_le (by rw [Sw.len]; omega)
end Go.Proofs.Lys
end
