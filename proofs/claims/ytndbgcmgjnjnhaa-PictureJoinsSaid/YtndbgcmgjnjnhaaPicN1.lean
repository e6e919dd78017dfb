/- The contract of a frame's packets, told as a value. -/
import Derived.Test.YtndbgcmgjnjnhaaPicM6
import Derived.Test.YtndbgcmgjnjnhaaAbRpt
import Derived.Test.YtndbgcmgjnjnhaaAbWka
import Derived.Test.YtndbgcmgjnjnhaaPicIRJ
namespace Go.Proofs.Pic
open Go.Ab
set_option maxRecDepth 100000
set_option maxHeartbeats 4000000
set_option linter.unusedSimpArgs false
set_option linter.unusedVariables false
theorem gM_cap (q : List Md) : (gQ Md.l 9 q).capOK := by unfold gQ; split <;> trivial
theorem w31f (f i b t s : Int) (fm : Md) (ps : List (List UInt8)) (hg : (draftS f i b t s).good = true) (hsq : 0 ≤ fm.sq ∧ fm.sq ≤ 65535) :
 FTL Try.prog 31 [.agg [.i .u8 f, .i .u16 i, .i .u8 b, .i .u8 t, .i .u8 s], .agg fm.l, .fz (rows strR ps) ps.length] [] 0 (.fz (rows Md.l (packets (draftS f i b t s) fm ps)) (packets (draftS f i b t s) fm ps).length) [] 0 := by
 refine FTL.of_cov hTM6 mo Try.func31 i31_eq (by simp [i31]) (iw_of_jw ?_)
 dsimp only [i31, TM6]
 have hd : ∀ f i b t s, k12 [.agg [.i .u8 f, .i .u16 i, .i .u8 b, .i .u8 t, .i .u8 s]] = fun (h : Hp) (n : Nat) => some (true, ({ v := .agg (draftS f i b t s).l, n } : Eff)) := fun f i b t s => rfl
 have hx : ∀ (h : Hp) n, k12 [.agg [.i .u8 f, .i .u16 i, .i .u8 b, .i .u8 t, .i .u8 s]] h n = some (true, { v := .agg (draftS f i b t s).l, n }) := fun h n => rfl
 generalize draftS f i b t s = S at hg hx ⊢
 have hFb : belL 3 fm.l = true := belL_mono0 _ fm.bel
 have hsh : ∀ a c, (Sh.mk a S.ky S.sy c S.id S.ba S.te S.sp).good = true := good_any hg
 have hen : ∀ a c (x : List UInt8), decide ((Sh.mk a S.ky S.sy c S.id S.ba S.te S.sp).enc.length + (List.take 20 x).length ≤ 9223372036854775807) = true := fun a c x => decide_eq_true (by
  have : (Sh.mk a S.ky S.sy c S.id S.ba S.te S.sp).enc.length = 5 := rfl
  rw [this, List.length_take]; omega)
 have hCr : ∀ ψ, renL ψ (rows int1 fm.cs) = rows int1 fm.cs := fun ψ => renL_fix0 _ (rows_bel int1_bel)
 have hXr : ∀ ψ, renL ψ (rows xtR fm.xs) = rows xtR fm.xs := fun ψ => renL_fix0 _ (rows_bel xtR_bel)
 have hCb : belL 3 (rows int1 fm.cs) = true := belL_mono0 _ (rows_bel int1_bel)
 have hXb : belL 3 (rows xtR fm.xs) = true := belL_mono0 _ (rows_bel xtR_bel)
 have s0 : IntKind.i64.wrap (fm.sq + 0) = fm.sq := by rw [Int.add_zero]; exact wrapL (by omega) (by omega)
 have s1 : IntKind.i64.wrap fm.sq = fm.sq := wrapL (by omega) (by omega)
 have s2 : fm.sq.tmod 65536 = fm.sq % 65536 := Int.tmod_eq_emod_of_nonneg hsq.1
 have s3 : IntKind.i64.wrap (fm.sq % 65536) = fm.sq % 65536 := wrapL (by omega) (by omega)
 by_cases hps : ps = []
 · subst hps
   have mm : min (0 : Int) 8 = 0 := by decide
   have mm2 : min (0 : Int) 20 = 0 := by decide
   have gp : rows Md.l (packets S fm []) = (pkM S fm [[]] 1 0).l := List.append_nil _
   have gp1 : (packets S fm []).length = 1 := rfl
   rw [gp, gp1]
   have gl : (pkM S fm [[]] 1 0).l = [.b true, .i .i64 fm.ty, .i .i64 (fm.sq % 65536), .i .i64 fm.tm, .i .i64 fm.ss, .fz (rows int1 fm.cs) fm.cs.length, .fz (rows xtR fm.xs) fm.xs.length, .i .i64 fm.pd, .s ((Sh.mk true S.ky S.sy true S.id S.ba S.te S.sp).enc ++ [])] := by
    simp [pkM, Md.l]
   rw [gl]
   have h20 : decide ((Sh.mk true S.ky S.sy true S.id S.ba S.te S.sp).enc.length ≤ 9223372036854775807) = true := by
    have : (Sh.mk true S.ky S.sy true S.id S.ba S.te S.sp).enc.length = 5 := rfl
    rw [this]; rfl
   simp (maxSteps := 400000) only [go_sem, Md.l, rows_nil, mm, simprocAttr]
   refine Loop.rounds (F := ⟨Try.prog, cxT TM6, [18, 23], 67, 0⟩) 2 hTM6 mo ?_
   dsimp only [TM6]
   simp (maxSteps := 400000) only [go_sem, hx, k45, Sh.l, hsh, s0, s1, s2, s3, mm, mm2, growMax, h20, simprocAttr]
   refine CovS.frz (b := 6) (h' := []) (o := 0) (m := 1) rfl rfl (.inr rfl) (.inl rfl) FzV.hit (fun c kk hc => by simp [hget] at hc) ?_
   exact CovS.ends (Ends.pureE (by simp only [AV.bel, belL, rows_bel int1_bel, rows_bel xtR_bel, List.drop_zero, Bool.and_self]) rfl)
 · obtain ⟨m, hm⟩ : ∃ m, m = min ps.length 8 := ⟨_, rfl⟩
   have hpl : 0 < ps.length := List.length_pos_iff.2 hps
   have hm1 : min (ps.length : Int) 8 = (m : Int) := by omega
   have c0 : decide (0 ≤ (m : Int) ∧ (m : Int) ≤ (ps.length : Int)) = true := decide_eq_true (by omega)
   have cz : ((m : Int) == 0) = false := by simp; omega
   have hpo : partsOf ps = ps.take 8 := if_neg hps
   have hpm : (partsOf ps).length = m := by rw [hpo, List.length_take]; omega
   have hpk : packets S fm ps = mapN (pkM S fm (partsOf ps) m) m := by rw [packets, hpm]
   have hget : ∀ k, k < m → (rows strR ps)[k * 1]? = some (.s ((partsOf ps).getD k [])) := fun k hk => by
    have hk' : k < ps.length := by omega
    have h1 := rows_get (f := strR) (z := 1) (j := 0) (v := .s ps[k]) strR_len (List.getElem?_eq_getElem hk') rfl
    rw [Nat.add_zero] at h1
    rw [h1, hpo, List.getD_eq_getElem?_getD, List.getElem?_take, if_pos (by omega), List.getElem?_eq_getElem hk']
    rfl
   have hLb : belL 3 (rows strR ps) = true := belL_mono0 _ (rows_bel strR_bel)
   have hLr : ∀ ψ, renL ψ (rows strR ps) = rows strR ps := fun ψ => renL_fix0 _ (rows_bel strR_bel)
   generalize rows strR ps = L at hget hLb hLr ⊢
   rw [hpk]
   generalize hG : pkM S fm (partsOf ps) m = G
   have qm := gQ_is (f := Md.l) Md.bel Md.len (mapN G m)
   have pr : ∀ k, (gQ Md.l 9 (mapN G k)).plain = true := fun k => (gQ_is (f := Md.l) Md.bel Md.len (mapN G k)).pl
   simp (maxSteps := 400000) only [go_sem, Md.l, hm1, c0, cz, simprocAttr]
   refine Loop.stepR (F := ⟨Try.prog, cxT TM6, [18, 23], 67, 0⟩) hTM6 mo (X := Nat) (fun k => k ≤ m) (fun k => m - k)
    (fun k => [(2, .fz L m), (3, .p 0 0), (4, .p 1 0), (7, (gQ Md.l 9 (mapN G k)).v 2), (8, .i .i64 (k : Int))])
    (fun k => (gQ Md.l 9 (mapN G k)).h 2 ++ [(1, { cells := fm.l }), (0, { cells := [.i .u8 f, .i .u16 i, .i .u8 b, .i .u8 t, .i .u8 s] })]) 3 0 (fun k => k + 1) [] (fun _ => [(2, 6)]) (by decide) (by decide) (fun _ => by decide) (Nat.zero_le _) ?_ ?_ (fun k hk => ?_)
   · have h1 : gQ Md.l 9 (mapN G 0) = .nil := rfl
     simp (maxSteps := 400000) only [go_sem, h1, AV.ren, renL, AV.bel, belL, nblt, hLb, hLr, simprocAttr]
   · have h1 : gQ Md.l 9 (mapN G 0) = .nil := rfl
     simp (maxSteps := 400000) only [go_sem, h1, Md.l, AV.bel, belL, nblt, Blk.ren, renL, AV.ren, hFb, hCr, hXr, hCb, hXb, simprocAttr]
   · dsimp only [TM6]
     by_cases hlt : k < m
     · have c1 : decide ((k : Int) < (m : Int)) = true := decide_eq_true (by omega)
       have c2 : decide (0 ≤ (k : Int) ∧ (k : Int) < (m : Int)) = true := decide_eq_true (by omega)
       have hw : IntKind.i64.wrap ((k : Int) + 1) = ((k + 1 : Nat) : Int) := by rw [wrapL (by omega) (by omega)]; omega
       have hwn : IntKind.i64.wrap ((m : Int) - 1) = (m : Int) - 1 := wrapL (by omega) (by omega)
       have hsk : m - (k + 1) < m - k := by omega
       have t1 : IntKind.i64.wrap (fm.sq + (k : Int)) = fm.sq + (k : Int) := wrapL (by omega) (by omega)
       have t2 : (fm.sq + (k : Int)).tmod 65536 = (fm.sq + (k : Int)) % 65536 := Int.tmod_eq_emod_of_nonneg (by omega)
       have t3 : IntKind.i64.wrap ((fm.sq + (k : Int)) % 65536) = (fm.sq + (k : Int)) % 65536 := wrapL (by omega) (by omega)
       have lx := hget k hlt
       rw [Nat.mul_one] at lx
       have gm : decide (112 * (k + 1) ≤ growMax) = true := decide_eq_true (by simp only [growMax]; omega)
       have zL : (mapN G k).length = k := mapN_len k
       have zR : (rows Md.l (mapN G k)).length = k * 9 := by rw [rows_len Md.len, zL]
       have pQ' := pr (k + 1)
       have pk := pr k
       have gk : G k = ⟨((k : Int) == (m : Int) - 1), fm.ty, (fm.sq + (k : Int)) % 65536, fm.tm, fm.ss, fm.cs, fm.xs, fm.pd,
        (Sh.mk ((k : Int) == 0) S.ky S.sy ((k : Int) == (m : Int) - 1) S.id S.ba S.te S.sp).enc ++ ((partsOf ps).getD k []).take 20⟩ := by rw [← hG]; rfl
       rw [mapN_s, gQ_snoc, gk] at pQ' ⊢
       simp only [Md.l] at pQ'
       generalize (partsOf ps).getD k [] = part at *
       generalize mapN G k = ml at *
       simp (maxSteps := 400000) only [go_sem, c1, c2, hw, hwn, hx, k45, Sh.l, hsh, t1, t2, t3, lx, tk20, ck20, hen, gm, zL, zR, Md.l, hlt, hsk, pQ', pk, AV.bel, belL, nblt, Blk.ren, renL, AV.ren, hFb, hCr, hXr, hCb, hXb, hLb, hLr, Nat.mul_one, simprocAttr]
       omega
     · have c1 : decide ((k : Int) < (m : Int)) = false := decide_eq_false (by omega)
       obtain rfl : k = m := by omega
       have pk := pr k
       simp (maxSteps := 400000) only [go_sem, c1, simprocAttr]
       have e9 := mapN_len (g := G) k
       refine CovS.frzS (h' := []) (v' := .fz (rows Md.l (mapN G k)) (mapN G k).length) (gQ_is (f := Md.l) Md.bel Md.len (mapN G k)) (gQ_fresh _) (gM_cap _) (b := 2) (by rw [hasS_hit]; trivial) FzV.hit (fun c kk hc => by cases hc) ?_
       exact CovS.ends (Ends.pureE (by simp only [AV.bel, rows_bel Md.bel]) rfl)
theorem hrM (n : Nat) (l : List Md) : belL n (rows Md.l l) = true := belL_mono0 _ (rows_bel Md.bel)
theorem Md.one (p : Md) : oneAll p.l = true := rfl
def k31f : Ct
 | [.agg [.i .u8 f, .i .u16 i, .i .u8 b, .i .u8 t, .i .u8 s], .agg l, .fz C c], _, n => (md9 l).bind fun fm => (unrows 1 strV c C).bind fun ps =>
  some ((draftS f i b t s).good && inZ 0 65535 fm.sq, { v := .fz (rows Md.l (packets (draftS f i b t s) fm ps)) (packets (draftS f i b t s) fm ps).length, n })
 | _, _, _ => none
theorem s31f : SoundAt Try.prog 31 k31f := fun args h n c E hc ht => by
 unfold k31f at hc
 split at hc
 · rename_i f i b t s l C cl
   simp only [Option.bind_eq_some_iff] at hc
   obtain ⟨fm, hfm, ps, hps, he⟩ := hc
   cases he
   simp only [Bool.and_eq_true, decide_eq_true_eq, inZ_iff] at ht
   obtain ⟨hg, hsq⟩ := ht
   obtain ⟨rfl, hlm⟩ := unrows_eq (f := strR) strV_eq hps
   subst hlm
   rw [md9_eq hfm]
   exact CallOK.pure (by kernel_rfl) (by simp only [belL, AV.bel, fm.bel, rows_bel strR_bel, Bool.and_self]) (by simp only [AV.bel, hrM]) (w31f f i b t s fm ps hg hsq) _ _
 · cases hc
/-! Clone, Delete, Insert, Repeat -/
abbrev zsM : List AV := [.b false, .i .i64 0, .i .i64 0, .i .i64 0, .i .i64 0, .ns, .ns, .i .i64 0, .s []]
theorem w38 (l : List Md) (h0 : 0 < l.length) (hl : l.length ≤ 1000000) : FTL Try.prog 38 [.fz (rows Md.l l) l.length] [] 0 (.sg 0 0 l.length) [(0, { cells := rows Md.l l, gr := some 9 })] 1 := by
 refine FTL.of_iw (cx := cxT []) Sound.nil mo Try.func38 i38_eq (by simp [i38]) (iw_of_jw ?_)
 dsimp only [i38]
 obtain ⟨m, hm⟩ : ∃ m, l.length = m + 1 := ⟨l.length - 1, by omega⟩
 have hL : (rows Md.l l).length = l.length * 9 := rows_len Md.len
 have h1 : List.take ((m + 1) * 9) (rows Md.l l) = rows Md.l l := List.take_of_length_le (by omega)
 have h2 : decide (112 * (m + 1) ≤ growMax) = true := decide_eq_true (by simp only [growMax]; omega)
 have hone := rows_one1 Md.one l
 rw [hm] at hL ⊢
 simp (maxSteps := 400000) only [go_sem, h1, h2, hL, hone, List.drop_zero, simprocAttr]
 exact Ends.R [(0, 1)] (by decide) (by decide) rfl rfl (by simp only [HpR, hget, rn, Blk.ren, renL_fix0 _ (rows_bel Md.bel), hrM, AV.ren, belL, AV.bel]; simp)
def k38 : Ct
 | [.fz L m], _, n => (unrows 9 md9 m L).bind fun l => some (decide (0 < l.length) && decide (l.length ≤ 1000000), { v := .sg n 0 m, n := n + 1, nw := [(n, { cells := L, gr := some 9 })] })
 | _, _, _ => none
theorem s38 : SoundAt Try.prog 38 k38 := fun args h n c E hc ht => by
 unfold k38 at hc
 split at hc
 · rename_i L m
   simp only [Option.bind_eq_some_iff] at hc
   obtain ⟨l, hl, hc⟩ := hc
   obtain ⟨rfl, hm⟩ := unrows_eq (f := Md.l) md9_eq' hl
   subst hm
   cases hc
   simp only [Bool.and_eq_true, decide_eq_true_eq] at ht
   have := CallOK.new1 (h := h) (n := n) (by kernel_rfl) (by simp only [belL, AV.bel, hrM, Bool.and_self]) (hrM 0 l) rfl (w38 l ht.1 ht.2)
   simpa [AV.ren] using this
 · cases hc
theorem i40_gen : compF Try.prog Try.f40 = some (dltI 9 112 zsM) := i40_eq
def k40 : Ct
 | [x, .i .i64 i, .i .i64 j], h, n => (gvK h 9 x).bind fun g => (unrows 9 md9 g.2.1 g.2.2.1).bind fun l =>
  some (g.2.2.2 && (decide (0 ≤ i ∧ i.toNat < l.length) && (decide (j = i + 1) && decide (l.length ≤ 1000000))), { v := .fz (rows Md.l (l.take i.toNat ++ l.drop (i.toNat + 1))) (l.length - 1), n, rd := [g.1], md := dels [g.1] })
 | _, _, _ => none
theorem s40 : SoundAt Try.prog 40 k40 := fun args h n c E hc ht => by
 unfold k40 at hc
 split at hc
 · rename_i x i j
   simp only [Option.bind_eq_some_iff, Option.some.injEq, Prod.mk.injEq] at hc
   obtain ⟨⟨b', q', cs', ok'⟩, hg, l, hl, hok, rfl⟩ := hc
   dsimp only at hl hok
   rw [ht] at hok
   simp only [Bool.and_eq_true, decide_eq_true_eq] at hok
   obtain ⟨rfl, hi, rfl, h1⟩ := hok
   obtain ⟨rfl, rfl⟩ := unrows_eq (f := Md.l) md9_eq' hl
   refine CallOK.giveG (by kernel_rfl) hg (hrM _ _) (postF := [.i .i64 i, .i .i64 (i + 1)]) ⟨VwV.same rfl, VwV.same rfl, trivial⟩ rfl (by decide) (by simp only [AV.bel, hrM]) rfl (fun p c hpc => ?_)
   have := dlt_sl (P := Try.prog) (row := Md.l) mo Try.func40 i40_gen Md.len (by decide) rfl rfl Md.bel Md.one l i.toNat p c hi.2 hpc (by omega)
   rwa [Int.toNat_of_nonneg hi.1] at this
 · cases hc
theorem i41_gen : compF Try.prog Try.f41 = some (insI 9 112 zsM 63 64) := i41_eq
theorem s63 : SoundAt Try.prog 63 ovlK := ovl_ok (by decide) Try.func63 (by kernel_rfl) (by kernel_rfl) (by kernel_rfl) (by kernel_rfl) (by kernel_rfl)
def k41 : Ct
 | [x, .i .i64 i, y], h, n => vwK h 9 y fun rd m cs ok => (unrows 9 md9 m cs).bind fun xs => (gvK h 9 x).bind fun g => (unrows 9 md9 g.2.1 g.2.2.1).bind fun l =>
  some (ok && (wrt h rd && (g.2.2.2 && (!(inl rd g.1) && (decide (0 ≤ i ∧ i.toNat ≤ l.length) && (decide (0 < xs.length) && decide (l.length + xs.length ≤ 1000000)))))), { v := .fz (rows Md.l (Go.Ab.insL l xs i.toNat)) (l.length + xs.length), n, rd := g.1 :: rd, md := dels (g.1 :: rd) })
 | _, _, _ => none
theorem s41 : SoundAt Try.prog 41 k41 := fun args h n c E hc ht => by
 unfold k41 at hc
 split at hc
 · rename_i x i y
   rw [vwK_eq] at hc
   simp only [Option.bind_eq_some_iff, Option.some.injEq, Prod.mk.injEq] at hc
   obtain ⟨⟨rd, m, cs, ok⟩, hv, xs, hx, ⟨b', q', cs', ok'⟩, hg, l, hl, hok, rfl⟩ := hc
   dsimp only at hx hok
   rw [ht] at hok
   simp only [Bool.and_eq_true, decide_eq_true_eq, Bool.not_eq_true'] at hok
   obtain ⟨rfl, hw, rfl, hbr, hi, h0, h1⟩ := hok
   obtain ⟨rfl, rfl⟩ := unrows_eq (f := Md.l) md9_eq' hx
   dsimp only at hl hbr
   obtain ⟨rfl, rfl⟩ := unrows_eq (f := Md.l) md9_eq' hl
   dsimp only at hw ⊢
   refine CallOK.giveG (by kernel_rfl) hg (hrM _ _) (postF := [.i .i64 i, .fz (rows Md.l xs) xs.length]) ⟨VwV.same rfl, vwK_sub hv (hrM _ _) (fun b h => h), trivial⟩ hbr (by decide) (by simp only [AV.bel, hrM]) hw (fun p c hpc => ?_)
   have := ins_sl (P := Try.prog) (row := Md.l) mo Try.func41 i41_gen s63 Md.len (by decide) rfl Md.bel Md.one l xs i.toNat p c hi.2 hpc h0 (by simp only [growMax]; omega) (by omega)
   rwa [Int.toNat_of_nonneg hi.1] at this
 · cases hc
theorem i75_gen : compF Try.prog Try.f75 = some mul64I := by kernel_rfl
theorem i56_gen : compF Try.prog Try.f56 = some (mulI 74 75) := by kernel_rfl
theorem s56 : SoundAt Try.prog 56 mulK := s_mul mo (by kernel_rfl) Try.func56 i56_gen (s_mul64 mo (by kernel_rfl) Try.func75 i75_gen)
theorem i42_gen : compF Try.prog Try.f42 = some (rptI 9 112 zsM 9 56) := i42_eq
def k42 : Ct
 | [.fz L 1, .i .i64 k], _, n => (md9 (L.take 9)).bind fun a => some (decide (belL 0 L = true) && decide (0 ≤ k ∧ k ≤ 255), { v := .fz (rows Md.l (List.replicate k.toNat a)) k.toNat, n })
 | _, _, _ => none
theorem s42 : SoundAt Try.prog 42 k42 := fun args h n c E hc ht => by
 unfold k42 at hc
 split at hc
 · rename_i L k
   simp only [Option.bind_eq_some_iff] at hc
   obtain ⟨a, ha, hc⟩ := hc
   cases hc
   simp only [Bool.and_eq_true, decide_eq_true_eq] at ht
   obtain ⟨hb, hk⟩ := ht
   have := rpt_one (P := Try.prog) (row := Md.l) mo Try.func42 i42_gen s56 Md.len rfl Md.bel Md.one rfl a k.toNat (by omega) (by omega)
   rw [Int.toNat_of_nonneg hk.1, ← md9_eq ha] at this
   exact CallOK.pure (by kernel_rfl) (by simp only [belL, AV.bel, hb, Bool.and_self]) (by simp only [AV.bel, hrM]) (FTL.wkaH (Wka.take L 9 1) this) _ _
 · cases hc
end Go.Proofs.Pic
