/- The walk of PictureWhole. -/
import Derived.Test.YtndbgcmgjnjnhaaPicM7
namespace Go.Proofs.Pic
open Go.Ab
set_option maxRecDepth 100000
set_option maxHeartbeats 8000000
set_option linter.unusedSimpArgs false
set_option linter.unusedVariables false

def TL9 : List (Nat × Ct) := [(18, k18), (32, k32), (31, k31), (33, k33), (12, k12)]
theorem hTL9 : Sound Try.prog (cxT TL9) := Sound.cons s18 (Sound.cons s32 (Sound.cons s31 (Sound.cons s33 (Sound.cons s12 Sound.nil))))
noncomputable abbrev F9 : Fx := ⟨Try.prog, cxT TL9, [24, 46, 69, 85, 91, 108, 111], 138, 0⟩
theorem catN_len {g : Nat → List UInt8} (h : ∀ j, (g j).length ≤ 20) : ∀ k, (catN g k).length ≤ 20 * k
  | 0 => by simp [catN]
  | k + 1 => by simp only [catN, List.length_append]; have := h k; have := catN_len h k; omega
theorem catN_eq {g g' : Nat → List UInt8} : ∀ {k : Nat}, (∀ j, j < k → g j = g' j) → catN g k = catN g' k
  | 0, _ => rfl
  | k + 1, h => by simp only [catN]; rw [catN_eq (fun j hj => h j (by omega)), h k (by omega)]
theorem cat_parts (ps : List (List UInt8)) : catN (fun j => ((partsOf ps).getD j []).take 20) (partsOf ps).length = catN (fun j => (ps.getD j []).take 20) (min ps.length 8) := by
  unfold partsOf
  split
  · rename_i h; subst h; rfl
  · rw [List.length_take, Nat.min_comm]
    refine catN_eq (fun j hj => ?_)
    rw [List.getD_eq_getElem?_getD, List.getElem?_take, if_pos (by omega), ← List.getD_eq_getElem?_getD]
theorem gQ_sg {l : List Md} (h : l ≠ []) : gQ Md.l 9 l = .sg { cells := rows Md.l l, gr := some 9 } 0 l.length := by
  unfold gQ; rw [if_neg]; exact fun e => h (List.eq_nil_of_length_eq_zero e)
theorem body9 (f i b t s : Int) (dm : Dm) (ps : List (List UInt8)) (a0 a1 : Int) (hd : dm.okB = true) (hg : (draftS f i b t s).good = true) (ha0 : 0 ≤ a0 ∧ a0 ≤ 255) (ha1 : 0 ≤ a1 ∧ a1 ≤ 255) :
    FTL Try.prog 9 [.agg [.i .u8 f, .i .u16 i, .i .u8 b, .i .u8 t, .i .u8 s], .agg dm.l, .fz (rows strR ps) ps.length, .agg [.i .u8 a0, .i .u8 a1]] [] 0 (.b true) [] 0 := by
  refine FTL.of_iw hTL9 mo Try.func9 i9_eq (by simp [i9]) (iw_of_jw ?_)
  dsimp only [i9, TL9]
  obtain ⟨hv, hfin⟩ := Dm.md_ok (Dm.ok_of hd)
  have hsq : 0 ≤ dm.md.sq ∧ dm.md.sq ≤ 65535 := (Dm.ok_of hd).sq
  have hsqz : inZ 0 65535 dm.md.sq = true := inZ_iff.2 hsq
  have h32 : ∀ (h : Hp) n, k32 [.agg [.b dm.ma, .i .u8 dm.ty, .i .u16 dm.sq, .i .u32 dm.tm, .i .u32 dm.ss, .fz (rows u32R dm.cs) dm.cs.length, .fz (rows pcR dm.xs) dm.xs.length, .i .u8 dm.pd, .s dm.pl]] h n = some (dm.okB, { v := .agg dm.md.l, n }) := fun h n => by
    show k32 [.agg dm.l] h n = _
    simp only [k32, dm9_l, Option.bind_some]
  have hdl := dm.bel
  generalize hFM : dm.md = fm at *
  obtain ⟨pl, hpl⟩ : ∃ pl, pl = packets (draftS f i b t s) fm ps := ⟨_, rfl⟩
  have hus : unrows 1 strV ps.length (rows strR ps) = some ps := unrows_rows strR_len (fun _ => rfl) ps
  have h31 : ∀ (h : Hp) n, k31 [.agg [.i .u8 f, .i .u16 i, .i .u8 b, .i .u8 t, .i .u8 s], .agg fm.l, .fz (rows strR ps) ps.length] h n = some (true, { v := (gQ Md.l 9 pl).v n, n := n + 1, nw := (gQ Md.l 9 pl).h n }) := fun h n => by
    simp only [k31, md9_l, hus, Option.bind_some, hg, hsqz, Bool.and_self, hpl]
  have h12 : ∀ (h : Hp) n, k12 [.agg [.i .u8 f, .i .u16 i, .i .u8 b, .i .u8 t, .i .u8 s]] h n = some (true, { v := .agg (draftS f i b t s).l, n }) := fun h n => rfl
  generalize draftS f i b t s = S at *
  -- the packets
  obtain ⟨m, hm⟩ : ∃ m, m = (partsOf ps).length := ⟨_, rfl⟩
  have hm8 : 1 ≤ m ∧ m ≤ 8 := by
    rw [hm, partsOf]
    split
    · simp
    · rename_i hne
      have := List.length_pos_iff.2 hne
      rw [List.length_take]; omega
  rw [packets, ← hm] at hpl
  have hplm : pl.length = m := by rw [hpl, mapN_len]
  have hq : gQ Md.l 9 pl = .sg { cells := rows Md.l pl, gr := some 9 } 0 m := by rw [gQ_sg (by rintro rfl; simp at hplm; omega), hplm]
  rw [hq] at h31
  have hu9 : unrows 9 md9 m (rows Md.l pl) = some pl := by rw [← hplm]; exact unrows_rows Md.len md9_l pl
  have hfs : ∀ l : List Md, (∀ p ∈ l, ∃ k, p = pkM S fm (partsOf ps) m k) → l.all Md.fin = true := fun l h => by
    rw [List.all_eq_true]
    intro p hp
    obtain ⟨k, rfl⟩ := h p hp
    exact pk_fin hfin k
  have hmem : ∀ p ∈ pl, ∃ k, p = pkM S fm (partsOf ps) m k := fun p hp => by
    obtain ⟨j, hj⟩ := List.getElem?_of_mem hp
    have hjm : j < m := by rw [← hplm]; exact (List.getElem?_eq_some_iff.1 hj).1
    rw [hpl, mapN_get hjm] at hj
    exact ⟨j, (Option.some.inj hj).symm⟩
  obtain ⟨m0, hm0⟩ : ∃ m0, m0 = min ps.length 8 := ⟨_, rfl⟩
  have J1 : joinS pl = (⟨true, fm.tm, set1 S, catN (fun j => (ps.getD j []).take 20) m0⟩, 0) := by
    rw [hm0, ← cat_parts, ← hm, hpl]; exact joinS_pk hv hg hsq hm8
  have hgl : ∀ j, ((fun j => (ps.getD j []).take 20) j).length ≤ 20 := fun j => by simp only [List.length_take]; omega
  have hgd : ∀ j, (ps.getD j []).take 20 = (fun j => (ps.getD j []).take 20) j := fun j => rfl
  have hvw : ∀ (h : Hp) (bb : Nat) (k : List Nat → Nat → List AV → Bool → Option (Bool × Eff)), hget h bb = some { cells := rows Md.l pl, gr := some 9 } → vwK h 9 (.sg bb 0 m) k = k [bb] m (rows Md.l pl) true := fun h bb k hb => by
    have e : cellsAt (rows Md.l pl) 0 (m * 9) = rows Md.l pl := by rw [cellsAt, List.drop_zero, ← hplm, ← rows_len (f := Md.l) (z := 9) Md.len, List.take_length]
    rw [vwK_g, hb, Option.bind_some]
    simp only [e, rows_len Md.len, hplm, decide_eq_true]
  have hmd : decide (m ≤ 1000000000000) = true := decide_eq_true (by omega)
  have hallf := hfs pl hmem
  have hgs : ∀ j, j < ps.length → (rows strR ps)[j]? = some (.s (ps.getD j [])) := fun j hj => by
    have h1 := rows_get (f := strR) (z := 1) (j := 0) (v := .s ps[j]) strR_len (List.getElem?_eq_getElem hj) rfl
    rw [Nat.mul_one, Nat.add_zero] at h1
    rw [h1, List.getD_eq_getElem?_getD, List.getElem?_eq_getElem hj]; rfl
  have hPb : belL 6 (rows strR ps) = true := belL_mono0 _ (rows_bel strR_bel)
  have hPr : ∀ ψ, renL ψ (rows strR ps) = rows strR ps := fun ψ => renL_fix0 _ (rows_bel strR_bel)
  have hLb : ∀ n, belL n (rows Md.l pl) = true := fun n => belL_mono0 _ (rows_bel Md.bel)
  have hLr : ∀ ψ, renL ψ (rows Md.l pl) = rows Md.l pl := fun ψ => renL_fix0 _ (rows_bel Md.bel)
  have hp8 : min (ps.length : Int) 8 = (m0 : Int) := by omega
  have c0 : decide (0 ≤ (m0 : Int) ∧ (m0 : Int) ≤ (ps.length : Int)) = true := decide_eq_true (by omega)
  generalize hgg : (fun j => (ps.getD j []).take 20) = g at J1 hgl hgd
  have G03 : (rows Md.l pl)[3]? = some (.i .i64 fm.tm) := by
    have := rows_get (f := Md.l) (z := 9) (l := pl) (k := 0) (j := 3) (v := .i .i64 fm.tm) (a := pkM S fm (partsOf ps) m 0) Md.len (by rw [hpl]; exact mapN_get (by omega)) rfl
    simpa using this
  have GR : ∀ j, j < m → List.take 9 (List.drop (j * 9) (rows Md.l pl)) = (pkM S fm (partsOf ps) m j).l := fun j hj => rows_at Md.len (by rw [hpl]; exact mapN_get hj)
  have cm : decide ((0 : Int) < (m : Int)) = true := decide_eq_true (by omega)
  obtain ⟨i0, hi0⟩ : ∃ i0, i0 = a0.toNat % m := ⟨_, rfl⟩
  obtain ⟨k0, hk0⟩ : ∃ k0, k0 = a1.toNat % m := ⟨_, rfl⟩
  have him : i0 < m := by rw [hi0]; exact Nat.mod_lt _ (by omega)
  have hkm : k0 < m := by rw [hk0]; exact Nat.mod_lt _ (by omega)
  have r0 : a0.tmod (m : Int) = (i0 : Int) := by
    rw [Int.tmod_eq_emod_of_nonneg ha0.1, hi0]
    have : a0 = (a0.toNat : Int) := by omega
    rw [this]; simp
  have r1 : a1.tmod (m : Int) = (k0 : Int) := by
    rw [Int.tmod_eq_emod_of_nonneg ha1.1, hk0]
    have : a1 = (a1.toNat : Int) := by omega
    rw [this]; simp
  have w0 : IntKind.i64.wrap a0 = a0 := wrapL (by omega) (by omega)
  have w1 : IntKind.i64.wrap a1 = a1 := wrapL (by omega) (by omega)
  have mz : ((m : Int) != 0) = true := by rw [bne_iff_ne]; omega
  simp (config := { maxSteps := 400000 }) only [go_sem, k18, h32, hd, h31, fv_sg, fh_sg, k33, hvw, hu9, hmd, hallf, J1, joinV, Fr.l, set1, h12, Sh.l, Dm.l, hp8, c0, simprocAttr]
  refine Loop.countI (F := F9) hTL9 mo m0 (fun k => True)
    (fun k => [(45, .i .i64 (k : Int)), (44, .i .i64 (m0 : Int)), (43, .fz (rows strR ps) m0), (13, .s (catN g k)), (12, .p 5 0), (11, .i .i64 0), (10, .p 4 0), (9, .sg 3 0 m), (7, .p 2 0)])
    (fun k => [(5, { cells := (set1 S).l }), (4, { cells := (Fr.mk true fm.tm (set1 S) (catN g m0)).l }), (3, { cells := rows Md.l pl, gr := some 9 }), (2, { cells := [.i .u8 a0, .i .u8 a1] })]) 6 (by decide) trivial ?_ ?_ (fun k hk _ => ?_)
  · have z : catN g 0 = [] := rfl
    simp (config := { maxSteps := 400000 }) only [go_sem, z, AV.bel, belL, nblt, hPb, simprocAttr]
  · simp (config := { maxSteps := 400000 }) only [go_sem, set1, Sh.l, Fr.l, AV.bel, belL, nblt, hLb, simprocAttr]
  dsimp only [F9, TL9]
  by_cases hlt : k < m0
  · have c1 : decide ((k : Int) < (m0 : Int)) = true := decide_eq_true (by omega)
    have c2 : decide (0 ≤ (k : Int) ∧ (k : Int) < (m0 : Int)) = true := decide_eq_true (by omega)
    have hw : IntKind.i64.wrap ((k : Int) + 1) = ((k + 1 : Nat) : Int) := by rw [wrapL (by omega) (by omega)]; omega
    have lx := hgs k (by omega)
    have hcl := catN_len hgl k
    have c5 : decide ((catN g k).length + (g k).length ≤ 9223372036854775807) = true := decide_eq_true (by have := hgl k; omega)
    have cs : catN g (k + 1) = catN g k ++ g k := rfl
    simp (config := { maxSteps := 400000 }) only [go_sem, c1, c2, hw, lx, tk20, ck20, hgd, c5, cs, Nat.mul_one, set1, Sh.l, Fr.l, hlt, AV.bel, belL, nblt, hPb, hLb, simprocAttr]
  · have c1 : decide ((k : Int) < (m0 : Int)) = false := decide_eq_false (by omega)
    obtain rfl : k = m0 := by omega
    simp (config := { maxSteps := 400000 }) only [go_sem, c1, set1, Sh.l, Fr.l, cm, G03, mz, r0, r1, w0, w1, Int.toNat_zero, Nat.zero_mul, simprocAttr]
    -- without one
    have J2 := joinS_less (S := S) (fm := fm) (ps := partsOf ps) (m := m) hv hg hsq hm8 him
    have J3 := fun hne => joinS_swap (S := S) (fm := fm) (ps := partsOf ps) (m := m) hv hg hsq hm8 him hkm hne
    generalize hG : (fun j => pkM S fm (partsOf ps) m (skip i0 j)) = G at J2
    have hGf : ∀ n, (mapN G n).all Md.fin = true := fun n => hfs _ (fun p hp => by
      obtain ⟨j, hj⟩ := List.getElem?_of_mem hp
      have hjm : j < n := by have := (List.getElem?_eq_some_iff.1 hj).1; rwa [mapN_len] at this
      rw [mapN_get hjm, ← hG] at hj
      exact ⟨_, (Option.some.inj hj).symm⟩)
    have pr : ∀ k, (gQ Md.l 9 (mapN G k)).plain = true := fun k => (gQ_is (f := Md.l) Md.bel Md.len (mapN G k)).pl
    obtain ⟨cI, hcI⟩ : ∃ cI : Nat → Nat, cI = fun k => if k ≤ i0 then k else k - 1 := ⟨_, rfl⟩
    refine Loop.stepR (F := F9) hTL9 mo (X := Nat) (fun k => k ≤ m) (fun k => m - k)
      (fun k => [(9, .sg 3 0 m), (16, .i .i64 (i0 : Int)), (17, .i .i64 (k0 : Int)), (18, (gQ Md.l 9 (mapN G (cI k))).v 4), (82, .sg 3 0 m), (83, .i .i64 (m : Int)), (84, .i .i64 (k : Int))])
      (fun k => (gQ Md.l 9 (mapN G (cI k))).h 4 ++ [(3, { cells := rows Md.l pl, gr := some 9 })]) 5 0 (fun k => k + 1) [] (fun k => if k = i0 then [] else [(4, 7)]) (by decide) (by decide) (fun k => by dsimp only; split <;> decide) (Nat.zero_le _) ?_ ?_ (fun k hk => ?_)
    · have h1 : gQ Md.l 9 (mapN G (cI 0)) = .nil := by rw [hcI]; rfl
      simp (config := { maxSteps := 400000 }) only [go_sem, h1, AV.ren, renL, AV.bel, belL, nblt, simprocAttr]
    · have h1 : gQ Md.l 9 (mapN G (cI 0)) = .nil := by rw [hcI]; rfl
      simp (config := { maxSteps := 400000 }) only [go_sem, h1, Blk.ren, renL, AV.ren, AV.bel, belL, nblt, hLb, hLr, simprocAttr]
    dsimp only [F9, TL9]
    by_cases hlt : k < m
    · have c1 : decide ((k : Int) < (m : Int)) = true := decide_eq_true (by omega)
      have c2 : decide (0 ≤ (k : Int) ∧ (k : Int) < (m : Int)) = true := decide_eq_true (by omega)
      have hw : IntKind.i64.wrap ((k : Int) + 1) = ((k + 1 : Nat) : Int) := by rw [wrapL (by omega) (by omega)]; omega
      have rk := GR k hlt
      have hsk : m - (k + 1) < m - k := by omega
      have pk := pr (cI k)
      by_cases hki : k = i0
      · have b1 : ((k : Int) != (i0 : Int)) = false := by rw [hki]; simp
        have e1 : cI (k + 1) = cI k := by rw [hcI]; simp only; rw [if_neg (by omega), if_pos (by omega)]; rfl
        have e2 : (if k = i0 then ([] : List (Nat × Nat)) else [(4, 7)]) = [] := if_pos hki
        simp (config := { maxSteps := 400000 }) only [go_sem, c1, c2, hw, rk, b1, e1, e2, hlt, hsk, pk, Md.l, AV.bel, belL, nblt, Blk.ren, renL, AV.ren, hLb, hLr, simprocAttr]
        omega
      · have b1 : ((k : Int) != (i0 : Int)) = true := by rw [bne_iff_ne]; omega
        have e1 : cI (k + 1) = cI k + 1 := by rw [hcI]; simp only; split <;> split <;> omega
        have e2 : (if k = i0 then ([] : List (Nat × Nat)) else [(4, 7)]) = [(4, 7)] := if_neg hki
        have ck : cI k ≤ 8 := by rw [hcI]; simp only; split <;> omega
        have gk : G (cI k) = pkM S fm (partsOf ps) m k := by
          rw [← hG, hcI]; simp only [skip]
          congr 1
          split <;> split <;> omega
        have gm : decide (112 * (cI k + 1) ≤ growMax) = true := decide_eq_true (by simp only [growMax]; omega)
        have zL : (mapN G (cI k)).length = cI k := mapN_len _
        have zR : (rows Md.l (mapN G (cI k))).length = cI k * 9 := by rw [rows_len Md.len, zL]
        have pQ' := pr (cI k + 1)
        rw [mapN_s, gQ_snoc, gk] at pQ'
        rw [e1, mapN_s, gQ_snoc, gk]
        generalize mapN G (cI k) = ml at *
        generalize cI k = ckk at *
        generalize pkM S fm (partsOf ps) m k = pp at *
        have hCr : ∀ ψ, renL ψ (rows int1 pp.cs) = rows int1 pp.cs := fun ψ => renL_fix0 _ (rows_bel int1_bel)
        have hXr : ∀ ψ, renL ψ (rows xtR pp.xs) = rows xtR pp.xs := fun ψ => renL_fix0 _ (rows_bel xtR_bel)
        simp only [Md.l] at pQ'
        simp (config := { maxSteps := 400000 }) only [go_sem, c1, c2, hw, rk, b1, e2, hlt, hsk, gm, zL, zR, pk, pQ', Md.l, AV.bel, belL, nblt, Blk.ren, renL, AV.ren, hLb, hLr, hCr, hXr, simprocAttr]
        omega
    · have c1 : decide ((k : Int) < (m : Int)) = false := decide_eq_false (by omega)
      obtain rfl : k = m := by omega
      have ec : cI k = k - 1 := by rw [hcI]; simp only; rw [if_neg (by omega)]
      have pk := pr (cI k)
      have hq2 := gQ_is (f := Md.l) Md.bel Md.len (mapN G (cI k))
      have zL : (mapN G (cI k)).length = cI k := mapN_len _
      have hvq : ∀ (h : Hp) (kk : List Nat → Nat → List AV → Bool → Option (Bool × Eff)), hasS h (gQ Md.l 9 (mapN G (cI k))) 4 → vwK h 9 ((gQ Md.l 9 (mapN G (cI k))).v 4) kk = kk ((gQ Md.l 9 (mapN G (cI k))).bl 4) (cI k) (rows Md.l (mapN G (cI k))) true := fun h kk hh => by
        rw [vwK_v hh hq2 (by unfold gQ; split <;> trivial) Md.len, zL]
      have huq : unrows 9 md9 (cI k) (rows Md.l (mapN G (cI k))) = some (mapN G (cI k)) := by
        have := unrows_rows Md.len md9_l (mapN G (cI k)); rwa [zL] at this
      have hcq : decide (cI k ≤ 1000000000000) = true := decide_eq_true (by omega)
      have hfq := hGf (cI k)
      rw [← ec] at J2
      generalize hml : mapN G (cI k) = ml at *
      by_cases hik : i0 = k0
      · have bik : ((i0 : Int) == (k0 : Int)) = true := by rw [hik]; simp
        simp (config := { maxSteps := 400000 }) only [go_sem, c1, k33, hvq, huq, hcq, hfq, J2, joinV, Fr.l, zFr, zSh, pk, bik, simprocAttr]
        exact Ends.pureE rfl rfl
      · have bik : ((i0 : Int) == (k0 : Int)) = false := by rw [beq_eq_false_iff_ne]; omega
        have J3 := J3 hik
        rw [← hpl] at J3
        have hi9 := GR i0 him
        have hk9 := GR k0 hkm
        have ci : decide (0 ≤ (i0 : Int) ∧ (i0 : Int) < (k : Int)) = true := decide_eq_true (by omega)
        have ck : decide (0 ≤ (k0 : Int) ∧ (k0 : Int) < (k : Int)) = true := decide_eq_true (by omega)
        have d1 : decide (i0 * 9 + 9 ≤ (rows Md.l pl).length) = true := decide_eq_true (by rw [rows_len Md.len]; omega)
        have d2 : decide (k0 * 9 + 9 ≤ (rows Md.l (pl.set i0 (pkM S fm (partsOf ps) k k0))).length) = true := decide_eq_true (by rw [rows_len Md.len, List.length_set]; omega)
        have hs1 := splice_set (f := Md.l) (z := 9) Md.len (l := pl) (i := i0) (a := pkM S fm (partsOf ps) k k0) (by rw [hplm]; exact him)
        have hs2 := splice_set (f := Md.l) (z := 9) Md.len (l := pl.set i0 (pkM S fm (partsOf ps) k k0)) (i := k0) (a := pkM S fm (partsOf ps) k i0) (by rw [List.length_set, hplm]; exact hkm)
        simp only [splice, Md.len] at hs1 hs2
        have nLi := Md.len (pkM S fm (partsOf ps) k i0)
        have nLk := Md.len (pkM S fm (partsOf ps) k k0)
        have oLi : oneAll (pkM S fm (partsOf ps) k i0).l = true := rfl
        have oLk : oneAll (pkM S fm (partsOf ps) k k0).l = true := rfl
        have l2l : ((pl.set i0 (pkM S fm (partsOf ps) k k0)).set k0 (pkM S fm (partsOf ps) k i0)).length = k := by rw [List.length_set, List.length_set, hplm]
        have hf2 : ((pl.set i0 (pkM S fm (partsOf ps) k k0)).set k0 (pkM S fm (partsOf ps) k i0)).all Md.fin = true := hfs _ (fun p hp => by
          rcases List.mem_or_eq_of_mem_set hp with h' | h'
          · rcases List.mem_or_eq_of_mem_set h' with h'' | h''
            · exact hmem p h''
            · exact ⟨_, h''⟩
          · exact ⟨_, h'⟩)
        generalize (pl.set i0 (pkM S fm (partsOf ps) k k0)).set k0 (pkM S fm (partsOf ps) k i0) = l2 at *
        have hu2 : unrows 9 md9 k (rows Md.l l2) = some l2 := by
          have := unrows_rows Md.len md9_l l2; rwa [l2l] at this
        have hv2 : ∀ (h : Hp) (kk : List Nat → Nat → List AV → Bool → Option (Bool × Eff)), hget h 3 = some { cells := rows Md.l l2, gr := some 9 } → vwK h 9 (.sg 3 0 k) kk = kk [3] k (rows Md.l l2) true := fun h kk hb => by
          have e : cellsAt (rows Md.l l2) 0 (k * 9) = rows Md.l l2 := by rw [cellsAt, List.drop_zero, ← l2l, ← rows_len (f := Md.l) (z := 9) Md.len, List.take_length]
          rw [vwK_g, hb, Option.bind_some]
          simp only [e, rows_len Md.len, l2l, decide_eq_true]
        generalize rows Md.l l2 = L2 at *
        generalize rows Md.l (pl.set i0 (pkM S fm (partsOf ps) k k0)) = L1 at *
        generalize rows Md.l pl = L0 at *
        generalize (pkM S fm (partsOf ps) k k0).l = Lk at *
        generalize (pkM S fm (partsOf ps) k i0).l = Li at *
        clear GR hvw hLr hLb
        simp (config := { maxSteps := 400000 }) only [go_sem, c1, k33, hvq, huq, hcq, hfq, J2, joinV, Fr.l, zFr, zSh, pk, bik, ci, ck, d1, d2, hs1, hs2, nLi, nLk, oLi, oLk, hi9, hk9, hf2, hu2, hv2, hmd, J3, simprocAttr]
        exact Ends.pureE rfl rfl
end Go.Proofs.Pic
