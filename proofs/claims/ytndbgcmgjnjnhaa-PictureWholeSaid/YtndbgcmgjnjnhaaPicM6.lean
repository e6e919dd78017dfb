/- The contract of a frame's packets. -/
import Derived.Test.YtndbgcmgjnjnhaaPicM5
namespace Go.Proofs.Pic
open Go.Ab
set_option maxRecDepth 100000
set_option maxHeartbeats 4000000
set_option linter.unusedSimpArgs false
set_option linter.unusedVariables false

/-- Packet k of m. -/
def pkM (S : Sh) (fm : Md) (ps : List (List UInt8)) (m k : Nat) : Md :=
  ⟨((k : Int) == (m : Int) - 1), fm.ty, (fm.sq + (k : Int)) % 65536, fm.tm, fm.ss, fm.cs, fm.xs, fm.pd,
    (Sh.mk ((k : Int) == 0) S.ky S.sy ((k : Int) == (m : Int) - 1) S.id S.ba S.te S.sp).enc ++ (ps.getD k []).take 20⟩
def partsOf (ps : List (List UInt8)) : List (List UInt8) := if ps = [] then [[]] else ps.take 8
def packets (S : Sh) (fm : Md) (ps : List (List UInt8)) : List Md := mapN (pkM S fm (partsOf ps) (partsOf ps).length) (partsOf ps).length
theorem good_any {S : Sh} (h : S.good = true) (a b : Bool) : (Sh.mk a S.ky S.sy b S.id S.ba S.te S.sp).good = true := h
def TM6 : List (Nat × Ct) := [(12, k12), (17, k45)]
theorem hTM6 : Sound Try.prog (cxT TM6) := Sound.cons s12 (Sound.cons s17 Sound.nil)
theorem w31 (f i b t s : Int) (fm : Md) (ps : List (List UInt8)) (hg : (draftS f i b t s).good = true) (hsq : 0 ≤ fm.sq ∧ fm.sq ≤ 65535) :
    FTL Try.prog 31 [.agg [.i .u8 f, .i .u16 i, .i .u8 b, .i .u8 t, .i .u8 s], .agg fm.l, .fz (rows strR ps) ps.length] [] 0 ((gQ Md.l 9 (packets (draftS f i b t s) fm ps)).v 0) ((gQ Md.l 9 (packets (draftS f i b t s) fm ps)).h 0) 1 := by
  refine FTL.of_iw hTM6 mo Try.func31 i31_eq (by simp [i31]) (iw_of_jw ?_)
  dsimp only [i31, TM6]
  have hd : ∀ f i b t s, k12 [.agg [.i .u8 f, .i .u16 i, .i .u8 b, .i .u8 t, .i .u8 s]] = fun (h : Hp) (n : Nat) => some (true, ({ v := .agg (draftS f i b t s).l, n } : Eff)) := fun f i b t s => rfl
  have hx : ∀ (h : Hp) n, k12 [.agg [.i .u8 f, .i .u16 i, .i .u8 b, .i .u8 t, .i .u8 s]] h n = some (true, { v := .agg (draftS f i b t s).l, n }) := fun h n => rfl
  generalize draftS f i b t s = S at hg hx ⊢
  have hFb : belL 3 fm.l = true := belL_mono0 _ fm.bel
  have hsh : ∀ a c, (Sh.mk a S.ky S.sy c S.id S.ba S.te S.sp).good = true := good_any hg
  have hen : ∀ a c (x : List UInt8), decide ((Sh.mk a S.ky S.sy c S.id S.ba S.te S.sp).enc.length + (List.take 20 x).length ≤ 9223372036854775807) = true := fun a c x => decide_eq_true (by
    have : (Sh.mk a S.ky S.sy c S.id S.ba S.te S.sp).enc.length = 5 := rfl
    rw [this, List.length_take]; omega)
  have hCr : ∀ ψ, renL ψ (rows int1 fm.cs) = rows int1 fm.cs := fun ψ => renL_fix0 _ (rows_bel int1_bel)
  have hXr : ∀ ψ, renL ψ (rows xtR fm.xs) = rows xtR fm.xs := fun ψ => renL_fix0 _ (rows_bel xtR_bel)
  have hCb : belL 3 (rows int1 fm.cs) = true := belL_mono0 _ (rows_bel int1_bel)
  have hXb : belL 3 (rows xtR fm.xs) = true := belL_mono0 _ (rows_bel xtR_bel)
  have s0 : IntKind.i64.wrap (fm.sq + 0) = fm.sq := by rw [Int.add_zero]; exact wrapL (by omega) (by omega)
  have s1 : IntKind.i64.wrap fm.sq = fm.sq := wrapL (by omega) (by omega)
  have s2 : fm.sq.tmod 65536 = fm.sq % 65536 := Int.tmod_eq_emod_of_nonneg hsq.1
  have s3 : IntKind.i64.wrap (fm.sq % 65536) = fm.sq % 65536 := wrapL (by omega) (by omega)
  by_cases hps : ps = []
  · subst hps
    have mm : min (0 : Int) 8 = 0 := by decide
    have mm2 : min (0 : Int) 20 = 0 := by decide
    have gp : gQ Md.l 9 (packets S fm []) = .sg { cells := (pkM S fm [[]] 1 0).l, gr := some 9 } 0 1 := rfl
    rw [gp]
    have gl : (pkM S fm [[]] 1 0).l = [.b true, .i .i64 fm.ty, .i .i64 (fm.sq % 65536), .i .i64 fm.tm, .i .i64 fm.ss, .fz (rows int1 fm.cs) fm.cs.length, .fz (rows xtR fm.xs) fm.xs.length, .i .i64 fm.pd, .s ((Sh.mk true S.ky S.sy true S.id S.ba S.te S.sp).enc ++ [])] := by
      simp [pkM, Md.l]
    rw [gl]
    have h20 : decide ((Sh.mk true S.ky S.sy true S.id S.ba S.te S.sp).enc.length ≤ 9223372036854775807) = true := by
      have : (Sh.mk true S.ky S.sy true S.id S.ba S.te S.sp).enc.length = 5 := rfl
      rw [this]; rfl
    simp (config := { maxSteps := 400000 }) only [go_sem, Md.l, rows_nil, mm, simprocAttr]
    refine Loop.rounds (F := ⟨Try.prog, cxT TM6, [18, 23], 67, 0⟩) 2 hTM6 mo ?_
    dsimp only [TM6]
    simp (config := { maxSteps := 400000 }) only [go_sem, hx, k45, Sh.l, hsh, s0, s1, s2, s3, mm, mm2, growMax, h20, simprocAttr]
    exact Ends.R [(0, 6)] (by decide) (by decide) rfl rfl (by simp [HpR, hCr, hXr, Blk.ren, renL, AV.ren, belL, AV.bel, rows_bel int1_bel, rows_bel xtR_bel, Go.Ab.Sh.h, rn, hget, belL_mono0 (m := 1) _ (rows_bel (f := int1) (l := fm.cs) int1_bel), belL_mono0 (m := 1) _ (rows_bel (f := xtR) (l := fm.xs) xtR_bel)])
  · obtain ⟨m, hm⟩ : ∃ m, m = min ps.length 8 := ⟨_, rfl⟩
    have hpl : 0 < ps.length := List.length_pos_iff.2 hps
    have hm1 : min (ps.length : Int) 8 = (m : Int) := by omega
    have c0 : decide (0 ≤ (m : Int) ∧ (m : Int) ≤ (ps.length : Int)) = true := decide_eq_true (by omega)
    have cz : ((m : Int) == 0) = false := by simp; omega
    have hpo : partsOf ps = ps.take 8 := if_neg hps
    have hpm : (partsOf ps).length = m := by rw [hpo, List.length_take]; omega
    have hpk : packets S fm ps = mapN (pkM S fm (partsOf ps) m) m := by rw [packets, hpm]
    have hget : ∀ k, k < m → (rows strR ps)[k * 1]? = some (.s ((partsOf ps).getD k [])) := fun k hk => by
      have hk' : k < ps.length := by omega
      have h1 := rows_get (f := strR) (z := 1) (j := 0) (v := .s ps[k]) strR_len (List.getElem?_eq_getElem hk') rfl
      rw [Nat.add_zero] at h1
      rw [h1, hpo, List.getD_eq_getElem?_getD, List.getElem?_take, if_pos (by omega), List.getElem?_eq_getElem hk']
      rfl
    have hLb : belL 3 (rows strR ps) = true := belL_mono0 _ (rows_bel strR_bel)
    have hLr : ∀ ψ, renL ψ (rows strR ps) = rows strR ps := fun ψ => renL_fix0 _ (rows_bel strR_bel)
    generalize rows strR ps = L at hget hLb hLr ⊢
    rw [hpk]
    generalize hG : pkM S fm (partsOf ps) m = G
    have qm := gQ_is (f := Md.l) Md.bel Md.len (mapN G m)
    have pr : ∀ k, (gQ Md.l 9 (mapN G k)).plain = true := fun k => (gQ_is (f := Md.l) Md.bel Md.len (mapN G k)).pl
    simp (config := { maxSteps := 400000 }) only [go_sem, Md.l, hm1, c0, cz, simprocAttr]
    refine Loop.stepR (F := ⟨Try.prog, cxT TM6, [18, 23], 67, 0⟩) hTM6 mo (X := Nat) (fun k => k ≤ m) (fun k => m - k)
      (fun k => [(2, .fz L m), (3, .p 0 0), (4, .p 1 0), (7, (gQ Md.l 9 (mapN G k)).v 2), (8, .i .i64 (k : Int))])
      (fun k => (gQ Md.l 9 (mapN G k)).h 2 ++ [(1, { cells := fm.l }), (0, { cells := [.i .u8 f, .i .u16 i, .i .u8 b, .i .u8 t, .i .u8 s] })]) 3 0 (fun k => k + 1) [] (fun _ => [(2, 6)]) (by decide) (by decide) (fun _ => by decide) (Nat.zero_le _) ?_ ?_ (fun k hk => ?_)
    · have h1 : gQ Md.l 9 (mapN G 0) = .nil := rfl
      simp (config := { maxSteps := 400000 }) only [go_sem, h1, AV.ren, renL, AV.bel, belL, nblt, hLb, hLr, simprocAttr]
    · have h1 : gQ Md.l 9 (mapN G 0) = .nil := rfl
      simp (config := { maxSteps := 400000 }) only [go_sem, h1, Md.l, AV.bel, belL, nblt, Blk.ren, renL, AV.ren, hFb, hCr, hXr, hCb, hXb, simprocAttr]
    · dsimp only [TM6]
      by_cases hlt : k < m
      · have c1 : decide ((k : Int) < (m : Int)) = true := decide_eq_true (by omega)
        have c2 : decide (0 ≤ (k : Int) ∧ (k : Int) < (m : Int)) = true := decide_eq_true (by omega)
        have hw : IntKind.i64.wrap ((k : Int) + 1) = ((k + 1 : Nat) : Int) := by rw [wrapL (by omega) (by omega)]; omega
        have hwn : IntKind.i64.wrap ((m : Int) - 1) = (m : Int) - 1 := wrapL (by omega) (by omega)
        have hsk : m - (k + 1) < m - k := by omega
        have t1 : IntKind.i64.wrap (fm.sq + (k : Int)) = fm.sq + (k : Int) := wrapL (by omega) (by omega)
        have t2 : (fm.sq + (k : Int)).tmod 65536 = (fm.sq + (k : Int)) % 65536 := Int.tmod_eq_emod_of_nonneg (by omega)
        have t3 : IntKind.i64.wrap ((fm.sq + (k : Int)) % 65536) = (fm.sq + (k : Int)) % 65536 := wrapL (by omega) (by omega)
        have lx := hget k hlt
        rw [Nat.mul_one] at lx
        have gm : decide (112 * (k + 1) ≤ growMax) = true := decide_eq_true (by simp only [growMax]; omega)
        have zL : (mapN G k).length = k := mapN_len k
        have zR : (rows Md.l (mapN G k)).length = k * 9 := by rw [rows_len Md.len, zL]
        have pQ' := pr (k + 1)
        have pk := pr k
        have gk : G k = ⟨((k : Int) == (m : Int) - 1), fm.ty, (fm.sq + (k : Int)) % 65536, fm.tm, fm.ss, fm.cs, fm.xs, fm.pd,
          (Sh.mk ((k : Int) == 0) S.ky S.sy ((k : Int) == (m : Int) - 1) S.id S.ba S.te S.sp).enc ++ ((partsOf ps).getD k []).take 20⟩ := by rw [← hG]; rfl
        rw [mapN_s, gQ_snoc, gk] at pQ' ⊢
        simp only [Md.l] at pQ'
        generalize (partsOf ps).getD k [] = part at *
        generalize mapN G k = ml at *
        simp (config := { maxSteps := 400000 }) only [go_sem, c1, c2, hw, hwn, hx, k45, Sh.l, hsh, t1, t2, t3, lx, tk20, ck20, hen, gm, zL, zR, Md.l, hlt, hsk, pQ', pk, AV.bel, belL, nblt, Blk.ren, renL, AV.ren, hFb, hCr, hXr, hCb, hXb, hLb, hLr, Nat.mul_one, simprocAttr]
        omega
      · have c1 : decide ((k : Int) < (m : Int)) = false := decide_eq_false (by omega)
        obtain rfl : k = m := by omega
        have pk := pr k
        simp (config := { maxSteps := 400000 }) only [go_sem, c1, simprocAttr]
        exact Ends.R [(0, 2)] (by decide) (by decide) (by rw [v_ren]; rfl) (v_bel (by decide)) (by rw [HpR_app0 pk (by decide)]; show hasS _ _ 2; rw [hasS_hit]; trivial)
def dr5 : List AV → Option (Int × Int × Int × Int × Int)
  | [.i .u8 f, .i .u16 i, .i .u8 b, .i .u8 t, .i .u8 s] => some (f, i, b, t, s)
  | _ => none
end Go.Proofs.Pic
