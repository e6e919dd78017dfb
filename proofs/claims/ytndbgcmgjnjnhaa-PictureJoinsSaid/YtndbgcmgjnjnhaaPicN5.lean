/- The walk of PictureJoins. -/
import Derived.Test.YtndbgcmgjnjnhaaPicN4
import Derived.Test.YtndbgcmgjnjnhaaAbGvs
import Derived.Test.YtndbgcmgjnjnhaaPicM7
import Derived.Test.YtndbgcmgjnjnhaaPicP3
namespace Go.Proofs.Pic
open Go.Ab
set_option maxRecDepth 100000
set_option maxHeartbeats 8000000
set_option linter.unusedSimpArgs false
set_option linter.unusedVariables false
theorem appL_del2 {pn : Option Value} {v : AV} {n : Nat} {rd : List Nat} {b c : Nat} {h : Hp} : (Eff.mk v n rd [(b, none), (c, none)] [] pn).appL h = hdel (hdel h c) b := (rfl)
attribute [go_sem ↓] appL_del2
def smB (p : Md) : Bool := p.fin && plB p
theorem sm_of {p : Md} (h : bmF p = true) : smB p = true := by
 simp only [bmF, smB, plB, Md.fin, Bool.and_eq_true, decide_eq_true_eq, List.all_eq_true] at h ⊢
 obtain ⟨h1, h2, h3, h4⟩ := h
 exact ⟨⟨⟨⟨by omega, by omega⟩, fun x hx => by have := h3 x hx; omega⟩, by omega⟩, h4⟩
theorem sm_pl {p : Md} {s : List UInt8} (h : bmF p = true) (hs : s.length ≤ 1000000000000) : smB ⟨p.ma, p.ty, p.sq, p.tm, p.ss, p.cs, p.xs, p.pd, s⟩ = true := by
 simp only [bmF, smB, plB, Md.fin, Bool.and_eq_true, decide_eq_true_eq, List.all_eq_true] at h ⊢
 obtain ⟨h1, h2, h3, h4⟩ := h
 exact ⟨⟨⟨⟨by omega, by omega⟩, fun x hx => by have := h3 x hx; omega⟩, by omega⟩, hs⟩
theorem set_all {α : Type} {q : α → Prop} {l : List α} {i : Nat} {a : α} (hl : ∀ x ∈ l, q x) (ha : q a) : ∀ x ∈ l.set i a, q x := fun x hx => by
 rcases List.mem_or_eq_of_mem_set hx with h | h
 · exact hl x h
 · subst h; exact ha
theorem bm_sm (b : Bm) {p : Md} (h : bmF p = true) : smB (bmM b p) = true := by
 simp only [bmF, Bool.and_eq_true, decide_eq_true_eq, List.all_eq_true] at h
 obtain ⟨h1, h2, h3, h4⟩ := h
 have hx : (bmX b p.xs).length ≤ 1000001 ∧ ∀ x ∈ bmX b p.xs, x.2.length ≤ 1000000000256 := by
  have hg : ∀ i, (p.xs.getD i (0, [])).2.length ≤ 1000000000000 := fun i => by
   rw [List.getD_eq_getElem?_getD]
   cases he : p.xs[i]? with
   | none => simp
   | some y => exact h3 y (List.mem_of_getElem? he)
  unfold bmX
  split
  · refine ⟨by simp; omega, fun x hx => ?_⟩
    rcases List.mem_append.1 hx with h | h
    · have := h3 x h; omega
    · simp only [List.mem_singleton] at h; subst h; simp
  split
  · exact ⟨by omega, fun x hx => by have := h3 x hx; omega⟩
  split
  · refine ⟨by rw [List.length_set]; omega, set_all (fun x hx => by have := h3 x hx; omega) ?_⟩
    have := hg (mIx b p.xs); show (p.xs.getD _ _).2.length ≤ _; omega
  split
  · refine ⟨by rw [List.length_set]; omega, set_all (fun x hx => by have := h3 x hx; omega) ?_⟩
    have := hg (mIx b p.xs); show (fillD _).length ≤ _; have := fillD_len (p.xs.getD (mIx b p.xs) (0, [])).2; omega
  · exact ⟨by omega, fun x hx => by have := h3 x hx; omega⟩
 have hc : (bmM b p).cs.length ≤ 1000001 := by
  show (if _ then _ else _ : List Int).length ≤ _
  split
  · simp; omega
  · omega
 have hp : (bmM b p).pl.length ≤ 1000000000000 := by
  show (if _ then _ else _ : List UInt8).length ≤ _
  split
  · have := fillP_len (1188 + (b.at_ % 4).toNat) p.pl; omega
  · omega
 simp only [smB, plB, Md.fin, Bool.and_eq_true, decide_eq_true_eq, List.all_eq_true]
 exact ⟨⟨⟨⟨by omega, by have := hx.1; show (bmX b p.xs).length ≤ _; omega⟩, fun x h => by have := hx.2 x h; omega⟩, by omega⟩, hp⟩
theorem sm_fin {l : List Md} (h : ∀ p ∈ l, smB p = true) : l.all Md.fin = true ∧ l.all plB = true := by
 rw [List.all_eq_true, List.all_eq_true]
 refine ⟨fun p hp => ?_, fun p hp => ?_⟩ <;> have := h p hp <;> simp only [smB, Bool.and_eq_true] at this
 · exact this.1
 · exact this.2
theorem extD_all (q : Xt → Prop) (hq : ∀ (id : Int) (b : List UInt8), b.length ≤ 20 → q (id, b)) : ∀ (l : List Xt) (id : Int), ∀ x ∈ extD id l, x.2.length ≤ 20 := fun l id x hx => by
 induction l generalizing id with
 | nil => simp [extD] at hx
 | cons y r ih =>
  simp only [extD, List.mem_cons] at hx
  rcases hx with h | h
  · subst h; simp only [List.length_take]; omega
  · exact ih _ h
theorem pk_bmF {S : Sh} {dm : Dm} {ps : List (List UInt8)} {m k : Nat} : bmF (pkM S dm.md ps m k) = true := by
 simp only [bmF, Bool.and_eq_true, decide_eq_true_eq, List.all_eq_true]
 refine ⟨?_, ?_, fun x hx => ?_, ?_⟩
 · show (dm.cs.take 3).length ≤ _; rw [List.length_take]; omega
 · show (extD 0 (dm.xs.take 4)).length ≤ _; rw [extD_len, List.length_take]; omega
 · have := extD_all (fun _ => True) (fun _ _ _ => trivial) (dm.xs.take 4) 0 x hx; omega
 · show (_ ++ _ : List UInt8).length ≤ _
   rw [List.length_append, List.length_take]
   have : (Sh.mk ((k : Int) == 0) S.ky S.sy ((k : Int) == (m : Int) - 1) S.id S.ba S.te S.sp).enc.length = 5 := rfl
   omega
theorem put9 {l : List Md} {i : Nat} {q : Md} (h : i < l.length) : List.take (i * 9) (rows Md.l l) ++ q.l ++ List.drop (i * 9 + 9) (rows Md.l l) = rows Md.l (l.set i q) := by
 have := splice_set (f := Md.l) Md.len (l := l) (i := i) (a := q) h
 unfold splice at this
 rwa [Md.len] at this
theorem put9_8 {l : List Md} {i : Nat} {p : Md} {s : List UInt8} (h : l[i]? = some p) : List.take (i * 9 + 8) (rows Md.l l) ++ [AV.s s] ++ List.drop (i * 9 + 8 + 1) (rows Md.l l) = rows Md.l (l.set i ⟨p.ma, p.ty, p.sq, p.tm, p.ss, p.cs, p.xs, p.pd, s⟩) := by
 have hi := (List.getElem?_eq_some_iff.1 h).1
 rw [← put9 hi]
 have e1 : List.take 9 (List.drop (i * 9) (rows Md.l l)) = p.l := rows_at Md.len h
 have e2 : List.take 8 (List.drop (i * 9) (rows Md.l l)) = List.take 8 p.l := by rw [← e1, List.take_take]; rfl
 rw [List.take_add, e2, show i * 9 + 8 + 1 = i * 9 + 9 from rfl, List.append_assoc (List.take _ _)]
 rfl
theorem pk_l8 {S : Sh} {fm : Md} {ps : List (List UInt8)} {m k : Nat} : (pkM S fm ps m k).pl.length ≤ 1000000 := by
 show (_ ++ _ : List UInt8).length ≤ _
 rw [List.length_append, List.length_take]
 have : (Sh.mk ((k : Int) == 0) S.ky S.sy ((k : Int) == (m : Int) - 1) S.id S.ba S.te S.sp).enc.length = 5 := rfl
 omega
def TL11 : List (Nat × Ct) := [(18, k18), (32, k32), (31, k31f), (33, k33), (43, k43), (38, k38), (39, k39), (19, k19), (40, k40), (41, k41), (42, k42)]
theorem hTL11 : Sound Try.prog (cxT TL11) := Sound.cons s18 <| Sound.cons s32 <| Sound.cons s31f <| Sound.cons s33 <| Sound.cons s43 <| Sound.cons s38 <| Sound.cons s39 <| Sound.cons s19 <| Sound.cons s40 <| Sound.cons s41 <| Sound.cons s42 Sound.nil
noncomputable abbrev F11 : Fx := ⟨Try.prog, cxT TL11, [110, 129], 132, 0⟩
theorem body11 (f i b t s : Int) (dm : Dm) (ps : List (List UInt8)) (bm : Bm) (ea el : Int) (tx : List UInt8) (a0 a1 : Int) (hd : dm.okB = true) (hg : (draftS f i b t s).good = true) (hbm : bm.okB = true) (hea : 0 ≤ ea ∧ ea ≤ 65535) (hel : 0 ≤ el ∧ el ≤ 255) (ha0 : 0 ≤ a0 ∧ a0 ≤ 255) (ha1 : 0 ≤ a1 ∧ a1 ≤ 255) :
 FTL Try.prog 11 [.agg [.i .u8 f, .i .u16 i, .i .u8 b, .i .u8 t, .i .u8 s], .agg dm.l, .fz (rows strR ps) ps.length, .agg bm.a, .agg [.i .u16 ea, .i .u8 el, .s tx], .agg [.i .u8 a0, .i .u8 a1]] [] 0 (.b true) [] 0 := by
 obtain ⟨hv, hfin⟩ := Dm.md_ok (Dm.ok_of hd)
 have hsq : 0 ≤ dm.md.sq ∧ dm.md.sq ≤ 65535 := (Dm.ok_of hd).sq
 have hsqz : inZ 0 65535 dm.md.sq = true := inZ_iff.2 hsq
 have h32 : ∀ (h : Hp) n, k32 [.agg [.b dm.ma, .i .u8 dm.ty, .i .u16 dm.sq, .i .u32 dm.tm, .i .u32 dm.ss, .fz (rows u32R dm.cs) dm.cs.length, .fz (rows pcR dm.xs) dm.xs.length, .i .u8 dm.pd, .s dm.pl]] h n = some (dm.okB, { v := .agg dm.md.l, n }) := fun h n => by
  show k32 [.agg dm.l] h n = _
  simp only [k32, dm9_l, Option.bind_some]
 have hdl := dm.bel
 obtain ⟨pl, hpl⟩ : ∃ pl, pl = packets (draftS f i b t s) dm.md ps := ⟨_, rfl⟩
 have hus : unrows 1 strV ps.length (rows strR ps) = some ps := unrows_rows strR_len (fun _ => rfl) ps
 have h31 : ∀ (h : Hp) n, k31f [.agg [.i .u8 f, .i .u16 i, .i .u8 b, .i .u8 t, .i .u8 s], .agg dm.md.l, .fz (rows strR ps) ps.length] h n = some (true, { v := .fz (rows Md.l pl) pl.length, n := n }) := fun h n => by
  simp only [k31f, md9_l, hus, Option.bind_some, hg, hsqz, Bool.and_self, hpl]
 have hall : ∀ p ∈ pl, bmF p = true := fun p hp => by
  obtain ⟨j, hj⟩ := List.getElem?_of_mem hp
  rw [hpl, packets] at hj
  have hjm : j < (partsOf ps).length := by
   have := (List.getElem?_eq_some_iff.1 hj).1; rwa [mapN_len] at this
  rw [mapN_get hjm] at hj
  rw [← Option.some.inj hj]
  exact pk_bmF
 have hall8 : ∀ p ∈ pl, p.pl.length ≤ 1000000 := fun p hp => by
  obtain ⟨j, hj⟩ := List.getElem?_of_mem hp
  rw [hpl, packets] at hj
  have hjm : j < (partsOf ps).length := by
   have := (List.getElem?_eq_some_iff.1 hj).1; rwa [mapN_len] at this
  rw [mapN_get hjm] at hj
  rw [← Option.some.inj hj]
  exact pk_l8
 obtain ⟨m, hm⟩ : ∃ m, m = pl.length := ⟨_, rfl⟩
 have hm8 : 1 ≤ m ∧ m ≤ 8 := by
  rw [hm, hpl, packets, mapN_len, partsOf]
  split
  · simp
  · rename_i hne
    have := List.length_pos_iff.2 hne
    rw [List.length_take]; omega
 generalize draftS f i b t s = S at hg hpl
 have hPb : ∀ j, belL j (rows strR ps) = true := fun j => belL_mono0 _ (rows_bel strR_bel)
 generalize rows strR ps = P at *
 clear hpl
 obtain ⟨i0, hi0⟩ : ∃ i0, i0 = a0.toNat % m := ⟨_, rfl⟩
 obtain ⟨k0, hk0⟩ : ∃ k0, k0 = a1.toNat % m := ⟨_, rfl⟩
 have him : i0 < m := by rw [hi0]; exact Nat.mod_lt _ (by omega)
 have hkm : k0 < m := by rw [hk0]; exact Nat.mod_lt _ (by omega)
 have r0 : a0.tmod (m : Int) = (i0 : Int) := by
  rw [Int.tmod_eq_emod_of_nonneg ha0.1, hi0]
  have : a0 = (a0.toNat : Int) := by omega
  rw [this]; simp
 have r1 : a1.tmod (m : Int) = (k0 : Int) := by
  rw [Int.tmod_eq_emod_of_nonneg ha1.1, hk0]
  have : a1 = (a1.toNat : Int) := by omega
  rw [this]; simp
 have w0 : IntKind.i64.wrap a0 = a0 := wrapL (by omega) (by omega)
 have w1 : IntKind.i64.wrap a1 = a1 := wrapL (by omega) (by omega)
 have w0m : IntKind.i64.wrap (i0 : Int) = (i0 : Int) := wrapL (by omega) (by omega)
 have w1m : IntKind.i64.wrap (k0 : Int) = (k0 : Int) := wrapL (by omega) (by omega)
 have mz : ((m : Int) != 0) = true := by rw [bne_iff_ne]; omega
 have hLb : ∀ j, belL j (rows Md.l pl) = true := fun j => hrM j pl
 have hu9 : unrows 9 md9 m (rows Md.l pl) = some pl := by rw [hm]; exact unrows_rows Md.len md9_l pl
 have c38 : decide (0 < pl.length) = true := decide_eq_true (by omega)
 have c38' : decide (pl.length ≤ 1000000) = true := decide_eq_true (by omega)
 rw [← hm] at h31
 have h38 : ∀ (h : Hp) n, k38 [.fz (rows Md.l pl) m] h n = some (true, { v := .sg n 0 m, n := n + 1, nw := [(n, { cells := rows Md.l pl, gr := some 9 })] }) := fun h n => by
  simp only [k38, hu9, Option.bind_some, c38, c38', Bool.and_self]
 refine FTL.of_seam (cx := cxT TL11) Try.func11 i11_eq (by simp [i11]) ?_
 dsimp only [i11]
 obtain ⟨bw, ba, bn⟩ := bm
 refine Seam.part (F := F11) hTL11 mo ?_
 dsimp only [F11, TL11]
 simp (maxSteps := 400000) only [go_sem, Dm.l, Bm.a, simprocAttr]
 refine Seam.part (F := F11) hTL11 mo ?_
 dsimp only [F11, TL11]
 simp (maxSteps := 400000) only [go_sem, h32, hd, h31, Dm.l, Bm.a, simprocAttr]
 clear h32 h31
 have cm : decide ((0 : Int) < (m : Int)) = true := decide_eq_true (by omega)
 refine Seam.part (F := F11) hTL11 mo ?_
 dsimp only [F11, TL11]
 simp (maxSteps := 400000) only [go_sem, mz, r0, r1, w0, w1, w0m, w1m, simprocAttr]
 refine Seam.part (F := F11) hTL11 mo ?_
 dsimp only [F11, TL11]
 simp (maxSteps := 400000) only [go_sem, h38, simprocAttr]
 -- one packet is changed
 obtain ⟨pi, hpi⟩ : ∃ p, pl[i0]? = some p := ⟨_, List.getElem?_eq_getElem (by omega)⟩
 obtain ⟨pk, hpk⟩ : ∃ p, pl[k0]? = some p := ⟨_, List.getElem?_eq_getElem (by omega)⟩
 have ci : decide (0 ≤ (i0 : Int) ∧ (i0 : Int) < (m : Int)) = true := decide_eq_true (by omega)
 have ck : decide (0 ≤ (k0 : Int) ∧ (k0 : Int) < (m : Int)) = true := decide_eq_true (by omega)
 have bi := hall pi (List.mem_of_getElem? hpi)
 have bk := hall pk (List.mem_of_getElem? hpk)
 have gi : List.take 9 (List.drop (i0 * 9) (rows Md.l pl)) = pi.l := rows_at Md.len hpi
 have gk : List.take 9 (List.drop (k0 * 9) (rows Md.l pl)) = pk.l := rows_at Md.len hpk
 have gi8 := rows_get (f := Md.l) (j := 8) Md.len hpi rfl
 obtain ⟨q, hq⟩ : ∃ q, q = bmM ⟨bw, ba, bn⟩ pi := ⟨_, rfl⟩
 have hqs := bm_sm ⟨bw, ba, bn⟩ bi
 rw [← hq] at hqs
 have h39 : ∀ (h : Hp) n, k39 [.agg [.i .u8 bw, .i .u8 ba, .i .i64 bn], .agg pi.l] h n = some (true, { v := .agg q.l, n }) := fun h n => by
  simp only [k39, bm3, md9_l, Option.bind_some, hbm, bi, Bool.and_self, hq]
 clear hq
 obtain ⟨s', hs'⟩ : ∃ s', s' = editS ea el tx pi.pl := ⟨_, rfl⟩
 have hpl8 : pi.pl.length ≤ 1000000 := hall8 pi (List.mem_of_getElem? hpi)
 have h19 : ∀ (h : Hp) n, k19 [.agg [.i .u16 ea, .i .u8 el, .s tx], .s pi.pl] h n = some (true, { v := .s s', n }) := fun h n => by
  simp only [k19, decide_eq_true (show (0 ≤ ea ∧ ea ≤ 65535) ∧ (0 ≤ el ∧ el ≤ 255) ∧ pi.pl.length ≤ 1000000 from ⟨hea, hel, hpl8⟩), hs']
 have hps := sm_pl (s := s') bi (by rw [hs']; exact Nat.le_trans edit_len (by omega))
 clear hs'
 have lL : (rows Md.l pl).length = m * 9 := by rw [hm]; exact rows_len Md.len
 have z1 := put9 (l := pl) (i := i0) (q := q) (by omega)
 have z2 := put9_8 (s := s') hpi
 have z3 := put9 (l := pl) (i := i0) (q := pk) (by omega)
 have z4 := put9 (l := pl.set i0 pk) (i := k0) (q := pi) (by rw [List.length_set]; omega)
 have lL2 : (rows Md.l (pl.set i0 pk)).length = m * 9 := by have h := (rows_len Md.len : (rows Md.l (pl.set i0 pk)).length = (pl.set i0 pk).length * 9); rwa [List.length_set, ← hm] at h
 have li : decide (i0 * 9 + 9 ≤ m * 9) = true := decide_eq_true (by omega)
 have li8 : decide (i0 * 9 + 8 + 1 ≤ m * 9) = true := decide_eq_true (by omega)
 have lk : decide (k0 * 9 + 9 ≤ m * 9) = true := decide_eq_true (by omega)
 generalize hp' : (Md.mk pi.ma pi.ty pi.sq pi.tm pi.ss pi.cs pi.xs pi.pd s') = p' at hps z2
 clear hp'
 refine Seam.part (F := F11) hTL11 mo ?_
 dsimp only [F11, TL11]
 simp (maxSteps := 400000) only [go_sem, ci, gi, Md.len, h39, z1, lL, li, Md.one, simprocAttr]
 refine Seam.part (F := F11) hTL11 mo ?_
 dsimp only [F11, TL11]
 simp (maxSteps := 400000) only [go_sem, ci, gi8, h19, z2, lL, li8, simprocAttr]
 refine Seam.part (F := F11) hTL11 mo ?_
 dsimp only [F11, TL11]
 simp (maxSteps := 400000) only [go_sem, ci, ck, gi, gk, z3, z4, lL, lL2, li, lk, Md.len, Md.one, simprocAttr]
 refine Seam.frz (F := F11) (b := 7) (x := .sg 7 0 m) (o := 0) (m := m) (k := { cells := rows Md.l ((pl.set i0 pk).set k0 pi), gr := some 9 }) (cs := rows Md.l ((pl.set i0 pk).set k0 pi))
  (e2 := [(11, .p 4 0), (13, .fz (rows Md.l pl) m), (14, .i .i64 (i0 : Int)), (15, .i .i64 (k0 : Int)), (16, .sg 5 0 m), (17, .sg 6 0 m), (18, .fz (rows Md.l ((pl.set i0 pk).set k0 pi)) m)])
  (h2 := [(6, { cells := rows Md.l (pl.set i0 p'), gr := some 9 }), (5, { cells := rows Md.l (pl.set i0 q), gr := some 9 }), (4, { cells := [.i .u8 a0, .i .u8 a1] })]) ?_ rfl rfl (.inr rfl) (.inl rfl)
  ⟨⟨_, rfl, FzV.refl⟩, ⟨_, rfl, FzV.refl⟩, ⟨_, rfl, FzV.refl⟩, ⟨_, rfl, FzV.refl⟩, ⟨_, rfl, FzV.refl⟩, ⟨_, rfl, FzV.refl⟩, ⟨_, rfl, FzV.hit⟩, trivial⟩
  ⟨⟨by decide, _, rfl, rfl, rfl, rfl, FzVs.refl⟩, ⟨by decide, _, rfl, rfl, rfl, rfl, FzVs.refl⟩, ⟨by decide, _, rfl, rfl, rfl, rfl, FzVs.refl⟩, trivial⟩
 refine Seam.frz (F := F11) (b := 6) (x := .sg 6 0 m) (o := 0) (m := m) (k := { cells := rows Md.l (pl.set i0 p'), gr := some 9 }) (cs := rows Md.l (pl.set i0 p'))
  (e2 := [(11, .p 4 0), (13, .fz (rows Md.l pl) m), (14, .i .i64 (i0 : Int)), (15, .i .i64 (k0 : Int)), (16, .sg 5 0 m), (17, .fz (rows Md.l (pl.set i0 p')) m), (18, .fz (rows Md.l ((pl.set i0 pk).set k0 pi)) m)])
  (h2 := [(5, { cells := rows Md.l (pl.set i0 q), gr := some 9 }), (4, { cells := [.i .u8 a0, .i .u8 a1] })]) ?_ rfl rfl (.inr rfl) (.inl rfl)
  ⟨⟨_, rfl, FzV.refl⟩, ⟨_, rfl, FzV.refl⟩, ⟨_, rfl, FzV.refl⟩, ⟨_, rfl, FzV.refl⟩, ⟨_, rfl, FzV.refl⟩, ⟨_, rfl, FzV.hit⟩, ⟨_, rfl, FzV.refl⟩, trivial⟩
  ⟨⟨by decide, _, rfl, rfl, rfl, rfl, FzVs.refl⟩, ⟨by decide, _, rfl, rfl, rfl, rfl, FzVs.refl⟩, trivial⟩
 refine Seam.frz (F := F11) (b := 5) (x := .sg 5 0 m) (o := 0) (m := m) (k := { cells := rows Md.l (pl.set i0 q), gr := some 9 }) (cs := rows Md.l (pl.set i0 q))
  (e2 := [(11, .p 4 0), (13, .fz (rows Md.l pl) m), (14, .i .i64 (i0 : Int)), (15, .i .i64 (k0 : Int)), (16, .fz (rows Md.l (pl.set i0 q)) m), (17, .fz (rows Md.l (pl.set i0 p')) m), (18, .fz (rows Md.l ((pl.set i0 pk).set k0 pi)) m)])
  (h2 := [(4, { cells := [.i .u8 a0, .i .u8 a1] })]) ?_ rfl rfl (.inr rfl) (.inl rfl)
  ⟨⟨_, rfl, FzV.refl⟩, ⟨_, rfl, FzV.refl⟩, ⟨_, rfl, FzV.refl⟩, ⟨_, rfl, FzV.refl⟩, ⟨_, rfl, FzV.hit⟩, ⟨_, rfl, FzV.refl⟩, ⟨_, rfl, FzV.refl⟩, trivial⟩
  ⟨⟨by decide, _, rfl, rfl, rfl, rfl, FzVs.refl⟩, trivial⟩
 have wi : IntKind.i64.wrap ((i0 : Int) + 1) = (i0 : Int) + 1 := wrapL (by omega) (by omega)
 have eL : cellsAt (rows Md.l pl) 0 (m * 9) = rows Md.l pl := by rw [cellsAt, List.drop_zero, ← lL, List.take_length]
 obtain ⟨del, hdel⟩ : ∃ del, del = pl.take i0 ++ pl.drop (i0 + 1) := ⟨_, rfl⟩
 have h40 : ∀ (h : Hp) (b n : Nat), hget h b = some { cells := rows Md.l pl, gr := some 9 } → k40 [.sg b 0 m, .i .i64 (i0 : Int), .i .i64 ((i0 : Int) + 1)] h n = some (true, { v := .fz (rows Md.l del) (m - 1), n, rd := [b], md := [(b, none)] }) := fun h b n hb => by
  have c1 : decide (0 ≤ (i0 : Int) ∧ i0 < m) = true := decide_eq_true (by omega)
  have c2 : decide (m ≤ 1000000) = true := decide_eq_true (by omega)
  have q5 : Nat.beq 9 9 = true := rfl
  simp only [k40, gvK_g, hb, eL, lL, Option.bind_some, hu9, c1, c2, decide_true, Bool.and_self, Bool.not_false, q5, Int.toNat_natCast, hdel, ← hm, dels]
 obtain ⟨ins, hins⟩ : ∃ ins, ins = Go.Ab.insL pl [pi] i0 := ⟨_, rfl⟩
 have h41 : ∀ (h : Hp) (b b2 n : Nat), hget h b = some { cells := rows Md.l pl, gr := some 9 } → hget h b2 = some { cells := pi.l } → (b == b2) = false → k41 [.sg b 0 m, .i .i64 (i0 : Int), .sl b2 0 1 1] h n = some (true, { v := .fz (rows Md.l ins) (m + 1), n, rd := [b, b2], md := [(b, none), (b2, none)] }) := fun h b b2 n hb hb2 hne => by
  have c1 : decide (0 ≤ (i0 : Int) ∧ i0 ≤ m) = true := decide_eq_true (by omega)
  have c2 : decide (m + 1 ≤ 1000000) = true := decide_eq_true (by omega)
  have e1 : cellsAt pi.l 0 (1 * 9) = pi.l := by rw [cellsAt, List.drop_zero]; exact List.take_of_length_le (by rw [Md.len]; omega)
  have u1 : unrows 9 md9 1 pi.l = some [pi] := by have := unrows_rows Md.len md9_l [pi]; simpa [rows, List.append_nil] using this
  have wr : wrt h [b2] = true := by simp only [wrt, hb2]; rfl
  have nl : inl [b2] b = false := by
   simp only [inl, Bool.or_false]
   exact Bool.eq_false_iff.2 (fun e => by
    have e' : b2 = b := by simpa using e
    subst e'; simp at hne)
  have q5 : Nat.beq 9 9 = true := rfl
  simp only [k41, vwK_s, hb2, e1, Md.len, Nat.one_mul, Nat.le_refl, decide_true, Bool.and_self, Option.bind_some, u1, gvK_g, hb, eL, lL, hu9, wr, nl, Bool.not_false, q5, c1, Int.toNat_natCast, List.length_singleton, ← hm, c2, Nat.zero_lt_one, hins, wrt, dels]
 obtain ⟨p1, hp1⟩ : ∃ p, pl[0]? = some p := ⟨_, List.getElem?_eq_getElem (by omega)⟩
 have g0 : List.take 9 (rows Md.l pl) = p1.l := by have := rows_at (f := Md.l) Md.len hp1; simpa [cellsAt] using this
 have h42 : ∀ (h : Hp) n, k42 [.fz (rows Md.l pl) 1, .i .i64 ((a1.toNat % 70 : Nat) : Int)] h n = some (true, { v := .fz (rows Md.l (List.replicate (a1.toNat % 70) p1)) (a1.toNat % 70), n }) := fun h n => by
  have c1 : decide (0 ≤ ((a1.toNat % 70 : Nat) : Int) ∧ ((a1.toNat % 70 : Nat) : Int) ≤ 255) = true := decide_eq_true (by omega)
  simp only [k42, g0, md9_l, Option.bind_some, hLb, decide_true, c1, Bool.and_self, Int.toNat_natCast]
 obtain ⟨kk, hkk⟩ : ∃ kk, kk = a1.toNat % 70 := ⟨_, rfl⟩
 rw [← hkk] at h42
 have wr70 : a1.tmod 70 = (kk : Int) := by
  rw [Int.tmod_eq_emod_of_nonneg ha1.1, hkk]
  have : a1 = (a1.toNat : Int) := by omega
  rw [this]; simp
 have wkk : IntKind.i64.wrap (kk : Int) = (kk : Int) := wrapL (by omega) (by omega)
 have m1 : decide ((0 : Int) ≤ 1 ∧ (1 : Int) ≤ (m : Int)) = true := decide_eq_true (by omega)
 have m1' : decide ((1 : Int) ≤ (m : Int)) = true := decide_eq_true (by omega)
 refine Seam.run (F := F11) hTL11 mo ?_
 dsimp only [F11, TL11]
 simp (maxSteps := 400000) only [go_sem, h38, ci, gi, Md.len, wi, h40, h41, h42, w1, wr70, wkk, m1, m1', simprocAttr]
 obtain ⟨ls, hls, hl7, hA⟩ : ∃ ls : List (List Md), (∀ l ∈ ls, (∀ p ∈ l, smB p = true) ∧ l.length ≤ 1000) ∧ ls.length = 7 ∧ [AV.fz (rows Md.l pl) m, AV.fz (rows Md.l (pl.set i0 q)) m, AV.fz (rows Md.l (pl.set i0 p')) m,
  AV.fz (rows Md.l ((pl.set i0 pk).set k0 pi)) m, AV.fz (rows Md.l del) (m - 1), AV.fz (rows Md.l ins) (m + 1), AV.fz (rows Md.l (List.replicate kk p1)) kk] = ls.map fun l => AV.fz (rows Md.l l) l.length := by
  have ho : ∀ p ∈ pl, smB p = true := fun p hp => sm_of (hall p hp)
  have hi' := ho pi (List.mem_of_getElem? hpi)
  have hk' := ho pk (List.mem_of_getElem? hpk)
  have h1' := ho p1 (List.mem_of_getElem? hp1)
  have hdl' : del.length = m - 1 := by rw [hdel, List.length_append, List.length_take, List.length_drop]; omega
  have hil' : ins.length = m + 1 := by rw [hins, Go.Ab.insL]; simp only [List.length_append, List.length_take, List.length_drop, List.length_singleton]; omega
  refine ⟨[pl, pl.set i0 q, pl.set i0 p', (pl.set i0 pk).set k0 pi, del, ins, List.replicate kk p1], ?_, rfl, ?_⟩
  · intro l hl
    simp only [List.mem_cons, List.not_mem_nil, or_false] at hl
    rcases hl with h | h | h | h | h | h | h <;> subst h
    · exact ⟨ho, by omega⟩
    · exact ⟨set_all ho hqs, by rw [List.length_set]; omega⟩
    · exact ⟨set_all ho hps, by rw [List.length_set]; omega⟩
    · exact ⟨set_all (set_all ho hk') hi', by rw [List.length_set, List.length_set]; omega⟩
    · refine ⟨fun p hp => ?_, by omega⟩
      rw [hdel] at hp
      rcases List.mem_append.1 hp with h | h
      · exact ho p (List.mem_of_mem_take h)
      · exact ho p (List.mem_of_mem_drop h)
    · refine ⟨fun p hp => ?_, by omega⟩
      rw [hins, Go.Ab.insL] at hp
      simp only [List.mem_append, List.mem_singleton] at hp
      rcases hp with h | h | h
      · exact ho p (List.mem_of_mem_take h)
      · subst h; exact hi'
      · exact ho p (List.mem_of_mem_drop h)
    · refine ⟨fun p hp => ?_, by rw [List.length_replicate]; omega⟩
      rw [(List.mem_replicate.1 hp).2]; exact h1'
  · simp only [List.map_cons, List.map_nil, List.length_set, ← hm, hdl', hil', List.length_replicate]
 rw [hA]
 have hAb : ∀ j, belL j (ls.map fun l => AV.fz (rows Md.l l) l.length) = true := fun j => by
  clear hA hls hl7
  induction ls with
  | nil => rfl
  | cons x r ih => simp only [List.map_cons, belL, AV.bel, hrM, ih, Bool.and_self]
 refine Loop.countI (F := F11) hTL11 mo 7 (fun _ => True)
  (fun k => [(108, .agg (ls.map fun l => AV.fz (rows Md.l l) l.length)), (109, .i .i64 (k : Int))])
  (fun k => []) 11 (by decide) trivial ?_ ?_ (fun k hk _ => ?_)
 · simp (maxSteps := 400000) only [go_sem, AV.bel, belL, nblt, hAb, simprocAttr]
 · simp (maxSteps := 400000) only [go_sem, simprocAttr]
 dsimp only [F11, TL11]
 by_cases hlt : k < 7
 · have c1 : decide ((k : Int) < 7) = true := decide_eq_true (by omega)
   have c2 : decide (0 ≤ (k : Int) ∧ (k : Int) < 7) = true := decide_eq_true (by omega)
   have hw : IntKind.i64.wrap ((k : Int) + 1) = ((k + 1 : Nat) : Int) := by rw [wrapL (by omega) (by omega)]; omega
   obtain ⟨l, hl⟩ : ∃ l, ls[k]? = some l := ⟨_, List.getElem?_eq_getElem (by omega)⟩
   obtain ⟨hs, hlen⟩ := hls l (List.mem_of_getElem? hl)
   obtain ⟨f1, f2⟩ := sm_fin hs
   have hul : unrows 9 md9 l.length (rows Md.l l) = some l := unrows_rows Md.len md9_l l
   have cl : decide (l.length ≤ 9223372036854775807) = true := decide_eq_true (by omega)
   have hbl := hrM 3 l
   have h33 : ∀ (h : Hp) n, k33 [.fz (rows Md.l l) l.length] h n = some (true, { v := joinV (joinS l), n, rd := [] }) := fun h n => by
    simp only [k33, vwK_rows Md.len, hul, Option.bind_some, cl, f1, f2, Bool.and_self]
   have h43 : ∀ (h : Hp) n, k43 [.fz (rows Md.l l) l.length] h n = some (true, { v := joinV (joinS l), n, rd := [] }) := fun h n => by
    simp only [k43, vwK_rows Md.len, hul, Option.bind_some, cl, f1, f2, Bool.and_self]
   have gA : (ls.map fun l => AV.fz (rows Md.l l) l.length)[k]? = some (.fz (rows Md.l l) l.length) := by rw [List.getElem?_map, hl]; rfl
   generalize (ls.map fun l => AV.fz (rows Md.l l) l.length) = A at *
   generalize rows Md.l l = LL at *
   generalize joinS l = R at h33 h43
   obtain ⟨⟨g, tm, ⟨s1, s2, s3, s4, s5, s6, s7, s8⟩, da⟩, er⟩ := R
   simp only [joinV, Fr.l] at h33 h43
   simp (maxSteps := 400000) only [go_sem, c1, c2, hw, gA, h33, h43, hlt, Nat.mul_one, AV.bel, belL, nblt, hAb, hbl, simprocAttr]
 · have c1 : decide ((k : Int) < 7) = false := decide_eq_false (by omega)
   obtain rfl : k = 7 := by omega
   simp (maxSteps := 400000) only [go_sem, c1, k18, simprocAttr]
   exact Ends.pureE rfl rfl
end Go.Proofs.Pic
