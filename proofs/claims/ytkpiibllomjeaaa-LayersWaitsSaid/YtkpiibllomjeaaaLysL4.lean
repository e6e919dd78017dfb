/- Chapter 41: LayersPushes, the walk. -/
import Derived.Test.YtkpiibllomjeaaaLysDc
import Derived.Test.YtkpiibllomjeaaaLysKb
import Derived.Test.YtkpiibllomjeaaaAbWkS
import Derived.Test.YtkpiibllomjeaaaLysI4
namespace Go.Proofs.Lys
open Go.Ab
set_option maxRecDepth 100000
set_option maxHeartbeats 8000000
set_option linter.unusedSimpArgs false
set_option linter.unusedVariables false
/-! SamePackets (of one list twice) -/
def okQ (p : Md) : Bool := decide (p.cs.length ≤ 9223372036854775807) && decide (p.xs.length ≤ 9223372036854775807)
def okL (l : List Md) : Bool := decide (l.length ≤ 1) && l.all okQ
noncomputable def T24 : List (Nat × Ct) := [(64, k64)]
theorem hT24 : Sound Try.prog (cxT T24) := Sound.cons s64 Sound.nil
theorem w24 (l : List Md) (h : okL l = true) : FTL Try.prog 24 [.fz (rows Md.l l) l.length, .fz (rows Md.l l) l.length] [] 0 (.b true) [] 0 := by
 simp only [okL, Bool.and_eq_true, decide_eq_true_eq] at h
 obtain ⟨h1, h2⟩ := h
 refine FTL.of_iw hT24 mo Try.func24 i24_eq (by simp [i24]) (iw_of_jw ?_)
 dsimp only [i24, T24]
 match l, h1, h2 with
 | [], _, _ =>
  simp only [rows, List.map_nil, List.flatten_nil, List.length_nil]
  simp (maxSteps := 400000) only [go_sem, simprocAttr]
  refine Loop.rounds (F := ⟨Try.prog, cxT T24, [10, 14, 26], 27, 0⟩) 2 hT24 mo ?_
  dsimp only [T24]
  simp (maxSteps := 400000) only [go_sem, lp, simprocAttr]
  exact Ends.pureE rfl rfl
 | [p], _, h2 =>
  simp only [List.all_cons, List.all_nil, Bool.and_true, okQ, Bool.and_eq_true] at h2
  have hk : ∀ (h : Hp) n, k64 [.agg p.l, .agg p.l] h n = some (true, { v := .b true, n }) := fun h n => by
   simp only [k64, md9_l, Option.bind_some, if_true, h2.1, h2.2, Bool.and_self]
  have hr : rows Md.l [p] = p.l := by simp [rows]
  have pl : p.l.length = 9 := rfl
  have pt : List.take 9 p.l = p.l := List.take_of_length_le (Nat.le_refl 9)
  rw [hr]
  simp only [List.length_cons, List.length_nil]
  generalize p.l = PL at *
  simp (maxSteps := 400000) only [go_sem, simprocAttr]
  refine Loop.rounds (F := ⟨Try.prog, cxT T24, [10, 14, 26], 27, 0⟩) 2 hT24 mo ?_
  dsimp only [T24]
  simp (maxSteps := 400000) only [go_sem, lp, hk, pl, pt, List.drop_zero, simprocAttr]
  exact Ends.pureE rfl rfl
 | _ :: _ :: _, h1, _ => exact absurd h1 (by simp)
noncomputable def k24 : Ct
 | [.fz L m, .fz L' m'], _, n => (unrows 9 md9 m L).bind fun l => open Classical in if L = L' ∧ m = m' then some (okL l, { v := .b true, n }) else none
 | _, _, _ => none
theorem k24_a (l : List Md) (h : Hp) (n : Nat) : k24 [.fz (rows Md.l l) l.length, .fz (rows Md.l l) l.length] h n = some (okL l, { v := .b true, n }) := by
 simp only [k24, unrows_rows Md.len md9_r, Option.bind_some, and_self, if_true]
theorem s24 : SoundAt Try.prog 24 k24 := fun args h n c E hc ht => by
 unfold k24 at hc
 split at hc
 · simp only [Option.bind_eq_some_iff] at hc
   obtain ⟨l, hl, hc⟩ := hc
   split at hc
   · rename_i he
     obtain ⟨rfl, rfl⟩ := he
     obtain ⟨rfl, hm⟩ := unrows_eq (f := Md.l) (fun c a h => md9_eq h) hl
     subst hm
     cases hc
     exact CallOK.pure (by kernel_rfl) (by simp only [belL, AV.bel, mdB', Bool.and_self]) rfl (w24 l ht) _ _
   · cases hc
 · cases hc
theorem toldL_o (s : Sw) (k : Int) (p : Md) (x : Sh) (h : okQ p = true) : okL (toldL s k p x).2 = true := by
 unfold toldL
 cases advB (takeS s k p x) k p
 · rfl
 · cases dropB (frameS (advS (takeS s k p x) k p) x) x
   · simp only [cond_true, cond_false, okL, List.all_cons, List.all_nil, Bool.and_true]
     exact h
   · rfl
theorem pushS_o (s : Sw) (p : Md) (h : okQ p = true) : okL (pushS s p).2.1 = true := by
 unfold pushS
 cases goodW s
 · rfl
 cases mdB p
 · rfl
 cases decide (ixS s.l p.ss < 0)
 · cases ((dec p.pl).2.2 == 0)
   · rfl
   · exact toldL_o _ _ _ _ h
 · rfl
theorem pushS_le (s : Sw) (p : Md) : (pushS s p).1.l.length ≤ s.l.length := by
 unfold pushS
 cases goodW s
 · exact Nat.zero_le _
 cases mdB p
 · exact Nat.zero_le _
 cases decide (ixS s.l p.ss < 0)
 · cases ((dec p.pl).2.2 == 0)
   · exact Nat.zero_le _
   · simp only [cond_true, cond_false, toldL_l]; exact Nat.le_refl _
 · exact Nat.zero_le _
theorem fin_ok {p : Md} (h : p.fin = true) : okQ p = true := by
 simp only [Md.fin, Bool.and_eq_true] at h
 simp only [okQ, h.1.1.1, h.1.1.2, Bool.and_self]
theorem turn_ok (t : Tx) {p : Md} (h : pkOK p = true) : pkOK (turnS t p) = true := by
 simp only [pkOK, Md.fin, Bool.and_eq_true, decide_eq_true_eq] at h ⊢
 have := turnL_len t p.pl
 refine ⟨⟨h.1.1, ?_⟩, ?_⟩
 · show (turnL t p.pl).length ≤ _; have := h.1.2; omega
 · show (turnL t p.pl).length ≤ _; have := h.2; omega
noncomputable def T4 : List (Nat × Ct) := [(8, k8), (9, k9), (15, k14), (16, k16), (19, k19), (20, k20), (21, k21), (22, k22), (23, k22), (24, k24), (25, k25)]
theorem hT4 : Sound Try.prog (cxT T4) := Sound.cons s8 (Sound.cons s9 (Sound.cons s15 (Sound.cons s16 (Sound.cons s19 (Sound.cons s20 (Sound.cons s21 (Sound.cons s22 (Sound.cons s23 (Sound.cons s24 (Sound.cons s25 Sound.nil))))))))))
noncomputable abbrev F4 : Fx := ⟨Try.prog, cxT T4, [65, 77, 87, 95, 125, 137, 148], 160, 0⟩
def cutM (p : Md) : Md := { p with pl := p.pl.take (min p.pl.length 50), cs := p.cs.take (min p.cs.length 16), xs := p.xs.take (min p.xs.length 17) }
theorem cutM_ok {p : Md} (h : p.fin = true) : pkOK (cutM p) = true := by
 simp only [Md.fin, Bool.and_eq_true, decide_eq_true_eq, List.all_eq_true] at h
 simp only [pkOK, cutM, Md.fin, Bool.and_eq_true, decide_eq_true_eq, List.all_eq_true, List.length_take]
 exact ⟨⟨⟨⟨by omega, by omega⟩, fun x hx => h.1.2 x (List.mem_of_mem_take hx)⟩, by omega⟩, by omega⟩
theorem w4 (d : Dr) (x : Bx) (t : Tx) (ac : List Ac) (raw : Md) (hd : d.ok = true) (hx : x.okB = true) (ht : t.okB = true) (hal : ac.length ≤ 9223372036854775807) (hao : ∀ a ∈ ac, a.ok = true) (hr : raw.fin = true) :
 FTL Try.prog 4 [.agg d.l, .agg x.a, .agg t.a, .fz (rows Ac.l ac) ac.length, .agg raw.l] [] 0 (.b true) [] 0 := by
 have hdr := dr21_l d
 have hk8 : ∀ (h : Hp) n, k8 [.agg d.l] h n = some (true, { v := .agg (switchS d).a, n }) := fun h n => by simp only [k8, hdr, Option.bind_some, hd]
 have hPI : PlI (switchS d) := (beginS_i hd).N d.ac (min d.ac.length 40)
 generalize switchS d = P at *
 have hDb := Dr.bel d
 have hDl : d.l.length = 21 := rfl
 have hDt : List.take 21 d.l = d.l := List.take_of_length_le (by rw [hDl]; omega)
 generalize d.l = DL at *
 have hrk := cutM_ok hr
 simp only [Md.fin, Bool.and_eq_true, decide_eq_true_eq] at hr
 obtain ⟨⟨⟨rc1, rc2⟩, -⟩, rc3⟩ := hr
 have hraw : Md.l (cutM raw) = [.b raw.ma, .i .i64 raw.ty, .i .i64 raw.sq, .i .i64 raw.tm, .i .i64 raw.ss, .fz (rows int1 (raw.cs.take (min raw.cs.length 16))) (raw.cs.take (min raw.cs.length 16)).length, .fz (rows xtR (raw.xs.take (min raw.xs.length 17))) (raw.xs.take (min raw.xs.length 17)).length, .i .i64 raw.pd, .s (raw.pl.take (min raw.pl.length 50))] := rfl
 generalize hRW : cutM raw = rw_ at *
 obtain ⟨ma, pty, psq, ptm, pss, cs, xs, pd, pl⟩ := raw
 simp only [Md.l]
 dsimp only at *
 have hm1 : min (cs.length : Int) 16 = ((min cs.length 16 : Nat) : Int) := by omega
 have hm2 : min (xs.length : Int) 17 = ((min xs.length 17 : Nat) : Int) := by omega
 have hm3 : min (pl.length : Int) 50 = ((min pl.length 50 : Nat) : Int) := by omega
 have hm4 : min (ac.length : Int) 8 = ((min ac.length 8 : Nat) : Int) := by omega
 have le1 : min cs.length 16 ≤ cs.length := Nat.min_le_left _ _
 have le2 : min xs.length 17 ≤ xs.length := Nat.min_le_left _ _
 have le3 : min pl.length 50 ≤ pl.length := Nat.min_le_left _ _
 have le4 : min ac.length 8 ≤ ac.length := Nat.min_le_left _ _
 generalize min cs.length 16 = M1 at *
 generalize min xs.length 17 = M2 at *
 generalize min pl.length 50 = M3 at *
 generalize min ac.length 8 = M at *
 have cM1 : decide (0 ≤ (M1 : Int) ∧ (M1 : Int) ≤ (cs.length : Int)) = true := decide_eq_true (by omega)
 have cM2 : decide (0 ≤ (M2 : Int) ∧ (M2 : Int) ≤ (xs.length : Int)) = true := decide_eq_true (by omega)
 have cM3 : decide (0 ≤ (M3 : Int) ∧ (M3 : Int) ≤ (pl.length : Int)) = true := decide_eq_true (by omega)
 have cM4 : decide (0 ≤ (M : Int) ∧ (M : Int) ≤ (ac.length : Int)) = true := decide_eq_true (by omega)
 have hsb : sbound pl.length pl.length none (some (M3 : Int)) none = (true, 0, M3, pl.length) := by rw [sb_hi_, decide_eq_true (by omega)]; simp
 have qa1 := Pl.len
 have qa2 := Pl.t24
 have qa3 := Pl.one
 refine FTL.of_seam (cx := cxT T4) Try.func4 i4_eq (by simp [i4]) ?_
 dsimp only [i4]
 refine Seam.part (F := F4) hT4 mo ?_
 try dsimp only [F4, T4]
 simp (maxSteps := 400000) only [go_sem, simprocAttr]
 refine Seam.part (F := F4) hT4 mo ?_
 try dsimp only [F4, T4]
 simp (maxSteps := 400000) only [go_sem, hk8, hDl, hDt, qa1, qa2, qa3, List.drop_zero, simprocAttr]
 refine Seam.part (F := F4) hT4 mo ?_
 try dsimp only [F4, T4]
 simp (maxSteps := 400000) only [go_sem, hm1, hm2, hm3, minI, cM1, cM2, cM3, hsb, List.drop_zero, Nat.sub_zero, Int.toNat_natCast, simprocAttr]
 have l1 : (cs.take M1).length = M1 := by rw [List.length_take]; omega
 have l2 : (xs.take M2).length = M2 := by rw [List.length_take]; omega
 rw [l1, l2] at hraw
 have k1 : rows int1 (cs.take M1) = List.take (M1 * 1) (rows int1 cs) := (rows_take (f := int1) (z := 1) int1_len).symm
 have k2 : rows xtR (xs.take M2) = List.take (M2 * 2) (rows xtR xs) := (rows_take (f := xtR) (z := 2) xtR_len).symm
 rw [k1, k2] at hraw
 refine Seam.wk (e2 := [(3, .fz (rows Ac.l ac) ac.length), (6, .p 1 0), (7, .p 2 0), (9, .p 3 0), (11, .p 4 0)])
  (h2 := [(4, { cells := P.a }), (3, { cells := rw_.l }), (2, { cells := t.a }), (1, { cells := x.a })]) ?_ ?_ ?_
 rotate_left
 · refine ⟨⟨_, rfl, Wka.refl _⟩, ⟨_, rfl, Wka.refl _⟩, ⟨_, rfl, Wka.refl _⟩, ⟨_, rfl, Wka.refl _⟩, ⟨_, rfl, Wka.refl _⟩, trivial⟩
 · refine ⟨⟨_, rfl, rfl, rfl, rfl, WkaL.refl _⟩, ⟨_, rfl, rfl, rfl, rfl, ?_⟩, ⟨_, rfl, rfl, rfl, rfl, WkaL.refl _⟩, ⟨_, rfl, rfl, rfl, rfl, WkaL.refl _⟩, trivial⟩
   rw [hraw]
   exact ⟨Wka.refl _, Wka.refl _, Wka.refl _, Wka.refl _, Wka.refl _, Wka.take _ _ _, Wka.take _ _ _, Wka.refl _, Wka.refl _, trivial⟩
 refine Seam.run (F := F4) hT4 mo ?_
 try dsimp only [F4, T4]
 simp (maxSteps := 400000) only [go_sem, hm4, minI, cM4, List.drop_zero, Nat.sub_zero, Int.toNat_natCast, simprocAttr]
 have aT : ∀ (u v : Sw), List.take 18 (u.a ++ v.a) = u.a := fun u v => by rw [List.take_append_of_le_length (by rw [Sw.len]; omega)]; exact Sw.t18 u
 have aT' : ∀ (u : Sw) (r : List AV), List.take 18 (u.a ++ r) = u.a := fun u r => by rw [List.take_append_of_le_length (by rw [Sw.len]; omega)]; exact Sw.t18 u
 have aD : ∀ (u : Sw) (r : List AV), List.drop 18 (u.a ++ r) = r := fun u r => by rw [List.drop_append, Sw.len, List.drop_of_length_le (by rw [Sw.len]; omega)]; rfl
 have aD2 : ∀ (u : Sw) (r : List AV), List.drop 36 (u.a ++ r) = List.drop 18 r := fun u r => by rw [List.drop_append, Sw.len, List.drop_of_length_le (by rw [Sw.len]; omega)]; rfl
 have aL : ∀ (u : Sw) (r : List AV), (u.a ++ r).length = 18 + r.length := fun u r => by rw [List.length_append, Sw.len]
 have mlen : ∀ q : Md, q.l.length = 9 := fun q => rfl
 have mt : ∀ q : Md, List.take 9 q.l = q.l := fun q => List.take_of_length_le (Nat.le_refl 9)
 have mo1 : ∀ q : Md, oneAll q.l = true := fun q => rfl
 have bT' : ∀ (u : Md) (r : List AV), List.take 9 (u.l ++ r) = u.l := fun u r => by rw [List.take_append_of_le_length (Nat.le_refl 9)]; exact mt u
 have bD : ∀ (u : Md) (r : List AV), List.drop 9 (u.l ++ r) = r := fun u r => by rw [List.drop_append, mlen, List.drop_of_length_le (Nat.le_refl 9)]; rfl
 have bD2 : ∀ (u : Md) (r : List AV), List.drop 18 (u.l ++ r) = List.drop 9 r := fun u r => by rw [List.drop_append, mlen, List.drop_of_length_le (by rw [mlen]; omega)]; rfl
 have bL : ∀ (u : Md) (r : List AV), (u.l ++ r).length = 9 + r.length := fun u r => by rw [List.length_append, mlen]
 have xl : x.a.length = 3 := rfl
 have xt : List.take 3 x.a = x.a := List.take_of_length_le (Nat.le_refl 3)
 have tl : t.a.length = 4 := rfl
 have tt : List.take 4 t.a = t.a := List.take_of_length_le (Nat.le_refl 4)
 have xb : ∀ j, belL j x.a = true := fun _ => rfl
 have tb : ∀ j, belL j t.a = true := fun _ => rfl
 have acb : ∀ j, belL j (rows Ac.l ac) = true := fun j => acB j ac
 have plb : ∀ (p : Pl) j, belL j p.a = true := fun p j => Pl.bel j p
 have mdb : ∀ (q : Md) j, belL j q.l = true := fun q j => md_bel q j
 have pt2 := Pl.t18
 have pd := Pl.d18
 have so := Sw.one
 have sl := Sw.len
 have stt := Sw.t18
 have g9 : ∀ (s : Sw) (h : Hp) n, s.l.length ≤ 3 → k9 [.agg x.a, .agg s.a] h n = some (true, { v := .agg (bendS x s).a, n }) := fun s h n h2 => by
  have : decide (s.l.length ≤ 1000000) = true := decide_eq_true (by omega)
  simp only [k9, bx3_a, swA_a, Option.bind_some, hx, this, Bool.and_self]
 have g21 : ∀ (q : Md) (h : Hp) n, pkOK q = true → k21 [.agg t.a, .agg q.l] h n = some (true, { v := .agg (turnS t q).l, n }) := fun q h n h2 => by
  have : decide (q.pl.length ≤ 1000000000) = true := decide_eq_true (by simp only [pkOK, Bool.and_eq_true, decide_eq_true_eq] at h2; omega)
  simp only [k21, tx4_a, md9_l, Option.bind_some, ht, this, Bool.and_self]
 have g22 : ∀ (s : Sw) (q : Md) (h : Hp) n, s.l.length ≤ 4 → pkOK q = true → k22 [.agg s.a, .agg q.l] h n = some (true, { v := .tup [.agg (pushS s q).1.a, .fz (rows Md.l (pushS s q).2.1) (pushS s q).2.1.length, .i .i64 (pushS s q).2.2], n }) := fun s q h n h1 h2 => by
  have : pushC s q = true := by
   simp only [pkOK, Bool.and_eq_true, decide_eq_true_eq] at h2
   simp only [pushC, Bool.and_eq_true, decide_eq_true_eq]
   exact ⟨by omega, h2.1, by omega⟩
  simp only [k22, swA_a, md9_l, Option.bind_some, this, pushV]
 have g16 : ∀ (s : Sw) (q : Md) (h : Hp) n, s.l.length ≤ 4 → k16 [.agg (pushS s q).1.a, .agg (pushS s q).1.a] h n = some (true, { v := .b true, n }) := fun s q h n h1 => by
  have : decide ((pushS s q).1.l.length ≤ 9223372036854775807) = true := decide_eq_true (by have := pushS_le s q; omega)
  rw [k16_a, this]
 have g24 : ∀ (s : Sw) (q : Md) (h : Hp) n, pkOK q = true → k24 [.fz (rows Md.l (pushS s q).2.1) (pushS s q).2.1.length, .fz (rows Md.l (pushS s q).2.1) (pushS s q).2.1.length] h n = some (true, { v := .b true, n }) := fun s q h n h1 => by
  simp only [pkOK, Bool.and_eq_true] at h1
  rw [k24_a, pushS_o s q (fin_ok h1.1)]
 refine Loop.by (F := F4) hT4 mo (X := Pl × Nat) (fun y => PlI y.1 ∧ y.2 ≤ M) (fun y => M - y.2)
  (fun y => [(6, .p 1 0), (7, .p 2 0), (9, .p 3 0), (11, .p 4 0), (62, .fz (rows Ac.l ac) M), (63, .i .i64 (M : Int)), (64, .i .i64 (y.2 : Int))])
  (fun y => [(4, { cells := y.1.a }), (3, { cells := rw_.l }), (2, { cells := t.a }), (1, { cells := x.a })]) 5 (P, 0) (by decide) ⟨hPI, Nat.zero_le _⟩ ?_ ?_ (fun y hy => ?_)
 · simp (maxSteps := 400000) only [go_sem, acb, AV.bel, belL, nblt, simprocAttr]
 · simp (maxSteps := 400000) only [go_sem, plb, mdb, xb, tb, AV.bel, belL, nblt, simprocAttr]
 obtain ⟨p, k⟩ := y
 obtain ⟨hp, hkM⟩ := hy
 dsimp only [F4, T4] at hp hkM ⊢
 by_cases hlt : k < M
 rotate_left
 · have c1 : decide ((k : Int) < (M : Int)) = false := decide_eq_false (by omega)
   simp (maxSteps := 400000) only [go_sem, c1, k19, simprocAttr]
   exact Ends.pureE rfl rfl
 have c1 : decide ((k : Int) < (M : Int)) = true := decide_eq_true (by omega)
 have c3 : decide (0 ≤ (k : Int) ∧ (k : Int) < (M : Int)) = true := decide_eq_true (by omega)
 have hw : IntKind.i64.wrap ((k : Int) + 1) = ((k + 1 : Nat) : Int) := by rw [wrapL (by omega) (by omega)]; omega
 obtain ⟨a, ha⟩ : ∃ a, ac[k]? = some a := ⟨_, List.getElem?_eq_getElem (by omega)⟩
 have rx : List.take 4 (List.drop (k * 4) (rows Ac.l ac)) = a.l := rows_at Ac.len ha
 have al : a.l.length = 4 := rfl
 have at4 : List.take 4 a.l = a.l := List.take_of_length_le (Nat.le_refl 4)
 have ao1 : oneAll a.l = true := rfl
 have haO := hao a (List.mem_of_getElem? ha)
 have haO2 := haO
 simp only [Ac.ok, Bool.and_eq_true] at haO2
 have m8 := (u8m8 haO2.1).1
 have a0 : a.l[0]? = some (.i .u8 a.wh) := rfl
 have hx4 := ac4_l a
 have hnx := hp.next a
 have hk20 : ∀ (h : Hp) n, k20 [.agg p.a, .agg a.l] h n = some (true, { v := .tup [.agg (nextS p a).1.a, .agg (nextS p a).2.1.l, .b (nextS p a).2.2], n }) := fun h n => by
  simp only [k20, plA_a, hx4, Option.bind_some, hp.ok, haO, Bool.and_self, nextV]
 have hk25 : ∀ (h : Hp) n, k25 [.agg a.l] h n = some (true, { v := .tup [.i .i64 (wishS a).1, .i .i64 (wishS a).2], n }) := fun h n => by
  simp only [k25, hx4, Option.bind_some, haO]
 generalize nextS p a = N at *
 obtain ⟨p1, m0, is⟩ := N
 dsimp only at hnx hk20
 obtain ⟨hp1, hm0⟩ := hnx
 have hmk : ∃ m : Md, pkOK m = true ∧ m = bif is then m0 else rw_ := by
  cases is
  · exact ⟨rw_, hrk, rfl⟩
  · exact ⟨m0, hm0, rfl⟩
 obtain ⟨m, hm, hmd⟩ := hmk
 have hl3 := hp1.l
 have hl4 : (bendS x p1.s).l.length ≤ 4 := by have := bendS_l x p1.s; omega
 have htm := turn_ok t hm
 have hl34 : p1.s.l.length ≤ 4 := by omega
 have f9 := fun h n => g9 p1.s h n hl3
 have f21 := fun h n => g21 m h n hm
 have f22a := fun h n => g22 p1.s m h n hl34 hm
 have f22b := fun h n => g22 p1.s (turnS t m) h n hl34 htm
 have f22c := fun h n => g22 (bendS x p1.s) m h n hl4 hm
 have f22d := fun h n => g22 (bendS x p1.s) (turnS t m) h n hl4 htm
 have f16a := fun h n => g16 p1.s m h n hl34
 have f16b := fun h n => g16 p1.s (turnS t m) h n hl34
 have f16c := fun h n => g16 (bendS x p1.s) m h n hl4
 have f16d := fun h n => g16 (bendS x p1.s) (turnS t m) h n hl4
 have f24a := fun h n => g24 p1.s m h n hm
 have f24b := fun h n => g24 p1.s (turnS t m) h n htm
 have f24c := fun h n => g24 (bendS x p1.s) m h n hm
 have f24d := fun h n => g24 (bendS x p1.s) (turnS t m) h n htm
 have hpu : (pushS p1.s m).1.l.length ≤ 3 := pushS_l hl3
 have g14 : ∀ (s : Sw) (h : Hp) n, s.l.length ≤ 3 → ∀ la ai, k14 [.agg s.a, .i .i64 la, .i .i64 ai] h n = some (true, { v := .tup [.agg (wantS s la ai).1.a, .i .i64 (wantS s la ai).2], n }) := fun s h n hs la ai => by
  have : decide (s.l.length ≤ 9223372036854775807) = true := decide_eq_true (by omega)
  simp only [k14, swA_a, Option.bind_some, this, swV]
 have f14a := fun h n => g14 p1.s h n hl3 (wishS a).1 (wishS a).2
 have f14b := fun h n => g14 (pushS p1.s m).1 h n hpu (wishS a).1 (wishS a).2
 have hfin : ∀ S : Sw, S.l.length ≤ 3 → ∃ x' : Pl × Nat, ((PlI x'.1 ∧ x'.2 ≤ M) ∧ M - x'.2 < M - k) ∧ x' = ({ p1 with s := S }, k + 1) := fun S hS => ⟨_, ⟨⟨hp1.sw hS, by show k + 1 ≤ M; omega⟩, by show M - (k + 1) < M - k; omega⟩, rfl⟩
 have prl : p1.r.length = 6 := rfl
 have pe := Pl.d24
 have me : ∀ q : Md, List.drop 9 q.l = [] := fun _ => rfl
 have pla : ∀ S : Sw, Pl.a { p1 with s := S } = S.a ++ p1.r := fun S => rfl
 have pla0 : p1.a = p1.s.a ++ p1.r := rfl
 have hpb : ∀ (S : Sw) j, belL j (S.a ++ p1.r) = true := fun S j => Pl.bel j { p1 with s := S }
 cases is
 · obtain rfl : m = rw_ := hmd
   simp (maxSteps := 400000) only [go_sem, prl, pe, me, c1, c3, hw, rx, al, at4, ao1, a0, m8, hk20, hk25, qa1, qa2, qa3, pt2, pd, so, sl, stt, mlen, mt, mo1, xl, xt, tl, tt, aT, aT', aD, aD2, aL, bT', bD, bD2, bL, f9, f21, f22a, f22b, f22c, f22d, f16a, f16b, f16c, f16d, f24a, f24b, f24c, f24d, f14a, f14b, List.drop_zero, List.take_zero, List.nil_append, List.append_nil, bne_self_eq_false, beq_self_eq_true, simprocAttr]
   refine Loop.rounds (F := F4) 3 hT4 mo ?_
   dsimp only [F4, T4]
   simp (maxSteps := 400000) only [go_sem, lp, prl, pe, me, c1, c3, hw, rx, al, at4, ao1, a0, m8, hk20, hk25, qa1, qa2, qa3, pt2, pd, so, sl, stt, mlen, mt, mo1, xl, xt, tl, tt, aT, aT', aD, aD2, aL, bT', bD, bD2, bL, f9, f21, f22a, f22b, f22c, f22d, f16a, f16b, f16c, f16d, f24a, f24b, f24c, f24d, f14a, f14b, List.drop_zero, List.take_zero, List.nil_append, List.append_nil, bne_self_eq_false, beq_self_eq_true, simprocAttr]
   refine Loop.rounds (F := F4) 3 hT4 mo ?_
   dsimp only [F4, T4]
   simp (maxSteps := 400000) only [go_sem, lp, prl, pe, me, c1, c3, hw, rx, al, at4, ao1, a0, m8, hk20, hk25, qa1, qa2, qa3, pt2, pd, so, sl, stt, mlen, mt, mo1, xl, xt, tl, tt, aT, aT', aD, aD2, aL, bT', bD, bD2, bL, f9, f21, f22a, f22b, f22c, f22d, f16a, f16b, f16c, f16d, f24a, f24b, f24c, f24d, f14a, f14b, List.drop_zero, List.take_zero, List.nil_append, List.append_nil, bne_self_eq_false, beq_self_eq_true, simprocAttr]
   refine Loop.rounds (F := F4) 3 hT4 mo ?_
   dsimp only [F4, T4]
   cases e0 : ((pushS p1.s m).2.2 == 0)
   · cases e7 : (a.wh % 8 == 7)
     · simp (maxSteps := 400000) only [go_sem, lp, prl, pe, me, c1, c3, hw, rx, al, at4, ao1, a0, m8, hk20, hk25, qa1, qa2, qa3, pt2, pd, so, sl, stt, mlen, mt, mo1, xl, xt, tl, tt, aT, aT', aD, aD2, aL, bT', bD, bD2, bL, f9, f21, f22a, f22b, f22c, f22d, f16a, f16b, f16c, f16d, f24a, f24b, f24c, f24d, f14a, f14b, List.drop_zero, List.take_zero, List.nil_append, List.append_nil, bne_self_eq_false, beq_self_eq_true, e0, e7, simprocAttr]
       refine ⟨({ p1 with s := p1.s }, k + 1), ⟨⟨hp1.sw hl3, (show k + 1 ≤ M by omega)⟩, (show M - (k + 1) < M - k by omega)⟩, ?_, ?_⟩
       · simp (maxSteps := 400000) only [go_sem, acb, AV.bel, belL, nblt, simprocAttr]
       · simp (maxSteps := 400000) only [go_sem, pla, hpb, mdb, xb, tb, AV.bel, belL, nblt, simprocAttr]
     · simp (maxSteps := 400000) only [go_sem, lp, prl, pe, me, c1, c3, hw, rx, al, at4, ao1, a0, m8, hk20, hk25, qa1, qa2, qa3, pt2, pd, so, sl, stt, mlen, mt, mo1, xl, xt, tl, tt, aT, aT', aD, aD2, aL, bT', bD, bD2, bL, f9, f21, f22a, f22b, f22c, f22d, f16a, f16b, f16c, f16d, f24a, f24b, f24c, f24d, f14a, f14b, List.drop_zero, List.take_zero, List.nil_append, List.append_nil, bne_self_eq_false, beq_self_eq_true, e0, e7, simprocAttr]
       refine ⟨({ p1 with s := (wantS p1.s (wishS a).1 (wishS a).2).1 }, k + 1), ⟨⟨hp1.sw (wantS_l hl3), (show k + 1 ≤ M by omega)⟩, (show M - (k + 1) < M - k by omega)⟩, ?_, ?_⟩
       · simp (maxSteps := 400000) only [go_sem, acb, AV.bel, belL, nblt, simprocAttr]
       · simp (maxSteps := 400000) only [go_sem, pla, hpb, mdb, xb, tb, AV.bel, belL, nblt, simprocAttr]
   · cases e7 : (a.wh % 8 == 7)
     · simp (maxSteps := 400000) only [go_sem, lp, prl, pe, me, c1, c3, hw, rx, al, at4, ao1, a0, m8, hk20, hk25, qa1, qa2, qa3, pt2, pd, so, sl, stt, mlen, mt, mo1, xl, xt, tl, tt, aT, aT', aD, aD2, aL, bT', bD, bD2, bL, f9, f21, f22a, f22b, f22c, f22d, f16a, f16b, f16c, f16d, f24a, f24b, f24c, f24d, f14a, f14b, List.drop_zero, List.take_zero, List.nil_append, List.append_nil, bne_self_eq_false, beq_self_eq_true, e0, e7, simprocAttr]
       refine ⟨({ p1 with s := (pushS p1.s m).1 }, k + 1), ⟨⟨hp1.sw hpu, (show k + 1 ≤ M by omega)⟩, (show M - (k + 1) < M - k by omega)⟩, ?_, ?_⟩
       · simp (maxSteps := 400000) only [go_sem, acb, AV.bel, belL, nblt, simprocAttr]
       · simp (maxSteps := 400000) only [go_sem, pla, hpb, mdb, xb, tb, AV.bel, belL, nblt, simprocAttr]
     · simp (maxSteps := 400000) only [go_sem, lp, prl, pe, me, c1, c3, hw, rx, al, at4, ao1, a0, m8, hk20, hk25, qa1, qa2, qa3, pt2, pd, so, sl, stt, mlen, mt, mo1, xl, xt, tl, tt, aT, aT', aD, aD2, aL, bT', bD, bD2, bL, f9, f21, f22a, f22b, f22c, f22d, f16a, f16b, f16c, f16d, f24a, f24b, f24c, f24d, f14a, f14b, List.drop_zero, List.take_zero, List.nil_append, List.append_nil, bne_self_eq_false, beq_self_eq_true, e0, e7, simprocAttr]
       refine ⟨({ p1 with s := (wantS (pushS p1.s m).1 (wishS a).1 (wishS a).2).1 }, k + 1), ⟨⟨hp1.sw (wantS_l hpu), (show k + 1 ≤ M by omega)⟩, (show M - (k + 1) < M - k by omega)⟩, ?_, ?_⟩
       · simp (maxSteps := 400000) only [go_sem, acb, AV.bel, belL, nblt, simprocAttr]
       · simp (maxSteps := 400000) only [go_sem, pla, hpb, mdb, xb, tb, AV.bel, belL, nblt, simprocAttr]
 · obtain rfl : m = m0 := hmd
   simp (maxSteps := 400000) only [go_sem, prl, pe, me, c1, c3, hw, rx, al, at4, ao1, a0, m8, hk20, hk25, qa1, qa2, qa3, pt2, pd, so, sl, stt, mlen, mt, mo1, xl, xt, tl, tt, aT, aT', aD, aD2, aL, bT', bD, bD2, bL, f9, f21, f22a, f22b, f22c, f22d, f16a, f16b, f16c, f16d, f24a, f24b, f24c, f24d, f14a, f14b, List.drop_zero, List.take_zero, List.nil_append, List.append_nil, bne_self_eq_false, beq_self_eq_true, simprocAttr]
   refine Loop.rounds (F := F4) 3 hT4 mo ?_
   dsimp only [F4, T4]
   simp (maxSteps := 400000) only [go_sem, lp, prl, pe, me, c1, c3, hw, rx, al, at4, ao1, a0, m8, hk20, hk25, qa1, qa2, qa3, pt2, pd, so, sl, stt, mlen, mt, mo1, xl, xt, tl, tt, aT, aT', aD, aD2, aL, bT', bD, bD2, bL, f9, f21, f22a, f22b, f22c, f22d, f16a, f16b, f16c, f16d, f24a, f24b, f24c, f24d, f14a, f14b, List.drop_zero, List.take_zero, List.nil_append, List.append_nil, bne_self_eq_false, beq_self_eq_true, simprocAttr]
   refine Loop.rounds (F := F4) 3 hT4 mo ?_
   dsimp only [F4, T4]
   simp (maxSteps := 400000) only [go_sem, lp, prl, pe, me, c1, c3, hw, rx, al, at4, ao1, a0, m8, hk20, hk25, qa1, qa2, qa3, pt2, pd, so, sl, stt, mlen, mt, mo1, xl, xt, tl, tt, aT, aT', aD, aD2, aL, bT', bD, bD2, bL, f9, f21, f22a, f22b, f22c, f22d, f16a, f16b, f16c, f16d, f24a, f24b, f24c, f24d, f14a, f14b, List.drop_zero, List.take_zero, List.nil_append, List.append_nil, bne_self_eq_false, beq_self_eq_true, simprocAttr]
   refine Loop.rounds (F := F4) 3 hT4 mo ?_
   dsimp only [F4, T4]
   cases e0 : ((pushS p1.s m).2.2 == 0)
   · cases e7 : (a.wh % 8 == 7)
     · simp (maxSteps := 400000) only [go_sem, lp, prl, pe, me, c1, c3, hw, rx, al, at4, ao1, a0, m8, hk20, hk25, qa1, qa2, qa3, pt2, pd, so, sl, stt, mlen, mt, mo1, xl, xt, tl, tt, aT, aT', aD, aD2, aL, bT', bD, bD2, bL, f9, f21, f22a, f22b, f22c, f22d, f16a, f16b, f16c, f16d, f24a, f24b, f24c, f24d, f14a, f14b, List.drop_zero, List.take_zero, List.nil_append, List.append_nil, bne_self_eq_false, beq_self_eq_true, e0, e7, simprocAttr]
       refine ⟨({ p1 with s := p1.s }, k + 1), ⟨⟨hp1.sw hl3, (show k + 1 ≤ M by omega)⟩, (show M - (k + 1) < M - k by omega)⟩, ?_, ?_⟩
       · simp (maxSteps := 400000) only [go_sem, acb, AV.bel, belL, nblt, simprocAttr]
       · simp (maxSteps := 400000) only [go_sem, pla, hpb, mdb, xb, tb, AV.bel, belL, nblt, simprocAttr]
     · simp (maxSteps := 400000) only [go_sem, lp, prl, pe, me, c1, c3, hw, rx, al, at4, ao1, a0, m8, hk20, hk25, qa1, qa2, qa3, pt2, pd, so, sl, stt, mlen, mt, mo1, xl, xt, tl, tt, aT, aT', aD, aD2, aL, bT', bD, bD2, bL, f9, f21, f22a, f22b, f22c, f22d, f16a, f16b, f16c, f16d, f24a, f24b, f24c, f24d, f14a, f14b, List.drop_zero, List.take_zero, List.nil_append, List.append_nil, bne_self_eq_false, beq_self_eq_true, e0, e7, simprocAttr]
       refine ⟨({ p1 with s := (wantS p1.s (wishS a).1 (wishS a).2).1 }, k + 1), ⟨⟨hp1.sw (wantS_l hl3), (show k + 1 ≤ M by omega)⟩, (show M - (k + 1) < M - k by omega)⟩, ?_, ?_⟩
       · simp (maxSteps := 400000) only [go_sem, acb, AV.bel, belL, nblt, simprocAttr]
       · simp (maxSteps := 400000) only [go_sem, pla, hpb, mdb, xb, tb, AV.bel, belL, nblt, simprocAttr]
   · cases e7 : (a.wh % 8 == 7)
     · simp (maxSteps := 400000) only [go_sem, lp, prl, pe, me, c1, c3, hw, rx, al, at4, ao1, a0, m8, hk20, hk25, qa1, qa2, qa3, pt2, pd, so, sl, stt, mlen, mt, mo1, xl, xt, tl, tt, aT, aT', aD, aD2, aL, bT', bD, bD2, bL, f9, f21, f22a, f22b, f22c, f22d, f16a, f16b, f16c, f16d, f24a, f24b, f24c, f24d, f14a, f14b, List.drop_zero, List.take_zero, List.nil_append, List.append_nil, bne_self_eq_false, beq_self_eq_true, e0, e7, simprocAttr]
       refine ⟨({ p1 with s := (pushS p1.s m).1 }, k + 1), ⟨⟨hp1.sw hpu, (show k + 1 ≤ M by omega)⟩, (show M - (k + 1) < M - k by omega)⟩, ?_, ?_⟩
       · simp (maxSteps := 400000) only [go_sem, acb, AV.bel, belL, nblt, simprocAttr]
       · simp (maxSteps := 400000) only [go_sem, pla, hpb, mdb, xb, tb, AV.bel, belL, nblt, simprocAttr]
     · simp (maxSteps := 400000) only [go_sem, lp, prl, pe, me, c1, c3, hw, rx, al, at4, ao1, a0, m8, hk20, hk25, qa1, qa2, qa3, pt2, pd, so, sl, stt, mlen, mt, mo1, xl, xt, tl, tt, aT, aT', aD, aD2, aL, bT', bD, bD2, bL, f9, f21, f22a, f22b, f22c, f22d, f16a, f16b, f16c, f16d, f24a, f24b, f24c, f24d, f14a, f14b, List.drop_zero, List.take_zero, List.nil_append, List.append_nil, bne_self_eq_false, beq_self_eq_true, e0, e7, simprocAttr]
       refine ⟨({ p1 with s := (wantS (pushS p1.s m).1 (wishS a).1 (wishS a).2).1 }, k + 1), ⟨⟨hp1.sw (wantS_l hpu), (show k + 1 ≤ M by omega)⟩, (show M - (k + 1) < M - k by omega)⟩, ?_, ?_⟩
       · simp (maxSteps := 400000) only [go_sem, acb, AV.bel, belL, nblt, simprocAttr]
       · simp (maxSteps := 400000) only [go_sem, pla, hpb, mdb, xb, tb, AV.bel, belL, nblt, simprocAttr]
end Go.Proofs.Lys
