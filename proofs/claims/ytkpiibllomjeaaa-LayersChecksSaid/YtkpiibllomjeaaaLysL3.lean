/- Chapter 41: LayersChecks, the walk. -/
import Derived.Test.YtkpiibllomjeaaaLysDc
import Derived.Test.YtkpiibllomjeaaaLysKa
namespace Go.Proofs.Lys
open Go.Ab
set_option maxRecDepth 100000
set_option maxHeartbeats 8000000
set_option linter.unusedSimpArgs false
set_option linter.unusedVariables false
def k17p : Ct
 | [.fz L m, .i .i64 ou, .i .i64 st, .agg [.i .i64 a, .i .i64 b, .i .i64 c, .i .i64 d]], _, n => (unrows 1 intV m (L.take m)).bind fun l => some (belL 0 L && decide (8 * l.length ≤ growMax), { v := swV (newS l ou st a b c d), n })
 | _, _, _ => none
theorem s17p : SoundAt Try.prog 17 k17p := fun args h n c E hc ht => by
 unfold k17p at hc
 split at hc
 · rename_i L m ou st a b c' d
   simp only [Option.bind_eq_some_iff, Option.some.injEq, Prod.mk.injEq] at hc
   obtain ⟨l, hl, rfl, rfl⟩ := hc
   simp only [Bool.and_eq_true] at ht
   obtain ⟨hL, hm⟩ := unrows_eq (f := int1) (fun c a h => intV_eq c a h) hl
   have hk : FTL Try.prog 17 [.fz L m, .i .i64 ou, .i .i64 st, .agg [.i .i64 a, .i .i64 b, .i .i64 c', .i .i64 d]] [] 0 (swV (newS l ou st a b c' d)) [] 0 := by
    refine FTL.wkaH (Wka.take L m m) ?_
    rw [hL, ← hm]
    exact w17 l ou st a b c' d (of_decide_eq_true ht.2)
   exact CallOK.pure (by kernel_rfl) (by simp only [belL, AV.bel, ht.1, Bool.and_self]) (swV_bel _) hk _ _
 · cases hc
theorem s18p : SoundAt Try.prog 18 k17p := fun args h n c E hc ht => by
 unfold k17p at hc
 split at hc
 · rename_i L m ou st a b c' d
   simp only [Option.bind_eq_some_iff, Option.some.injEq, Prod.mk.injEq] at hc
   obtain ⟨l, hl, rfl, rfl⟩ := hc
   simp only [Bool.and_eq_true] at ht
   obtain ⟨hL, hm⟩ := unrows_eq (f := int1) (fun c a h => intV_eq c a h) hl
   have hk : FTL Try.prog 18 [.fz L m, .i .i64 ou, .i .i64 st, .agg [.i .i64 a, .i .i64 b, .i .i64 c', .i .i64 d]] [] 0 (swV (newS l ou st a b c' d)) [] 0 := by
    refine FTL.wkaH (Wka.take L m m) ?_
    rw [hL, ← hm]
    exact w18 l ou st a b c' d (of_decide_eq_true ht.2)
   exact CallOK.pure (by kernel_rfl) (by simp only [belL, AV.bel, ht.1, Bool.and_self]) (swV_bel _) hk _ _
 · cases hc
noncomputable def T3 : List (Nat × Ct) := [(8, k8), (9, k9), (10, k10), (11, k10), (12, k12), (13, k12), (14, k14), (15, k14), (16, k16), (17, k17p), (18, k17p), (19, k19)]
theorem hT3 : Sound Try.prog (cxT T3) := Sound.cons s8 (Sound.cons s9 (Sound.cons s10 (Sound.cons s11 (Sound.cons s12 (Sound.cons s13 (Sound.cons s14 (Sound.cons s15 (Sound.cons s16 (Sound.cons s17p (Sound.cons s18p (Sound.cons s19 Sound.nil)))))))))))
theorem w3 (d : Dr) (x y : Bx) (ss : List Int) (f0 f1 f2 f3 n0 n1 : Int) (hd : d.ok = true) (hx : x.okB = true) (hy : y.okB = true) (hs : ss.length ≤ 9223372036854775807) :
 FTL Try.prog 3 [.agg d.l, .agg x.a, .agg y.a, .fz (rows int1 ss) ss.length, .agg [.i .i64 f0, .i .i64 f1, .i .i64 f2, .i .i64 f3], .agg [.i .i64 n0, .i .i64 n1]] [] 0 (.b true) [] 0 := by
 have hdr := dr21_l d
 have hk8 : ∀ (h : Hp) n, k8 [.agg d.l] h n = some (true, { v := .agg (switchS d).a, n }) := fun h n => by simp only [k8, hdr, Option.bind_some, hd]
 have hsl : (switchS d).s.l.length ≤ 3 := by
  have := ((beginS_i hd).N d.ac (min d.ac.length 40)).l
  exact this
 generalize switchS d = P at *
 have hDb := Dr.bel d
 have hDl : d.l.length = 21 := rfl
 have hDt : List.take 21 d.l = d.l := List.take_of_length_le (by rw [hDl]; omega)
 generalize d.l = DL at *
 have pt2 := Pl.t18 P
 have pl := Pl.len P
 have k9s : ∀ (b : Bx) (s : Sw) (h : Hp) n, b.okB = true → s.l.length ≤ 1000000 → k9 [.agg b.a, .agg s.a] h n = some (true, { v := .agg (bendS b s).a, n }) := fun b s h n h1 h2 => by
  have : decide (s.l.length ≤ 1000000) = true := decide_eq_true h2
  simp only [k9, bx3_a, swA_a, Option.bind_some, h1, this, Bool.and_self]
 have hl1 := bendS_l x P.s
 have hl2 := bendS_l y (bendS x P.s)
 have a1 := fun (h : Hp) n => k9s x P.s h n hx (by omega)
 have a2 := fun (h : Hp) n => k9s y (bendS x P.s) h n hy (by omega)
 have so := Sw.one
 have sl := Sw.len
 have stt := Sw.t18
 have xl : ∀ x : Bx, x.a.length = 3 := fun x => rfl
 have xt : ∀ x : Bx, List.take 3 x.a = x.a := fun x => List.take_of_length_le (Nat.le_refl 3)
 generalize hU1 : bendS x P.s = U1 at *
 generalize hU2 : bendS y U1 = U2 at *
 have hmn : min (ss.length : Int) 5 = ((min ss.length 5 : Nat) : Int) := by omega
 have hM : min ss.length 5 ≤ ss.length := Nat.min_le_left _ _
 generalize min ss.length 5 = M at *
 have cM : decide (0 ≤ (M : Int) ∧ (M : Int) ≤ (ss.length : Int)) = true := decide_eq_true (by omega)
 have qa : ∀ (u : Sw) (r : List AV), List.take 18 (u.a ++ r) = u.a := fun u r => by rw [List.take_append_of_le_length (by rw [Sw.len]; omega)]; exact Sw.t18 u
 have qb : ∀ (u : Sw) (r : List AV), List.drop 36 (u.a ++ r) = List.drop 18 r := fun u r => by rw [List.drop_append, Sw.len, List.drop_of_length_le (by rw [Sw.len]; omega)]; rfl
 have qc : ∀ (u : Sw) (r : List AV), (u.a ++ r).length = 18 + r.length := fun u r => by rw [List.length_append, Sw.len]
 have qd : ∀ (u v : Sw) (r : List AV), List.take 36 (u.a ++ v.a ++ r) = u.a ++ v.a := fun u v r => by rw [List.take_append_of_le_length (by rw [List.length_append, Sw.len, Sw.len]; omega)]; exact List.take_of_length_le (by rw [List.length_append, Sw.len, Sw.len]; omega)
 have qe : ∀ (u v : Sw) (r : List AV), List.drop 54 (u.a ++ v.a ++ r) = List.drop 18 r := fun u v r => by rw [List.drop_append, List.length_append, Sw.len, Sw.len, List.drop_of_length_le (by rw [List.length_append, Sw.len, Sw.len]; omega)]; rfl
 have qf : ∀ (u v : Sw) (r : List AV), (u.a ++ v.a ++ r).length = 36 + r.length := fun u v r => by rw [List.length_append, List.length_append, Sw.len, Sw.len]
 have qg : ∀ (u v w : Sw), List.take 18 (u.a ++ v.a ++ w.a) = u.a := fun u v w => by rw [List.append_assoc]; exact qa _ _
 have qh : ∀ (u v w : Sw), List.take 18 (List.drop 18 (u.a ++ v.a ++ w.a)) = v.a := fun u v w => by
  have : List.drop 18 (u.a ++ v.a ++ w.a) = v.a ++ w.a := by rw [List.append_assoc, List.drop_append, Sw.len, List.drop_of_length_le (by rw [Sw.len]; omega)]; rfl
  rw [this]; exact qa _ _
 have qi : ∀ (u v w : Sw), List.take 18 (List.drop 36 (u.a ++ v.a ++ w.a)) = w.a := fun u v w => by
  have : List.drop 36 (u.a ++ v.a ++ w.a) = w.a := by rw [List.drop_append, List.length_append, Sw.len, Sw.len, List.drop_of_length_le (by rw [List.length_append, Sw.len, Sw.len]; omega)]; rfl
  rw [this]; exact Sw.t18 _
 have hB0 : ∀ (u : Sw) j, belL j u.a = true := fun u j => Sw.bel j u
 have hBB : ∀ (u v : Sw) j r, belL j (u.a ++ r) = belL j r := fun u v j r => by rw [belL_append, Sw.bel]; rfl
 refine FTL.of_iw hT3 mo Try.func3 i3_eq (by simp [i3]) (iw_of_jw ?_)
 dsimp only [i3, T3]
 simp (maxSteps := 400000) only [go_sem, hmn, minI, cM, hk8, hDl, hDt, pt2, pl, a1, a2, so, sl, stt, xl, xt, qa, qb, qc, qd, qe, qf, List.append_nil, List.drop_zero, Int.toNat_natCast, simprocAttr]
 have hB54 : ∀ j, belL j (P.s.a ++ U1.a ++ U2.a) = true := fun j => by rw [belL_append, belL_append, Sw.bel, Sw.bel, Sw.bel]; rfl
 have wl : ∀ (u : Sw) (a b : Int), u.l.length ≤ 5 → (wantS u a b).1.l.length ≤ 5 := fun u a b hu => by
  unfold wantS
  cases goodW u
  · exact Nat.zero_le _
  cases (inI (-1) ((u.l.length : Int) - 1) a && inI 0 3 b)
  · exact Nat.zero_le _
  cases decide (a < 0)
  · exact hu
  · exact hu
 have nl : ∀ (l : List Int) (a b c d e f : Int), l.length ≤ 5 → (newS l a b c d e f).1.l.length ≤ 5 := fun l a b c d e f hu => by
  unfold newS
  cases goodW ⟨l, a, b, -1, -1, 0, 0, 0, 0, false, 0, 0, 0, 0, c, d, e, f⟩
  · exact Nat.zero_le _
  · exact hu
 have g10 : ∀ (u : Sw) (h : Hp) n, u.l.length ≤ 5 → k10 [.agg u.a] h n = some (true, { v := .tup [.i .i64 (needsS u).1, .i .i64 (needsS u).2], n }) := fun u h n hu => by
  have : decide (u.l.length ≤ 9223372036854775807) = true := decide_eq_true (by omega)
  simp only [k10, swA_a, Option.bind_some, this]
 have g12 : ∀ (u : Sw) (h : Hp) n, u.l.length ≤ 5 → k12 [.agg u.a] h n = some (true, { v := .i .i64 (if goodW u then 0 else 410), n }) := fun u h n hu => by
  have : decide (u.l.length ≤ 9223372036854775807) = true := decide_eq_true (by omega)
  simp only [k12, swA_a, Option.bind_some, this]
 have g14 : ∀ (u : Sw) (a b : Int) (h : Hp) n, u.l.length ≤ 5 → k14 [.agg u.a, .i .i64 a, .i .i64 b] h n = some (true, { v := .tup [.agg (wantS u a b).1.a, .i .i64 (wantS u a b).2], n }) := fun u a b h n hu => by
  have : decide (u.l.length ≤ 9223372036854775807) = true := decide_eq_true (by omega)
  simp only [k14, swA_a, Option.bind_some, this, swV]
 have g16 : ∀ (u : Sw) (h : Hp) n, u.l.length ≤ 5 → k16 [.agg u.a, .agg u.a] h n = some (true, { v := .b true, n }) := fun u h n hu => by
  have : decide (u.l.length ≤ 9223372036854775807) = true := decide_eq_true (by omega)
  rw [k16_a, this]
 have g17 : ∀ (l : List Int) (a b c d e f : Int) (h : Hp) n, l.length ≤ 5 → k17p [.fz (rows int1 l) l.length, .i .i64 a, .i .i64 b, .agg [.i .i64 c, .i .i64 d, .i .i64 e, .i .i64 f]] h n = some (true, { v := .tup [.agg (newS l a b c d e f).1.a, .i .i64 (newS l a b c d e f).2], n }) := fun l a b c d e f h n hu => by
  have h1 : decide (8 * l.length ≤ growMax) = true := decide_eq_true (by simp only [growMax]; omega)
  have h2 : List.take l.length (rows int1 l) = rows int1 l := List.take_of_length_le (by rw [rows_len int1_len]; omega)
  simp only [k17p, h2, i_un, Option.bind_some, h1, ib, Bool.and_self, swV]
 have hM5 : (ss.take M).length = M := by rw [List.length_take]; omega
 have gN : ∀ (a b c d e f : Int) (h : Hp) n, k17p [.fz (rows int1 ss) M, .i .i64 a, .i .i64 b, .agg [.i .i64 c, .i .i64 d, .i .i64 e, .i .i64 f]] h n = some (true, { v := .tup [.agg (newS (ss.take M) a b c d e f).1.a, .i .i64 (newS (ss.take M) a b c d e f).2], n }) := fun a b c d e f h n => by
  have h1 : decide (8 * (ss.take M).length ≤ growMax) = true := decide_eq_true (by simp only [growMax]; omega)
  have h2 : List.take M (rows int1 ss) = rows int1 (ss.take M) := by have := rows_take (f := int1) (z := 1) int1_len (l := ss) (k := M); rwa [Nat.mul_one] at this
  have h3 := i_un (ss.take M)
  rw [hM5] at h3
  simp only [k17p, h2, h3, Option.bind_some, h1, ib, Bool.and_self, swV]
 have e0 : ∀ u : Sw, u.a[0]? = some (.fz (rows int1 u.l) u.l.length) := fun _ => rfl
 have e1 : ∀ u : Sw, u.a[1]? = some (.i .i64 u.ou) := fun _ => rfl
 have e2 : ∀ u : Sw, u.a[2]? = some (.i .i64 u.st) := fun _ => rfl
 have e14 : ∀ u : Sw, List.take 4 (List.drop 14 u.a) = [.i .i64 u.ss, .i .i64 u.sT, .i .i64 u.si, .i .i64 u.sb] := fun _ => rfl
 have h1 : P.s.l.length ≤ 5 := by omega
 have h2 : U1.l.length ≤ 5 := by omega
 have h3 : U2.l.length ≤ 5 := by omega
 have j1 := fun a b => wl P.s a b h1
 have j2 := fun a b => wl U1 a b h2
 have j3 := fun a b => wl U2 a b h3
 have i1 := fun a b c d e f => nl P.s.l a b c d e f h1
 have i2 := fun a b c d e f => nl U1.l a b c d e f h2
 have i3' := fun a b c d e f => nl U2.l a b c d e f h3
 have i4 := fun a b c d e f => nl (ss.take M) a b c d e f (by omega)
 refine Loop.countI (F := ⟨Try.prog, cxT T3, [51, 77, 89, 117, 151], 184, 0⟩) hT3 mo 3 (fun _ => True)
  (fun k => [(3, .fz (rows int1 ss) M), (10, .p 3 0), (11, .p 4 0), (49, .agg (P.s.a ++ U1.a ++ U2.a)), (50, .i .i64 (k : Int))])
  (fun k => [(4, { cells := [.i .i64 n0, .i .i64 n1] }), (3, { cells := [.i .i64 f0, .i .i64 f1, .i .i64 f2, .i .i64 f3] })]) 6 (by decide) trivial ?_ ?_ (fun k hk _ => ?_)
 · simp (maxSteps := 400000) only [go_sem, ib, hB54, hB0, AV.bel, belL, nblt, simprocAttr]
 · simp (maxSteps := 400000) only [go_sem, AV.bel, belL, nblt, simprocAttr]
 dsimp only [T3]
 match k, hk with
 | 0, _ =>
  simp (maxSteps := 400000) only [go_sem, qg, qf, so, sl, stt, g10, g12, h1, List.drop_zero, bne_self_eq_false, beq_self_eq_true, simprocAttr]
  refine Loop.rounds (F := ⟨Try.prog, cxT T3, [51, 77, 89, 117, 151], 184, 0⟩) 4 hT3 mo ?_
  dsimp only [T3]
  simp (maxSteps := 400000) only [go_sem, lp, so, sl, stt, g14, h1, g16, j1, e0, e1, e2, e14, g17, i1, qf, List.drop_zero, bne_self_eq_false, beq_self_eq_true, ib, hB54, hB0, AV.bel, belL, nblt, simprocAttr]
 | 1, _ =>
  simp (maxSteps := 400000) only [go_sem, qh, qf, so, sl, stt, g10, g12, h2, List.drop_zero, bne_self_eq_false, beq_self_eq_true, simprocAttr]
  refine Loop.rounds (F := ⟨Try.prog, cxT T3, [51, 77, 89, 117, 151], 184, 0⟩) 4 hT3 mo ?_
  dsimp only [T3]
  simp (maxSteps := 400000) only [go_sem, lp, so, sl, stt, g14, h2, g16, j2, e0, e1, e2, e14, g17, i2, qf, List.drop_zero, bne_self_eq_false, beq_self_eq_true, ib, hB54, hB0, AV.bel, belL, nblt, simprocAttr]
 | 2, _ =>
  simp (maxSteps := 400000) only [go_sem, qi, qf, so, sl, stt, g10, g12, h3, List.drop_zero, bne_self_eq_false, beq_self_eq_true, simprocAttr]
  refine Loop.rounds (F := ⟨Try.prog, cxT T3, [51, 77, 89, 117, 151], 184, 0⟩) 4 hT3 mo ?_
  dsimp only [T3]
  simp (maxSteps := 400000) only [go_sem, lp, so, sl, stt, g14, h3, g16, j3, e0, e1, e2, e14, g17, i3', qf, List.drop_zero, bne_self_eq_false, beq_self_eq_true, ib, hB54, hB0, AV.bel, belL, nblt, simprocAttr]
 | 3, _ =>
  simp (maxSteps := 400000) only [go_sem, so, sl, stt, gN, g16, i4, k19, List.drop_zero, bne_self_eq_false, beq_self_eq_true, simprocAttr]
  exact Ends.pureE rfl rfl
 | k + 4, hk => exact absurd hk (by omega)
end Go.Proofs.Lys
