/- Texts laid as one: FlzR5 FlzR3 FlzR4. -/
import Derived.Test.YtlokbfkdgnopeaaGreatDoorFlzCc
import Derived.Test.YtlokbfkdgnopeaaGreatDoorFlzIc
import Derived.Test.YtlokbfkdgnopeaaGreatDoorFltDa
import Derived.Test.YtlokbfkdgnopeaaGreatDoorAbShs
import Derived.Test.YtlokbfkdgnopeaaGreatDoorFlzRa
import Derived.Test.YtlokbfkdgnopeaaGreatDoorFlzKa
import Derived.Test.YtlokbfkdgnopeaaGreatDoorFlzCi
section
/- Draft.Notes. -/
namespace Go.Proofs.Flz
open Go.Ab Go.Proofs.Flt
set_option maxRecDepth 100000
set_option maxHeartbeats 4000000
set_option linter.unusedSimpArgs false
set_option linter.unusedVariables false
theorem ntB (j : Nat) (l : List Nt) : belL j (rows Nt.l l) = true := belL_mono0 _ (rows_bel Nt.bel)
theorem ntR (ψ : Nat → Nat) (l : List Nt) : renL ψ (rows Nt.l l) = rows Nt.l l := renL_fix0 _ (rows_bel Nt.bel)
end Go.Proofs.Flz
end
section
/- The reference's Pieces, Cut, Read. -/
namespace Go.Proofs.Flz
open Go.Ab Go.Proofs.Flt
set_option maxRecDepth 100000
set_option maxHeartbeats 4000000
set_option linter.unusedSimpArgs false
set_option linter.unusedVariables false
theorem stR (ψ : Nat → Nat) (l : List (List UInt8)) : renL ψ (rows st1 l) = rows st1 l := renL_fix0 _ (rows_bel st1_bel)
def TR3 : List (Nat × Ct) := [(77, k77)]
theorem hTR3 : Sound Tryz.prog (cxT TR3) := Sound.cons s77 Sound.nil
def cLn (x : Nt) (sz k : Nat) : List (List UInt8) := mapN (fun k => pcO (cutP x sz k)) k
theorem w47 (x : Nt) (sz : Nat) (hx : noteB x = true) (hz : 1 ≤ sz ∧ sz ≤ 1100) : FTL Tryz.prog 47 [.agg x.l, .i .i64 (sz : Int)] [] 0 (.fz (rows st1 (cutL x sz)) (cutL x sz).length) [] 0 := by
 have hoct : ∀ k, k < cutN x.bd.length sz → octB (cutP x sz k) = true := fun k hk => by
  have h := cutP_ok hx hz hk
  simp only [cutB, wholeB, Bool.and_eq_true, decide_eq_true_eq] at h
  obtain ⟨⟨a1, a2, a3, a4⟩, b1, b2, b3, b4, b5, b6⟩ := h
  simp only [octB, pcB, Bool.and_eq_true, decide_eq_true_eq]
  refine ⟨⟨b1, b3, b4, b6, by omega⟩, by omega, by omega, by omega, by omega⟩
 have q : ∀ k, k < cutN x.bd.length sz → ∀ (h : Hp) n, k77 [.agg (cutP x sz k).l] h n = some (true, { v := .s (pcO (cutP x sz k)), n }) := fun k hk h n => by
  simp only [k77, pc5_l, Option.bind_some, hoct k hk]
 simp only [noteB, Bool.and_eq_true, decide_eq_true_eq] at hx
 obtain ⟨h1, h2, h3⟩ := hx
 obtain ⟨N, hN⟩ : ∃ N, N = cutN x.bd.length sz := ⟨_, rfl⟩
 have hlt0 : ∀ k, k < N → k = 0 ∨ k * sz < x.bd.length := fun k hk => cutN_lt' hz.1 (by rw [← hN]; exact hk)
 have hge := cutN_ge' (n := x.bd.length) hz.1
 rw [← hN] at q hge
 have hR : cutL x sz = cLn x sz N := by rw [hN]; rfl
 have hNb : N ≤ 4001 := by
  have : N ≤ x.bd.length + 1 := by
   rw [hN]
   unfold cutN
   split
   · omega
   · refine Nat.div_le_of_le_mul ?_
     have : x.bd.length ≤ sz * x.bd.length := Nat.le_mul_of_pos_left _ (by omega)
     rw [Nat.mul_succ]; omega
  omega
 rw [hR]
 have hc0 : cLn x sz 0 = [] := rfl
 have hcs : ∀ k, cLn x sz (k + 1) = cLn x sz k ++ [pcO (cutP x sz k)] := fun k => rfl
 have hcl : ∀ k, (cLn x sz k).length = k := fun k => mapN_len _
 have hP : ∀ k, cutP x sz k = ⟨x.kd, x.bd.length, x.sq, (k * sz : Nat), (x.bd.drop (k * sz)).take sz⟩ := fun k => rfl
 have hP0 : x.bd = [] → ∀ (h : Hp) n, k77 [.agg [.i .i64 x.kd, .i .i64 0, .i .i64 x.sq, .i .i64 0, .s []]] h n = some (true, { v := .s (pcO (cutP x sz 0)), n }) := fun h h' n => by
  have hq := q 0 hge.1 h' n
  have e : (cutP x sz 0).l = [.i .i64 x.kd, .i .i64 0, .i .i64 x.sq, .i .i64 0, .s []] := by rw [hP 0, h]; simp [Pc.l]
  rw [e] at hq
  exact hq
 have hN1 : x.bd = [] → N = 1 := fun h => by rw [hN, h]; rfl
 generalize hC : cLn x sz = C at *
 simp only [hP, Pc.l] at q
 obtain ⟨O, hO⟩ : ∃ O : Nat → List UInt8, O = fun k => pcO (cutP x sz k) := ⟨_, rfl⟩
 have hO' : ∀ k, pcO (cutP x sz k) = O k := fun k => by rw [hO]
 simp only [← hP, hO'] at q hcs hP0
 clear hO hO' hP hC hoct hR hN
 obtain ⟨kd, sq, bd⟩ := x
 dsimp only at *
 refine FTL.of_cov hTR3 mo Tryz.func47 i47_eq (by simp [i47]) (iw_of_jw ?_)
 dsimp only [i47, TR3, Nt.l]
 by_cases hbd : bd = []
 · have hP1 := hP0 hbd
   have hN2 := hN1 hbd
   clear hP0 hN1 q hlt0
   subst hbd
   have c0 : (([] : List UInt8) == []) = true := rfl
   simp (maxSteps := 400000) only [go_sem, c0, hP1, simprocAttr]
   have hCN : C N = [O 0] := by rw [hN2, hcs, hc0]; rfl
   rw [hCN]
   refine CovS.frz (b := 1) (k := { cells := [.s (O 0)] }) (h' := []) (o := 0) (m := 1) (x := .sl 1 0 1 1) (cs := rows st1 [O 0]) (v' := .fz (rows st1 [O 0]) 1) rfl rfl (.inl ⟨1, rfl, Nat.le_refl _⟩) (.inl rfl) FzV.hit (fun c kk hc => by simp [hget] at hc) ?_
   exact CovS.ends (Ends.pureE rfl rfl)
 have c0 : (bd == []) = false := by simpa using hbd
 simp (maxSteps := 400000) only [go_sem, c0, simprocAttr]
 have gqN : gQ st1 1 ([] : List (List UInt8)) = .nil := rfl
 have gqC : ∀ l : List (List UInt8), l ≠ [] → gQ st1 1 l = .sg { cells := rows st1 l, gr := some 1 } 0 l.length := fun l h => by unfold gQ; rw [if_neg (by simpa using h)]
 have hbp : 0 < bd.length := List.length_pos_iff.2 hbd
 refine Loop.stepR (F := ⟨Tryz.prog, cxT TR3, [10, 22, 33], 56, 0⟩) hTR3 mo (X := Nat) (fun k => k ≤ N) (fun k => N - k)
  (fun k => [(1, .i .i64 (sz : Int)), (2, .p 0 0), (5, (gQ st1 1 (C k)).v 1), (6, .i .i64 ((k * sz : Nat) : Int))])
  (fun k => (gQ st1 1 (C k)).h 1 ++ [(0, { cells := [.i .i64 kd, .i .i64 sq, .s bd] })]) 2 0 (fun k => k + 1) [] (fun _ => [(1, 3)]) (by decide) (by decide) (fun _ => by decide) (Nat.zero_le _) ?_ ?_ (fun k hk => ?_)
 · rw [hc0, gqN]
   simp (maxSteps := 400000) only [go_sem, Nat.zero_mul, Int.natCast_zero, AV.ren, renL, AV.bel, belL, nblt, simprocAttr]
 · rw [hc0, gqN]
   simp (maxSteps := 400000) only [go_sem, AV.ren, renL, AV.bel, belL, nblt, Blk.ren, simprocAttr]
 dsimp only [TR3]
 by_cases hlt : k < N
 rotate_left
 · have hkN : k = N := by omega
   subst hkN
   have c1 : decide (((k * sz : Nat) : Int) < (bd.length : Int)) = false := decide_eq_false (by omega)
   have hne : C k ≠ [] := fun e => by have := hcl k; rw [e] at this; simp at this; omega
   rw [gqC _ hne]
   simp (maxSteps := 400000) only [go_sem, c1, simprocAttr]
   refine CovS.frz (b := 1) (k := { cells := rows st1 (C k), gr := some 1 }) (h' := []) (o := 0) (m := (C k).length) (x := .sg 1 0 (C k).length) (cs := rows st1 (C k)) (v' := .fz (rows st1 (C k)) (C k).length) rfl rfl (.inr rfl) (.inl List.drop_zero.symm) FzV.hit (fun c kk hc => by simp [hget] at hc) ?_
   exact CovS.ends (Ends.pureE (by simp only [AV.bel, stB]) rfl)
 have hkz : k * sz < bd.length := by
  rcases hlt0 k hlt with h | h
  · rw [h, Nat.zero_mul]; exact hbp
  · exact h
 have q := q k hlt
 obtain ⟨o, ho⟩ : ∃ o, o = k * sz := ⟨_, rfl⟩
 have hos : (k + 1) * sz = o + sz := by rw [ho, Nat.succ_mul]
 rw [hos]
 rw [← ho] at q hkz ⊢
 have c1 : decide ((o : Int) < (bd.length : Int)) = true := decide_eq_true (by omega)
 have w1 : IntKind.i64.wrap ((o : Int) + (sz : Int)) = ((o + sz : Nat) : Int) := by rw [wrapL (by omega) (by omega)]; omega
 have hst : k + 1 ≤ N ∧ N - (k + 1) < N - k := ⟨by omega, by omega⟩
 have gm : decide (16 * ((C k).length + 1) ≤ growMax) = true := decide_eq_true (by rw [hcl k]; simp only [growMax]; omega)
 have gm1 : decide (16 ≤ growMax) = true := by decide
 have hLz : (rows st1 (C k)).length = (C k).length := by rw [rows_len st1_len, Nat.mul_one]
 have lap : rows st1 (C k ++ [O k]) = rows st1 (C k) ++ [.s (O k)] := by rw [rows_append]; rfl
 have lbx : ∀ j, belL j (rows st1 (C k) ++ [.s (O k)]) = true := fun j => by rw [← lap]; exact stB j _
 have lrx : ∀ ψ, renL ψ (rows st1 (C k) ++ [.s (O k)]) = rows st1 (C k) ++ [.s (O k)] := fun ψ => by rw [← lap]; exact stR ψ _
 rw [hcs k, gQ_snoc]
 simp only [gS, st1]
 clear hlt0 hcs hP0 hN1
 have e3 : decide (0 ≤ (o : Int) ∧ (o : Int) ≤ (bd.length : Int)) = true := decide_eq_true (by omega)
 have fin : ∀ e : Nat, ((o + sz ≤ bd.length ∧ e = o + sz) ∨ (bd.length < o + sz ∧ e = bd.length)) → decide (0 ≤ (o : Int) ∧ (o : Int) ≤ (e : Int) ∧ (e : Int) ≤ (bd.length : Int)) = true ∧ List.drop o (List.take e bd) = List.take sz (List.drop o bd) := fun e he => by
  refine ⟨decide_eq_true (by omega), ?_⟩
  rcases he with ⟨h1, rfl⟩ | ⟨h1, rfl⟩
  · rw [List.drop_take]; congr 1; omega
  · rw [List.take_length, List.take_of_length_le (by rw [List.length_drop]; omega)]
 cases c2 : decide (((o + sz : Nat) : Int) > (bd.length : Int))
 · obtain ⟨e1, e2⟩ := fin (o + sz) (.inl ⟨by have := of_decide_eq_false c2; omega, rfl⟩)
   by_cases hne : C k = []
   · rw [hne, gqN]
     simp (maxSteps := 400000) only [go_sem, c1, w1, c2, e1, e2, e3, q, gm1, hst, rows_nil, List.nil_append, List.length_nil, AV.ren, renL, AV.bel, belL, nblt, Blk.ren, simprocAttr]
   · rw [gqC _ hne]
     simp (maxSteps := 400000) only [go_sem, c1, w1, c2, e1, e2, e3, q, gm, hst, hLz, lbx, lrx, AV.ren, renL, AV.bel, belL, nblt, Blk.ren, Nat.mul_one, simprocAttr]
 · obtain ⟨e1, e2⟩ := fin bd.length (.inr ⟨by have := of_decide_eq_true c2; omega, rfl⟩)
   by_cases hne : C k = []
   · rw [hne, gqN]
     simp (maxSteps := 400000) only [go_sem, c1, w1, c2, e1, e2, e3, q, gm1, hst, rows_nil, List.nil_append, List.length_nil, AV.ren, renL, AV.bel, belL, nblt, Blk.ren, simprocAttr]
   · rw [gqC _ hne]
     simp (maxSteps := 400000) only [go_sem, c1, w1, c2, e1, e2, e3, q, gm, hst, hLz, lbx, lrx, AV.ren, renL, AV.bel, belL, nblt, Blk.ren, Nat.mul_one, simprocAttr]
def k47 : Ct
 | [.agg c, .i .i64 sz], _, n => (nt3 c).bind fun x => some (noteB x && decide (1 ≤ sz ∧ sz ≤ 1100), { v := .fz (rows st1 (cutL x sz.toNat)) (cutL x sz.toNat).length, n })
 | _, _, _ => none
theorem s47 : SoundAt Tryz.prog 47 k47 := fun args h n c E hc ht => by
 unfold k47 at hc
 split at hc
 · rename_i c sz
   simp only [Option.bind_eq_some_iff] at hc
   obtain ⟨x, hx, he⟩ := hc
   cases he
   simp only [Bool.and_eq_true, decide_eq_true_eq] at ht
   obtain ⟨h1, h2, h3⟩ := ht
   have := w47 x sz.toNat h1 (by omega)
   rw [Int.toNat_of_nonneg (by omega)] at this
   rw [nt3_eq hx]
   exact CallOK.pure (by kernel_rfl) rfl (by simp only [AV.bel, stB]) this _ _
 · cases hc
def TR4 : List (Nat × Ct) := [(46, k46), (47, k47)]
theorem hTR4 : Sound Tryz.prog (cxT TR4) := Sound.cons s46 <| Sound.cons s47 Sound.nil
def cuV (r : List (List UInt8) × Int) : AV := .tup [.fz (rows st1 r.1) r.1.length, .i .i64 r.2]
theorem cuV_bel (r : List (List UInt8) × Int) : (cuV r).bel 0 = true := by simp only [cuV, AV.bel, belL, stB, Bool.and_self]
theorem w11 (x : Nt) (sz : Int) : FTL Tryz.prog 11 [.agg x.l, .i .i64 sz] [] 0 (cuV (cutS x sz)) [] 0 := by
 have q46 : ∀ (h : Hp) n, k46 [.agg x.l] h n = some (true, { v := .b (noteB x), n }) := fun h n => by simp only [k46, nt3_l, Option.bind_some]
 have q47 : noteB x = true → 1 ≤ sz ∧ sz ≤ 1100 → ∀ (h : Hp) n, k47 [.agg x.l, .i .i64 sz] h n = some (true, { v := .fz (rows st1 (cutL x sz.toNat)) (cutL x sz.toNat).length, n }) := fun h1 h2 h n => by
  simp only [k47, nt3_l, Option.bind_some, h1, decide_eq_true h2, Bool.and_self]
 have hS : cutS x sz = bif noteB x then (bif inW (sz - 1) 1099 then (cutL x sz.toNat, 0) else ([], 2)) else ([], 190) := rfl
 generalize hC : cutL x sz.toNat = C at *
 generalize hB : noteB x = B at *
 have hCb := fun j => stB j C
 obtain ⟨kd, sq, bd⟩ := x
 simp only [Nt.l] at q46 q47 ⊢
 have nil_end : ∀ (e : Int) (h : Hp) n, CovS 0 (.tup [.ns, .i .i64 e]) h n (cuV ([], e)) [] 0 := fun e h n => CovS.frzN (v' := cuV ([], e)) (l := []) (FzV.tup ⟨FzV.hit, FzV.refl, trivial⟩) (CovS.ends (Ends.pureE (cuV_bel _) rfl))
 refine FTL.of_cov hTR4 mo Tryz.func11 i11_eq (by simp [i11]) (iw_of_jw ?_)
 dsimp only [i11, TR4]
 cases B
 · rw [hS, cond_false]
   simp (maxSteps := 400000) only [go_sem, q46, simprocAttr]
   exact nil_end _ _ _
 rw [cond_true] at hS
 cases a1 : decide (sz < 1)
 rotate_left
 · have : inW (sz - 1) 1099 = false := by
    cases e : inW (sz - 1) 1099
    · rfl
    · have := inW_t e; have := of_decide_eq_true a1; omega
   rw [hS, this, cond_false]
   simp (maxSteps := 400000) only [go_sem, q46, a1, simprocAttr]
   exact nil_end _ _ _
 cases a2 : decide (sz > 1100)
 rotate_left
 · have : inW (sz - 1) 1099 = false := by
    cases e : inW (sz - 1) 1099
    · rfl
    · have := inW_t e; have := of_decide_eq_true a2; omega
   rw [hS, this, cond_false]
   simp (maxSteps := 400000) only [go_sem, q46, a1, a2, simprocAttr]
   exact nil_end _ _ _
 have b1 := of_decide_eq_false a1
 have b2 := of_decide_eq_false a2
 rw [hS, inW_of (by omega : 0 ≤ sz - 1 ∧ sz - 1 ≤ 1099), cond_true]
 have q47 := q47 rfl ⟨by omega, by omega⟩
 simp (maxSteps := 400000) only [go_sem, q46, q47, a1, a2, AV.bel, belL, nblt, hCb, simprocAttr]
 exact CovS.ends (Ends.pureE (cuV_bel (C, 0)) rfl)
def k11 : Ct
 | [.agg c, .i .i64 sz], _, n => (nt3 c).bind fun x => some (true, { v := cuV (cutS x sz), n })
 | _, _, _ => none
theorem s11 : SoundAt Tryz.prog 11 k11 := fun args h n c E hc ht => by
 unfold k11 at hc
 split at hc
 · simp only [Option.bind_eq_some_iff] at hc
   obtain ⟨x, hx, he⟩ := hc
   cases he
   rw [nt3_eq hx]
   exact CallOK.pure (by kernel_rfl) rfl (cuV_bel _) (w11 x _) _ _
 · cases hc
end Go.Proofs.Flz
end
section
/- The reference's Read. -/
namespace Go.Proofs.Flz
open Go.Ab Go.Proofs.Flt
set_option maxRecDepth 100000
set_option maxHeartbeats 4000000
set_option linter.unusedSimpArgs false
set_option linter.unusedVariables false
def TR5 : List (Nat × Ct) := [(51, k51), (52, k52)]
theorem hTR5 : Sound Tryz.prog (cxT TR5) := Sound.cons s51 <| Sound.cons s52 Sound.nil
theorem w16 (s : List UInt8) (hl : s.length ≤ 9223372036854775807) : FTL Tryz.prog 16 [.s s] [] 0 (rsR (readS s)) [] 0 := by
 refine FTL.of_iw hTR5 mo Tryz.func16 i16_eq (by simp [i16]) (iw_of_jw ?_)
 dsimp only [i16, TR5]
 cases a1 : decide ((s.length : Int) > 1200)
 rotate_left
 · have h1 := of_decide_eq_true a1
   have hR : readS s = (zPc, 3) := by unfold readS; rw [if_pos (by omega)]
   rw [hR]
   simp (maxSteps := 400000) only [go_sem, a1, simprocAttr]
   exact Ends.pureE rfl rfl
 have h1 := of_decide_eq_false a1
 cases a2 : decide ((s.length : Int) < 12)
 rotate_left
 · have h2 := of_decide_eq_true a2
   have hR : readS s = (zPc, 7) := by unfold readS; rw [if_neg (by omega), if_pos (by omega)]
   rw [hR]
   simp (maxSteps := 400000) only [go_sem, a1, a2, simprocAttr]
   exact Ends.pureE rfl rfl
 have h2 := of_decide_eq_false a2
 have kk : ∀ a b : Nat, b - a ≤ 3 → ∀ (h : Hp) n, k51 [.s (List.drop a (List.take b s))] h n = some (true, { v := .i .i64 (partS s a b), n }) := fun a b hab h n => by
  have e : List.drop a (List.take b s) = (s.drop a).take (b - a) := List.drop_take
  have hle : decide ((List.drop a (List.take b s)).length ≤ 3) = true := decide_eq_true (by rw [e, List.length_take]; omega)
  simp only [k51, hle]
  rw [e]; rfl
 have k1 := kk 9 12 (by decide)
 have k2 := kk 0 1 (by decide)
 have k3 := kk 1 4 (by decide)
 have k4 := kk 4 6 (by decide)
 have k5 := kk 6 9 (by decide)
 simp only [List.drop_zero] at k2
 obtain ⟨p1, p2⟩ := part_bnd s 0 1 1 (by decide)
 obtain ⟨p3, p4⟩ := part_bnd s 1 4 3 (by decide)
 obtain ⟨p5, p6⟩ := part_bnd s 4 6 2 (by decide)
 obtain ⟨p7, p8⟩ := part_bnd s 6 9 3 (by decide)
 obtain ⟨p9, p10⟩ := part_bnd s 9 12 3 (by decide)
 have w1 : IntKind.i64.wrap ((s.length : Int) - 12) = (s.length : Int) - 12 := wrapL (by omega) (by omega)
 have s1 : decide ((0 : Int) ≤ 9 ∧ (9 : Int) ≤ 12 ∧ (12 : Int) ≤ (s.length : Int)) = true := decide_eq_true (by omega)
 have s2 : decide ((12 : Int) ≤ (s.length : Int)) = true := decide_eq_true (by omega)
 have s3 : decide ((1 : Int) ≤ (s.length : Int)) = true := decide_eq_true (by omega)
 have s4 : decide ((4 : Int) ≤ (s.length : Int)) = true := decide_eq_true (by omega)
 have s5 : decide ((6 : Int) ≤ (s.length : Int)) = true := decide_eq_true (by omega)
 have s6 : decide ((9 : Int) ≤ (s.length : Int)) = true := decide_eq_true (by omega)
 have td : List.drop 12 (List.take s.length s) = List.drop 12 s := by rw [List.take_length]
 have tl : List.take s.length s = s := List.take_length
 have td2 : List.take (s.length - 12) (List.drop 12 s) = List.drop 12 s := List.take_of_length_le (by rw [List.length_drop]; omega)
 cases a3 : decide ((s.length : Int) - 12 < partS s 9 12)
 rotate_left
 · have h3 := of_decide_eq_true a3
   have hR : readS s = (zPc, 7) := by unfold readS; rw [if_neg (by omega), if_neg (by omega), if_pos (by omega)]
   rw [hR]
   simp (maxSteps := 400000) only [go_sem, a1, a2, w1, s1, s2, k1, a3, simprocAttr]
   exact Ends.pureE rfl rfl
 have h3 := of_decide_eq_false a3
 have hW : refW (readP s) = wholeB (readP s) := refW_eq ⟨p1, by have : (readP s).kd = partS s 0 1 := rfl; omega, p3, p5, by have : (readP s).sq = partS s 4 6 := rfl; omega, p7⟩
 have hP : readP s = ⟨partS s 0 1, partS s 1 4, partS s 4 6, partS s 6 9, s.drop 12⟩ := rfl
 have hR : readS s = if (s.length : Int) - 12 ≠ partS s 9 12 then (zPc, 5) else if wholeB (readP s) then (readP s, 0) else (zPc, 5) := by unfold readS; rw [if_neg (by omega), if_neg (by omega), if_neg (by omega)]
 have q52 : ∀ (h : Hp) n, k52 [.agg [.i .i64 (partS s 0 1), .i .i64 (partS s 1 4), .i .i64 (partS s 4 6), .i .i64 (partS s 6 9), .s (s.drop 12)]] h n = some (true, { v := .b (wholeB (readP s)), n }) := fun h n => by
  rw [← hW]; rfl
 generalize hB : wholeB (readP s) = B at *
 cases a4 : decide ((s.length : Int) - 12 > partS s 9 12)
 rotate_left
 · have h4 := of_decide_eq_true a4
   rw [if_pos (by omega)] at hR
   rw [hR]
   simp (maxSteps := 400000) only [go_sem, a1, a2, w1, s1, s2, s3, s4, s5, s6, k1, k2, k3, k4, k5, td, tl, td2, a3, a4, simprocAttr]
   exact Ends.pureE rfl rfl
 have h4 := of_decide_eq_false a4
 rw [if_neg (by omega)] at hR
 cases B
 · rw [if_neg (by decide)] at hR
   rw [hR]
   simp (maxSteps := 400000) only [go_sem, a1, a2, w1, s1, s2, s3, s4, s5, s6, k1, k2, k3, k4, k5, td, tl, td2, a3, a4, q52, simprocAttr]
   exact Ends.pureE rfl rfl
 · rw [if_pos rfl, hP] at hR
   rw [hR]
   simp (maxSteps := 400000) only [go_sem, a1, a2, w1, s1, s2, s3, s4, s5, s6, k1, k2, k3, k4, k5, td, tl, td2, a3, a4, q52, simprocAttr]
   exact Ends.pureE rfl rfl
def k16 : Ct
 | [.s s], _, n => some (decide (s.length ≤ 9223372036854775807), { v := rsR (readS s), n })
 | _, _, _ => none
theorem s16 : SoundAt Tryz.prog 16 k16 := fun args h n c E hc ht => by
 unfold k16 at hc
 split at hc
 · cases hc
   exact CallOK.pure (by kernel_rfl) rfl (rsR_bel _) (w16 _ (of_decide_eq_true ht)) _ _
 · cases hc
end Go.Proofs.Flz
end
