/- Texts laid as one: FlzR3 FlzR5. -/
import Derived.Test.YtlokbfkdgnopeaaGreatDoorFlzRa
import Derived.Test.YtlokbfkdgnopeaaGreatDoorFlzKa
import Derived.Test.YtlokbfkdgnopeaaGreatDoorAbShs
import Derived.Test.YtlokbfkdgnopeaaGreatDoorFlzCc
import Derived.Test.YtlokbfkdgnopeaaGreatDoorFlzIc
import Derived.Test.YtlokbfkdgnopeaaGreatDoorFltDa
section
/- The reference's Pieces, Cut, Read. -/
namespace Go.Proofs.Flz
open Go.Ab Go.Proofs.Flt
set_option maxRecDepth 100000
set_option maxHeartbeats 4000000
set_option linter.unusedSimpArgs false
set_option linter.unusedVariables false
theorem stR (ψ : Nat → Nat) (l : List (List UInt8)) : renL ψ (rows st1 l) = rows st1 l := renL_fix0 _ (rows_bel st1_bel)
def TR3 : List (Nat × Ct) := [(77, k77)]
theorem hTR3 : Sound Tryz.prog (cxT TR3) := Sound.cons s77 Sound.nil
def cLn (x : Nt) (sz k : Nat) : List (List UInt8) := mapN (fun k => pcO (cutP x sz k)) k
theorem w47 (x : Nt) (sz : Nat) (hx : noteB x = true) (hz : 1 ≤ sz ∧ sz ≤ 1100) : FTL Tryz.prog 47 [.agg x.l, .i .i64 (sz : Int)] [] 0 (.fz (rows st1 (cutL x sz)) (cutL x sz).length) [] 0 := by
 have hoct : ∀ k, k < cutN x.bd.length sz → octB (cutP x sz k) = true := fun k hk => by
  have h := cutP_ok hx hz hk
  simp only [cutB, wholeB, Bool.and_eq_true, decide_eq_true_eq] at h
  obtain ⟨⟨a1, a2, a3, a4⟩, b1, b2, b3, b4, b5, b6⟩ := h
  simp only [octB, pcB, Bool.and_eq_true, decide_eq_true_eq]
  refine ⟨⟨b1, b3, b4, b6, by omega⟩, by omega, by omega, by omega, by omega⟩
 have q : ∀ k, k < cutN x.bd.length sz → ∀ (h : Hp) n, k77 [.agg (cutP x sz k).l] h n = some (true, { v := .s (pcO (cutP x sz k)), n }) := fun k hk h n => by
  simp only [k77, pc5_l, Option.bind_some, hoct k hk]
 simp only [noteB, Bool.and_eq_true, decide_eq_true_eq] at hx
 obtain ⟨h1, h2, h3⟩ := hx
 obtain ⟨N, hN⟩ : ∃ N, N = cutN x.bd.length sz := ⟨_, rfl⟩
 have hlt0 : ∀ k, k < N → k = 0 ∨ k * sz < x.bd.length := fun k hk => cutN_lt' hz.1 (by rw [← hN]; exact hk)
 have hge := cutN_ge' (n := x.bd.length) hz.1
 rw [← hN] at q hge
 have hR : cutL x sz = cLn x sz N := by rw [hN]; rfl
 have hNb : N ≤ 4001 := by
  have : N ≤ x.bd.length + 1 := by
   rw [hN]
   unfold cutN
   split
   · omega
   · refine Nat.div_le_of_le_mul ?_
     have : x.bd.length ≤ sz * x.bd.length := Nat.le_mul_of_pos_left _ (by omega)
     rw [Nat.mul_succ]; omega
  omega
 rw [hR]
 have hc0 : cLn x sz 0 = [] := rfl
 have hcs : ∀ k, cLn x sz (k + 1) = cLn x sz k ++ [pcO (cutP x sz k)] := fun k => rfl
 have hcl : ∀ k, (cLn x sz k).length = k := fun k => mapN_len _
 have hP : ∀ k, cutP x sz k = ⟨x.kd, x.bd.length, x.sq, (k * sz : Nat), (x.bd.drop (k * sz)).take sz⟩ := fun k => rfl
 have hP0 : x.bd = [] → ∀ (h : Hp) n, k77 [.agg [.i .i64 x.kd, .i .i64 0, .i .i64 x.sq, .i .i64 0, .s []]] h n = some (true, { v := .s (pcO (cutP x sz 0)), n }) := fun h h' n => by
  have hq := q 0 hge.1 h' n
  have e : (cutP x sz 0).l = [.i .i64 x.kd, .i .i64 0, .i .i64 x.sq, .i .i64 0, .s []] := by rw [hP 0, h]; simp [Pc.l]
  rw [e] at hq
  exact hq
 have hN1 : x.bd = [] → N = 1 := fun h => by rw [hN, h]; rfl
 generalize hC : cLn x sz = C at *
 simp only [hP, Pc.l] at q
 obtain ⟨O, hO⟩ : ∃ O : Nat → List UInt8, O = fun k => pcO (cutP x sz k) := ⟨_, rfl⟩
 have hO' : ∀ k, pcO (cutP x sz k) = O k := fun k => by rw [hO]
 simp only [← hP, hO'] at q hcs hP0
 clear hO hO' hP hC hoct hR hN
 obtain ⟨kd, sq, bd⟩ := x
 dsimp only at *
 refine FTL.of_cov hTR3 mo Tryz.func47 i47_eq (by simp [i47]) (iw_of_jw ?_)
 dsimp only [i47, TR3, Nt.l]
 by_cases hbd : bd = []
 · have hP1 := hP0 hbd
   have hN2 := hN1 hbd
   clear hP0 hN1 q hlt0
   subst hbd
   have c0 : (([] : List UInt8) == []) = true := rfl
   simp (maxSteps := 400000) only [go_sem, c0, hP1, simprocAttr]
   have hCN : C N = [O 0] := by rw [hN2, hcs, hc0]; rfl
   rw [hCN]
   refine CovS.frz (b := 1) (k := { cells := [.s (O 0)] }) (h' := []) (o := 0) (m := 1) (x := .sl 1 0 1 1) (cs := rows st1 [O 0]) (v' := .fz (rows st1 [O 0]) 1) rfl rfl (.inl ⟨1, rfl, Nat.le_refl _⟩) (.inl rfl) FzV.hit (fun c kk hc => by simp [hget] at hc) ?_
   exact CovS.ends (Ends.pureE rfl rfl)
 have c0 : (bd == []) = false := by simpa using hbd
 simp (maxSteps := 400000) only [go_sem, c0, simprocAttr]
 have gqN : gQ st1 1 ([] : List (List UInt8)) = .nil := rfl
 have gqC : ∀ l : List (List UInt8), l ≠ [] → gQ st1 1 l = .sg { cells := rows st1 l, gr := some 1 } 0 l.length := fun l h => by unfold gQ; rw [if_neg (by simpa using h)]
 have hbp : 0 < bd.length := List.length_pos_iff.2 hbd
 refine Loop.stepR (F := ⟨Tryz.prog, cxT TR3, [10, 22, 33], 56, 0⟩) hTR3 mo (X := Nat) (fun k => k ≤ N) (fun k => N - k)
  (fun k => [(1, .i .i64 (sz : Int)), (2, .p 0 0), (5, (gQ st1 1 (C k)).v 1), (6, .i .i64 ((k * sz : Nat) : Int))])
  (fun k => (gQ st1 1 (C k)).h 1 ++ [(0, { cells := [.i .i64 kd, .i .i64 sq, .s bd] })]) 2 0 (fun k => k + 1) [] (fun _ => [(1, 3)]) (by decide) (by decide) (fun _ => by decide) (Nat.zero_le _) ?_ ?_ (fun k hk => ?_)
 · rw [hc0, gqN]
   simp (maxSteps := 400000) only [go_sem, Nat.zero_mul, Int.natCast_zero, AV.ren, renL, AV.bel, belL, nblt, simprocAttr]
 · rw [hc0, gqN]
   simp (maxSteps := 400000) only [go_sem, AV.ren, renL, AV.bel, belL, nblt, Blk.ren, simprocAttr]
 dsimp only [TR3]
 by_cases hlt : k < N
 rotate_left
 · have hkN : k = N := by omega
   subst hkN
   have c1 : decide (((k * sz : Nat) : Int) < (bd.length : Int)) = false := decide_eq_false (by omega)
   have hne : C k ≠ [] := fun e => by have := hcl k; rw [e] at this; simp at this; omega
   rw [gqC _ hne]
   simp (maxSteps := 400000) only [go_sem, c1, simprocAttr]
   refine CovS.frz (b := 1) (k := { cells := rows st1 (C k), gr := some 1 }) (h' := []) (o := 0) (m := (C k).length) (x := .sg 1 0 (C k).length) (cs := rows st1 (C k)) (v' := .fz (rows st1 (C k)) (C k).length) rfl rfl (.inr rfl) (.inl List.drop_zero.symm) FzV.hit (fun c kk hc => by simp [hget] at hc) ?_
   exact CovS.ends (Ends.pureE (by simp only [AV.bel, stB]) rfl)
 have hkz : k * sz < bd.length := by
  rcases hlt0 k hlt with h | h
  · rw [h, Nat.zero_mul]; exact hbp
  · exact h
 have q := q k hlt
 obtain ⟨o, ho⟩ : ∃ o, o = k * sz := ⟨_, rfl⟩
 have hos : (k + 1) * sz = o + sz := by rw [ho, Nat.succ_mul]
 rw [hos]
 rw [← ho] at q hkz ⊢
 have c1 : decide ((o : Int) < (bd.length : Int)) = true := decide_eq_true (by omega)
 have w1 : IntKind.i64.wrap ((o : Int) + (sz : Int)) = ((o + sz : Nat) : Int) := by rw [wrapL (by omega) (by omega)]; omega
 have hst : k + 1 ≤ N ∧ N - (k + 1) < N - k := ⟨by omega, by omega⟩
 have gm : decide (16 * ((C k).length + 1) ≤ growMax) = true := decide_eq_true (by rw [hcl k]; simp only [growMax]; omega)
 have gm1 : decide (16 ≤ growMax) = true := by decide
 have hLz : (rows st1 (C k)).length = (C k).length := by rw [rows_len st1_len, Nat.mul_one]
 have lap : rows st1 (C k ++ [O k]) = rows st1 (C k) ++ [.s (O k)] := by rw [rows_append]; rfl
 have lbx : ∀ j, belL j (rows st1 (C k) ++ [.s (O k)]) = true := fun j => by rw [← lap]; exact stB j _
 have lrx : ∀ ψ, renL ψ (rows st1 (C k) ++ [.s (O k)]) = rows st1 (C k) ++ [.s (O k)] := fun ψ => by rw [← lap]; exact stR ψ _
 rw [hcs k, gQ_snoc]
 simp only [gS, st1]
 clear hlt0 hcs hP0 hN1
 have e3 : decide (0 ≤ (o : Int) ∧ (o : Int) ≤ (bd.length : Int)) = true := decide_eq_true (by omega)
 have fin : ∀ e : Nat, ((o + sz ≤ bd.length ∧ e = o + sz) ∨ (bd.length < o + sz ∧ e = bd.length)) → decide (0 ≤ (o : Int) ∧ (o : Int) ≤ (e : Int) ∧ (e : Int) ≤ (bd.length : Int)) = true ∧ List.drop o (List.take e bd) = List.take sz (List.drop o bd) := fun e he => by
  refine ⟨decide_eq_true (by omega), ?_⟩
  rcases he with ⟨h1, rfl⟩ | ⟨h1, rfl⟩
  · rw [List.drop_take]; congr 1; omega
  · rw [List.take_length, List.take_of_length_le (by rw [List.length_drop]; omega)]
 cases c2 : decide (((o + sz : Nat) : Int) > (bd.length : Int))
 · obtain ⟨e1, e2⟩ := fin (o + sz) (.inl ⟨by have := of_decide_eq_false c2; omega, rfl⟩)
   by_cases hne : C k = []
   · rw [hne, gqN]
     simp (maxSteps := 400000) only [go_sem, c1, w1, c2, e1, e2, e3, q, gm1, hst, rows_nil, List.nil_append, List.length_nil, AV.ren, renL, AV.bel, belL, nblt, Blk.ren, simprocAttr]
   · rw [gqC _ hne]
     simp (maxSteps := 400000) only [go_sem, c1, w1, c2, e1, e2, e3, q, gm, hst, hLz, lbx, lrx, AV.ren, renL, AV.bel, belL, nblt, Blk.ren, Nat.mul_one, simprocAttr]
 · obtain ⟨e1, e2⟩ := fin bd.length (.inr ⟨by have := of_decide_eq_true c2; omega, rfl⟩)
   by_cases hne : C k = []
   · rw [hne, gqN]
     simp (maxSteps := 400000) only [go_sem, c1, w1, c2, e1, e2, e3, q, gm1, hst, rows_nil, List.nil_append, List.length_nil, AV.ren, renL, AV.bel, belL, nblt, Blk.ren, simprocAttr]
   · rw [gqC _ hne]
     simp (maxSteps := 400000) only [go_sem, c1, w1, c2, e1, e2, e3, q, gm, hst, hLz, lbx, lrx, AV.ren, renL, AV.bel, belL, nblt, Blk.ren, Nat.mul_one, simprocAttr]
def k47 : Ct
 | [.agg c, .i .i64 sz], _, n => (nt3 c).bind fun x => some (noteB x && decide (1 ≤ sz ∧ sz ≤ 1100), { v := .fz (rows st1 (cutL x sz.toNat)) (cutL x sz.toNat).length, n })
 | _, _, _ => none
theorem s47 : SoundAt Tryz.prog 47 k47 := fun args h n c E hc ht => by
 unfold k47 at hc
 split at hc
 · rename_i c sz
   simp only [Option.bind_eq_some_iff] at hc
   obtain ⟨x, hx, he⟩ := hc
   cases he
   simp only [Bool.and_eq_true, decide_eq_true_eq] at ht
   obtain ⟨h1, h2, h3⟩ := ht
   have := w47 x sz.toNat h1 (by omega)
   rw [Int.toNat_of_nonneg (by omega)] at this
   rw [nt3_eq hx]
   exact CallOK.pure (by kernel_rfl) rfl (by simp only [AV.bel, stB]) this _ _
 · cases hc
end Go.Proofs.Flz
end
section
/- Draft.Notes. -/
namespace Go.Proofs.Flz
open Go.Ab Go.Proofs.Flt
set_option maxRecDepth 100000
set_option maxHeartbeats 4000000
set_option linter.unusedSimpArgs false
set_option linter.unusedVariables false
theorem ntB (j : Nat) (l : List Nt) : belL j (rows Nt.l l) = true := belL_mono0 _ (rows_bel Nt.bel)
theorem ntR (ψ : Nat → Nat) (l : List Nt) : renL ψ (rows Nt.l l) = rows Nt.l l := renL_fix0 _ (rows_bel Nt.bel)
theorem w9 (d : Dr) (hd : d.ok = true) : FTL Tryz.prog 9 [.agg d.a] [] 0 (.fz (rows Nt.l (notesS d)) (notesS d).length) [] 0 := by
 simp only [Dr.ok, Bool.and_eq_true, decide_eq_true_eq, List.all_eq_true] at hd
 obtain ⟨⟨h1, h2, h3, h4⟩, h5⟩ := hd
 have hn0 : nts d 0 = [] := rfl
 have hns : ∀ k, nts d (k + 1) = bif decide (d.fi + k < 65536) then nts d k ++ [noteK d k] else nts d k := fun k => rfl
 have hnl := nts_len d
 have hR : notesS d = nts d (min 5 d.bo.length) := rfl
 have hK : ∀ k, noteK d k = ⟨kindK d k, d.fi + k, bodyK d k⟩ := fun k => rfl
 have hkd : ∀ k b, d.ki[k]? = some b → kindK d k = b.toNat := fun k b h => by simp only [kindK, h]
 have hkn : ∀ k, d.ki[k]? = none → kindK d k = 1 := fun k h => by simp only [kindK, h]
 have hbk : ∀ k b, d.bo[k]? = some b → bodyK d k = b.take 60 := fun k b h => by simp only [bodyK, h]
 rw [hR]
 obtain ⟨M, hM⟩ : ∃ M, M = min 5 d.bo.length := ⟨_, rfl⟩
 rw [← hM]
 clear hR
 generalize nts d = T at *
 generalize kindK d = KD at *
 generalize bodyK d = BD at *
 obtain ⟨fi, ki, bo⟩ := d
 dsimp only at *
 have hLk : ∀ (k : Nat) (b : UInt8), ki[k]? = some b → (rows u81 ki)[k]? = some (AV.i .u8 (b.toNat : Int)) := fun (k : Nat) (b : UInt8) hk => by
  have h1 := rows_at (f := u81) (fun _ => rfl) hk
  have h2 : (List.take 1 (List.drop (k * 1) (rows u81 ki)))[0]? = some (AV.i .u8 (b.toNat : Int)) := by rw [show List.take 1 (List.drop (k * 1) (rows u81 ki)) = u81 b from h1]; rfl
  rw [List.getElem?_take, if_pos (by decide), List.getElem?_drop, Nat.mul_one, Nat.add_zero] at h2
  exact h2
 have hLb : ∀ (k : Nat) (b : List UInt8), bo[k]? = some b → (rows bd1 bo)[k]? = some (AV.fz (rows u81 b) b.length) := fun (k : Nat) (b : List UInt8) hk => by
  have h1 := rows_at (f := bd1) bd1_len hk
  have h2 : (List.take 1 (List.drop (k * 1) (rows bd1 bo)))[0]? = some (AV.fz (rows u81 b) b.length) := by rw [show List.take 1 (List.drop (k * 1) (rows bd1 bo)) = bd1 b from h1]; rfl
  rw [List.getElem?_take, if_pos (by decide), List.getElem?_drop, Nat.mul_one, Nat.add_zero] at h2
  exact h2
 have bk := fun j => u8B j ki
 have bb := fun j => bdB j bo
 refine FTL.of_cov (cx := cxT []) Sound.nil mo Tryz.func9 i9_eq (by simp [i9]) (iw_of_jw ?_)
 dsimp only [i9, Dr.a]
 generalize rows u81 ki = LK at *
 generalize rows bd1 bo = LB at *
 have br : ∀ ψ, renL ψ LK = LK := fun ψ => renL_fix0 _ (bk 0)
 have bbr : ∀ ψ, renL ψ LB = LB := fun ψ => renL_fix0 _ (bb 0)
 simp (maxSteps := 400000) only [go_sem, AV.bel, belL, nblt, bk, bb, simprocAttr]
 have gqN : gQ Nt.l 3 ([] : List Nt) = .nil := rfl
 have gqC : ∀ l : List Nt, l ≠ [] → gQ Nt.l 3 l = .sg { cells := rows Nt.l l, gr := some 3 } 0 l.length := fun l h => by unfold gQ; rw [if_neg (by simpa using h)]
 refine Loop.stepR (F := ⟨Tryz.prog, cxT [], [14, 41, 51], 57, 0⟩) Sound.nil mo (X := Nat) (fun k => k ≤ M) (fun k => M - k)
  (fun k => [(1, .p 0 0), (3, (gQ Nt.l 3 (T k)).v 1), (4, .i .i64 (k : Int))])
  (fun k => (gQ Nt.l 3 (T k)).h 1 ++ [(0, { cells := [.i .u16 fi, .fz LK ki.length, .fz LB bo.length] })]) 2 0 (fun k => k + 1) [] (fun k => bif decide (fi + (k : Int) < 65536) then [(1, 4)] else []) (by decide) (by decide) (fun k => by cases decide (fi + (k : Int) < 65536) <;> decide) (Nat.zero_le _) ?_ ?_ (fun k hk => ?_)
 · rw [hn0, gqN]
   simp (maxSteps := 400000) only [go_sem, AV.ren, renL, AV.bel, belL, nblt, simprocAttr]
 · rw [hn0, gqN]
   simp (maxSteps := 400000) only [go_sem, AV.ren, renL, AV.bel, belL, nblt, Blk.ren, bk, bb, br, bbr, simprocAttr]
 by_cases hlt : k < M
 rotate_left
 · have hkN : k = M := by omega
   rw [← hkN]
   have fin : (∀ r : Hp, T k ≠ [] → hget ((gQ Nt.l 3 (T k)).h 1 ++ r) 1 = some { cells := rows Nt.l (T k), gr := some 3 }) := fun r hn => by rw [gqC _ hn]; rfl
   by_cases hne : T k = []
   · rw [hne, gqN]
     cases c1 : decide ((k : Int) < (bo.length : Int))
     · simp (maxSteps := 400000) only [go_sem, c1, simprocAttr]
       exact CovS.frzN (v' := .fz (rows Nt.l []) 0) (l := []) FzV.hit (CovS.ends (Ends.pureE rfl rfl))
     · have c2 : decide ((k : Int) < 5) = false := decide_eq_false (by have := of_decide_eq_true c1; omega)
       simp (maxSteps := 400000) only [go_sem, c1, c2, simprocAttr]
       exact CovS.frzN (v' := .fz (rows Nt.l []) 0) (l := []) FzV.hit (CovS.ends (Ends.pureE rfl rfl))
   · rw [gqC _ hne]
     cases c1 : decide ((k : Int) < (bo.length : Int))
     · simp (maxSteps := 400000) only [go_sem, c1, simprocAttr]
       refine CovS.frz (b := 1) (k := { cells := rows Nt.l (T k), gr := some 3 }) (h' := []) (o := 0) (m := (T k).length) (x := .sg 1 0 (T k).length) (cs := rows Nt.l (T k)) (v' := .fz (rows Nt.l (T k)) (T k).length) rfl rfl (.inr rfl) (.inl List.drop_zero.symm) FzV.hit (fun c kk hc => by simp [hget] at hc) ?_
       exact CovS.ends (Ends.pureE (by simp only [AV.bel, ntB]) rfl)
     · have c2 : decide ((k : Int) < 5) = false := decide_eq_false (by have := of_decide_eq_true c1; omega)
       simp (maxSteps := 400000) only [go_sem, c1, c2, simprocAttr]
       refine CovS.frz (b := 1) (k := { cells := rows Nt.l (T k), gr := some 3 }) (h' := []) (o := 0) (m := (T k).length) (x := .sg 1 0 (T k).length) (cs := rows Nt.l (T k)) (v' := .fz (rows Nt.l (T k)) (T k).length) rfl rfl (.inr rfl) (.inl List.drop_zero.symm) FzV.hit (fun c kk hc => by simp [hget] at hc) ?_
       exact CovS.ends (Ends.pureE (by simp only [AV.bel, ntB]) rfl)
 have c1 : decide ((k : Int) < (bo.length : Int)) = true := decide_eq_true (by omega)
 have c2 : decide ((k : Int) < 5) = true := decide_eq_true (by omega)
 have c3 : decide (0 ≤ (k : Int) ∧ (k : Int) < (bo.length : Int)) = true := decide_eq_true (by omega)
 obtain ⟨b, hb⟩ : ∃ b, bo[k]? = some b := ⟨_, List.getElem?_eq_getElem (by omega)⟩
 have hbl := h5 b (List.mem_of_getElem? hb)
 have hLb := hLb k b hb
 have hbk := hbk k b hb
 obtain ⟨m, hm1, hm2, hm3⟩ : ∃ m : Nat, min (b.length : Int) 60 = (m : Int) ∧ m ≤ b.length ∧ b.take 60 = b.take m := ⟨min b.length 60, by omega, by omega, by
  rcases Nat.le_total b.length 60 with h | h
  · rw [Nat.min_eq_left h, List.take_length, List.take_of_length_le h]
  · rw [Nat.min_eq_right h]⟩
 rw [hm3] at hbk
 have c4 : decide (0 ≤ (m : Int) ∧ (m : Int) ≤ (b.length : Int)) = true := decide_eq_true (by omega)
 have hbt := u8_take b m
 have hbb := u8_bytes (b.take m)
 have c5 : decide ((b.take m).length = m) = true := decide_eq_true (by rw [List.length_take]; omega)
 generalize b.take m = B at *
 have wf : IntKind.i64.wrap fi = fi := wrapL (by omega) (by omega)
 have wk : IntKind.i64.wrap (fi + (k : Int)) = fi + (k : Int) := wrapL (by omega) (by omega)
 have w1 : IntKind.i64.wrap ((k : Int) + 1) = ((k + 1 : Nat) : Int) := by rw [wrapL (by omega) (by omega)]; omega
 have hst : k + 1 ≤ M ∧ M - (k + 1) < M - k := ⟨by omega, by omega⟩
 have hTl : (T k).length ≤ 5 := Nat.le_trans (hnl k) (by omega)
 have gm : decide (32 * ((T k).length + 1) ≤ growMax) = true := decide_eq_true (by simp only [growMax]; omega)
 have gm1 : decide (32 ≤ growMax) = true := by decide
 have hLz : (rows Nt.l (T k)).length = (T k).length * 3 := rows_len Nt.len
 have hns := hns k
 rw [hK k, hbk] at hns
 have lb := fun j => ntB j (T k)
 have lr := fun ψ => ntR ψ (T k)
 have hkv : (∃ z : UInt8, ki[k]? = some z ∧ KD k = z.toNat) ∨ (ki.length ≤ k ∧ KD k = 1) := by
  rcases Nat.lt_or_ge k ki.length with h | h
  · obtain ⟨z, hz⟩ : ∃ z, ki[k]? = some z := ⟨_, List.getElem?_eq_getElem h⟩
    exact .inl ⟨z, hz, hkd k z hz⟩
  · exact .inr ⟨h, hkn k (List.getElem?_eq_none h)⟩
 generalize KD k = kd at *
 have lap : rows Nt.l (T k ++ [⟨kd, fi + (k : Int), B⟩]) = rows Nt.l (T k) ++ [.i .i64 kd, .i .i64 (fi + (k : Int)), .s B] := by rw [rows_append]; rfl
 have lbx : ∀ j, belL j (rows Nt.l (T k) ++ [.i .i64 kd, .i .i64 (fi + (k : Int)), .s B]) = true := fun j => by rw [← lap]; exact ntB j _
 have lrx : ∀ ψ, renL ψ (rows Nt.l (T k) ++ [.i .i64 kd, .i .i64 (fi + (k : Int)), .s B]) = rows Nt.l (T k) ++ [.i .i64 kd, .i .i64 (fi + (k : Int)), .s B] := fun ψ => by rw [← lap]; exact ntR ψ _
 cases c6 : decide (fi + (k : Int) < 65536)
 · rw [c6, cond_false] at hns
   rw [hns]
   simp only [cond_false]
   rcases hkv with ⟨z, hz, hkz⟩ | ⟨hkl, hk1⟩
   · have c7 : decide ((k : Int) < (ki.length : Int)) = true := decide_eq_true (by have := (List.getElem?_eq_some_iff.1 hz).1; omega)
     have c8 : decide (0 ≤ (k : Int) ∧ (k : Int) < (ki.length : Int)) = true := decide_eq_true (by have := (List.getElem?_eq_some_iff.1 hz).1; omega)
     have hz2 := hLk k z hz
     by_cases hne : T k = []
     · rw [hne, gqN]
       simp (maxSteps := 400000) only [go_sem, c1, c2, c3, hLb, hm1, c4, hbt, hbb, c5, wf, wk, c7, c8, hz2, c6, w1, hst, Nat.mul_one, AV.ren, renL, AV.bel, belL, nblt, Blk.ren, bk, bb, br, bbr, simprocAttr]
     · rw [gqC _ hne]
       simp (maxSteps := 400000) only [go_sem, c1, c2, c3, hLb, hm1, c4, hbt, hbb, c5, wf, wk, c7, c8, hz2, c6, w1, hst, Nat.mul_one, AV.ren, renL, AV.bel, belL, nblt, Blk.ren, bk, bb, br, bbr, lb, lr, simprocAttr]
   · have c7 : decide ((k : Int) < (ki.length : Int)) = false := decide_eq_false (by omega)
     by_cases hne : T k = []
     · rw [hne, gqN]
       simp (maxSteps := 400000) only [go_sem, c1, c2, c3, hLb, hm1, c4, hbt, hbb, c5, wf, wk, c7, c6, w1, hst, Nat.mul_one, AV.ren, renL, AV.bel, belL, nblt, Blk.ren, bk, bb, br, bbr, simprocAttr]
     · rw [gqC _ hne]
       simp (maxSteps := 400000) only [go_sem, c1, c2, c3, hLb, hm1, c4, hbt, hbb, c5, wf, wk, c7, c6, w1, hst, Nat.mul_one, AV.ren, renL, AV.bel, belL, nblt, Blk.ren, bk, bb, br, bbr, lb, lr, simprocAttr]
 · rw [c6, cond_true] at hns
   rw [hns, gQ_snoc]
   simp only [gS, Nt.l, cond_true]
   rcases hkv with ⟨z, hz, hkz⟩ | ⟨hkl, hk1⟩
   · have c7 : decide ((k : Int) < (ki.length : Int)) = true := decide_eq_true (by have := (List.getElem?_eq_some_iff.1 hz).1; omega)
     have c8 : decide (0 ≤ (k : Int) ∧ (k : Int) < (ki.length : Int)) = true := decide_eq_true (by have := (List.getElem?_eq_some_iff.1 hz).1; omega)
     have hz2 := hLk k z hz
     have wz : IntKind.i64.wrap (z.toNat : Int) = kd := by rw [hkz]; have := UInt8.toNat_lt z; exact wrapL (by omega) (by omega)
     by_cases hne : T k = []
     · rw [hne, gqN]
       simp (maxSteps := 400000) only [go_sem, c1, c2, c3, hLb, hm1, c4, hbt, hbb, c5, wf, wk, c7, c8, hz2, wz, c6, w1, hst, gm1, rows_nil, List.nil_append, List.length_nil, Nat.mul_one, AV.ren, renL, AV.bel, belL, nblt, Blk.ren, bk, bb, br, bbr, simprocAttr]
     · rw [gqC _ hne]
       simp (maxSteps := 400000) only [go_sem, c1, c2, c3, hLb, hm1, c4, hbt, hbb, c5, wf, wk, c7, c8, hz2, wz, c6, w1, hst, gm, hLz, Nat.mul_one, AV.ren, renL, AV.bel, belL, nblt, Blk.ren, bk, bb, br, bbr, lbx, lrx, simprocAttr]
   · have c7 : decide ((k : Int) < (ki.length : Int)) = false := decide_eq_false (by omega)
     subst hk1
     by_cases hne : T k = []
     · rw [hne, gqN]
       simp (maxSteps := 400000) only [go_sem, c1, c2, c3, hLb, hm1, c4, hbt, hbb, c5, wf, wk, c7, c6, w1, hst, gm1, rows_nil, List.nil_append, List.length_nil, Nat.mul_one, AV.ren, renL, AV.bel, belL, nblt, Blk.ren, bk, bb, br, bbr, simprocAttr]
     · rw [gqC _ hne]
       simp (maxSteps := 400000) only [go_sem, c1, c2, c3, hLb, hm1, c4, hbt, hbb, c5, wf, wk, c7, c6, w1, hst, gm, hLz, Nat.mul_one, AV.ren, renL, AV.bel, belL, nblt, Blk.ren, bk, bb, br, bbr, lbx, lrx, simprocAttr]
end Go.Proofs.Flz
end
