/- Draft.Notes, with a live result. -/
import Derived.Test.YtlokbfkdgnopeaaGreatDoorFlzRb
import Derived.Test.YtlokbfkdgnopeaaGreatDoorAbLoopsS
namespace Go.Proofs.Flz
open Go.Ab Go.Proofs.Flt
set_option maxRecDepth 100000
set_option maxHeartbeats 4000000
set_option linter.unusedSimpArgs false
set_option linter.unusedVariables false
theorem w9g (d : Dr) (hd : d.ok = true) (v0 : AV) (h0 : Hp) (n0 : Nat) (e0 : notesS d = [] → v0 = .ns ∧ h0 = [] ∧ n0 = 0)
 (e1 : notesS d ≠ [] → v0 = .sg 0 0 (notesS d).length ∧ h0 = [(0, { cells := rows Nt.l (notesS d), gr := some 3 })] ∧ n0 = 1) : FTL Tryz.prog 9 [.agg d.a] [] 0 v0 h0 n0 := by
 simp only [Dr.ok, Bool.and_eq_true, decide_eq_true_eq, List.all_eq_true] at hd
 obtain ⟨⟨h1, h2, h3, h4⟩, h5⟩ := hd
 have hn0 : nts d 0 = [] := rfl
 have hns : ∀ k, nts d (k + 1) = bif decide (d.fi + k < 65536) then nts d k ++ [noteK d k] else nts d k := fun k => rfl
 have hnl := nts_len d
 have hR : notesS d = nts d (min 5 d.bo.length) := rfl
 have hK : ∀ k, noteK d k = ⟨kindK d k, d.fi + k, bodyK d k⟩ := fun k => rfl
 have hkd : ∀ k b, d.ki[k]? = some b → kindK d k = b.toNat := fun k b h => by simp only [kindK, h]
 have hkn : ∀ k, d.ki[k]? = none → kindK d k = 1 := fun k h => by simp only [kindK, h]
 have hbk : ∀ k b, d.bo[k]? = some b → bodyK d k = b.take 60 := fun k b h => by simp only [bodyK, h]
 rw [hR] at e0 e1
 obtain ⟨M, hM⟩ : ∃ M, M = min 5 d.bo.length := ⟨_, rfl⟩
 rw [← hM] at e0 e1
 clear hR
 generalize nts d = T at *
 generalize kindK d = KD at *
 generalize bodyK d = BD at *
 obtain ⟨fi, ki, bo⟩ := d
 dsimp only at *
 have hLk : ∀ (k : Nat) (b : UInt8), ki[k]? = some b → (rows u81 ki)[k]? = some (AV.i .u8 (b.toNat : Int)) := fun (k : Nat) (b : UInt8) hk => by
  have h1 := rows_at (f := u81) (fun _ => rfl) hk
  have h2 : (List.take 1 (List.drop (k * 1) (rows u81 ki)))[0]? = some (AV.i .u8 (b.toNat : Int)) := by rw [show List.take 1 (List.drop (k * 1) (rows u81 ki)) = u81 b from h1]; rfl
  rw [List.getElem?_take, if_pos (by decide), List.getElem?_drop, Nat.mul_one, Nat.add_zero] at h2
  exact h2
 have hLb : ∀ (k : Nat) (b : List UInt8), bo[k]? = some b → (rows bd1 bo)[k]? = some (AV.fz (rows u81 b) b.length) := fun (k : Nat) (b : List UInt8) hk => by
  have h1 := rows_at (f := bd1) bd1_len hk
  have h2 : (List.take 1 (List.drop (k * 1) (rows bd1 bo)))[0]? = some (AV.fz (rows u81 b) b.length) := by rw [show List.take 1 (List.drop (k * 1) (rows bd1 bo)) = bd1 b from h1]; rfl
  rw [List.getElem?_take, if_pos (by decide), List.getElem?_drop, Nat.mul_one, Nat.add_zero] at h2
  exact h2
 have bk := fun j => u8B j ki
 have bb := fun j => bdB j bo
 refine FTL.of_iw (cx := cxT []) Sound.nil mo Tryz.func9 i9_eq (by simp [i9]) (iw_of_jw ?_)
 dsimp only [i9, Dr.a]
 generalize rows u81 ki = LK at *
 generalize rows bd1 bo = LB at *
 have br : ∀ ψ, renL ψ LK = LK := fun ψ => renL_fix0 _ (bk 0)
 have bbr : ∀ ψ, renL ψ LB = LB := fun ψ => renL_fix0 _ (bb 0)
 simp (maxSteps := 400000) only [go_sem, AV.bel, belL, nblt, bk, bb, simprocAttr]
 have gqN : gQ Nt.l 3 ([] : List Nt) = .nil := rfl
 have gqC : ∀ l : List Nt, l ≠ [] → gQ Nt.l 3 l = .sg { cells := rows Nt.l l, gr := some 3 } 0 l.length := fun l h => by unfold gQ; rw [if_neg (by simpa using h)]
 refine Loop.stepR (F := ⟨Tryz.prog, cxT [], [14, 41, 51], 57, 0⟩) Sound.nil mo (X := Nat) (fun k => k ≤ M) (fun k => M - k)
  (fun k => [(1, .p 0 0), (3, (gQ Nt.l 3 (T k)).v 1), (4, .i .i64 (k : Int))])
  (fun k => (gQ Nt.l 3 (T k)).h 1 ++ [(0, { cells := [.i .u16 fi, .fz LK ki.length, .fz LB bo.length] })]) 2 0 (fun k => k + 1) [] (fun k => bif decide (fi + (k : Int) < 65536) then [(1, 4)] else []) (by decide) (by decide) (fun k => by cases decide (fi + (k : Int) < 65536) <;> decide) (Nat.zero_le _) ?_ ?_ (fun k hk => ?_)
 · rw [hn0, gqN]
   simp (maxSteps := 400000) only [go_sem, AV.ren, renL, AV.bel, belL, nblt, simprocAttr]
 · rw [hn0, gqN]
   simp (maxSteps := 400000) only [go_sem, AV.ren, renL, AV.bel, belL, nblt, Blk.ren, bk, bb, br, bbr, simprocAttr]
 by_cases hlt : k < M
 rotate_left
 · have hkN : k = M := by omega
   rw [← hkN] at e0 e1
   have fin : (∀ r : Hp, T k ≠ [] → hget ((gQ Nt.l 3 (T k)).h 1 ++ r) 1 = some { cells := rows Nt.l (T k), gr := some 3 }) := fun r hn => by rw [gqC _ hn]; rfl
   by_cases hne : T k = []
   · obtain ⟨rfl, rfl, rfl⟩ := e0 hne
     rw [hne, gqN]
     cases c1 : decide ((k : Int) < (bo.length : Int))
     · simp (maxSteps := 400000) only [go_sem, c1, simprocAttr]
       exact Ends.pureE rfl rfl
     · have c2 : decide ((k : Int) < 5) = false := decide_eq_false (by have := of_decide_eq_true c1; omega)
       simp (maxSteps := 400000) only [go_sem, c1, c2, simprocAttr]
       exact Ends.pureE rfl rfl
   · obtain ⟨rfl, rfl, rfl⟩ := e1 hne
     rw [gqC _ hne]
     cases c1 : decide ((k : Int) < (bo.length : Int))
     · simp (maxSteps := 400000) only [go_sem, c1, simprocAttr]
       exact Ends.new1 (b := 1) (by decide) rfl rfl rfl (ntB _ _) rfl
     · have c2 : decide ((k : Int) < 5) = false := decide_eq_false (by have := of_decide_eq_true c1; omega)
       simp (maxSteps := 400000) only [go_sem, c1, c2, simprocAttr]
       exact Ends.new1 (b := 1) (by decide) rfl rfl rfl (ntB _ _) rfl
 have c1 : decide ((k : Int) < (bo.length : Int)) = true := decide_eq_true (by omega)
 have c2 : decide ((k : Int) < 5) = true := decide_eq_true (by omega)
 have c3 : decide (0 ≤ (k : Int) ∧ (k : Int) < (bo.length : Int)) = true := decide_eq_true (by omega)
 obtain ⟨b, hb⟩ : ∃ b, bo[k]? = some b := ⟨_, List.getElem?_eq_getElem (by omega)⟩
 have hbl := h5 b (List.mem_of_getElem? hb)
 have hLb := hLb k b hb
 have hbk := hbk k b hb
 obtain ⟨m, hm1, hm2, hm3⟩ : ∃ m : Nat, min (b.length : Int) 60 = (m : Int) ∧ m ≤ b.length ∧ b.take 60 = b.take m := ⟨min b.length 60, by omega, by omega, by
  rcases Nat.le_total b.length 60 with h | h
  · rw [Nat.min_eq_left h, List.take_length, List.take_of_length_le h]
  · rw [Nat.min_eq_right h]⟩
 rw [hm3] at hbk
 have c4 : decide (0 ≤ (m : Int) ∧ (m : Int) ≤ (b.length : Int)) = true := decide_eq_true (by omega)
 have hbt := u8_take b m
 have hbb := u8_bytes (b.take m)
 have c5 : decide ((b.take m).length = m) = true := decide_eq_true (by rw [List.length_take]; omega)
 generalize b.take m = B at *
 have wf : IntKind.i64.wrap fi = fi := wrapL (by omega) (by omega)
 have wk : IntKind.i64.wrap (fi + (k : Int)) = fi + (k : Int) := wrapL (by omega) (by omega)
 have w1 : IntKind.i64.wrap ((k : Int) + 1) = ((k + 1 : Nat) : Int) := by rw [wrapL (by omega) (by omega)]; omega
 have hst : k + 1 ≤ M ∧ M - (k + 1) < M - k := ⟨by omega, by omega⟩
 have hTl : (T k).length ≤ 5 := Nat.le_trans (hnl k) (by omega)
 have gm : decide (32 * ((T k).length + 1) ≤ growMax) = true := decide_eq_true (by simp only [growMax]; omega)
 have gm1 : decide (32 ≤ growMax) = true := by decide
 have hLz : (rows Nt.l (T k)).length = (T k).length * 3 := rows_len Nt.len
 have hns := hns k
 rw [hK k, hbk] at hns
 have lb := fun j => ntB j (T k)
 have lr := fun ψ => ntR ψ (T k)
 have hkv : (∃ z : UInt8, ki[k]? = some z ∧ KD k = z.toNat) ∨ (ki.length ≤ k ∧ KD k = 1) := by
  rcases Nat.lt_or_ge k ki.length with h | h
  · obtain ⟨z, hz⟩ : ∃ z, ki[k]? = some z := ⟨_, List.getElem?_eq_getElem h⟩
    exact .inl ⟨z, hz, hkd k z hz⟩
  · exact .inr ⟨h, hkn k (List.getElem?_eq_none h)⟩
 generalize KD k = kd at *
 have lap : rows Nt.l (T k ++ [⟨kd, fi + (k : Int), B⟩]) = rows Nt.l (T k) ++ [.i .i64 kd, .i .i64 (fi + (k : Int)), .s B] := by rw [rows_append]; rfl
 have lbx : ∀ j, belL j (rows Nt.l (T k) ++ [.i .i64 kd, .i .i64 (fi + (k : Int)), .s B]) = true := fun j => by rw [← lap]; exact ntB j _
 have lrx : ∀ ψ, renL ψ (rows Nt.l (T k) ++ [.i .i64 kd, .i .i64 (fi + (k : Int)), .s B]) = rows Nt.l (T k) ++ [.i .i64 kd, .i .i64 (fi + (k : Int)), .s B] := fun ψ => by rw [← lap]; exact ntR ψ _
 cases c6 : decide (fi + (k : Int) < 65536)
 · rw [c6, cond_false] at hns
   rw [hns]
   simp only [cond_false]
   rcases hkv with ⟨z, hz, hkz⟩ | ⟨hkl, hk1⟩
   · have c7 : decide ((k : Int) < (ki.length : Int)) = true := decide_eq_true (by have := (List.getElem?_eq_some_iff.1 hz).1; omega)
     have c8 : decide (0 ≤ (k : Int) ∧ (k : Int) < (ki.length : Int)) = true := decide_eq_true (by have := (List.getElem?_eq_some_iff.1 hz).1; omega)
     have hz2 := hLk k z hz
     by_cases hne : T k = []
     · rw [hne, gqN]
       simp (maxSteps := 400000) only [go_sem, c1, c2, c3, hLb, hm1, c4, hbt, hbb, c5, wf, wk, c7, c8, hz2, c6, w1, hst, Nat.mul_one, AV.ren, renL, AV.bel, belL, nblt, Blk.ren, bk, bb, br, bbr, simprocAttr]
     · rw [gqC _ hne]
       simp (maxSteps := 400000) only [go_sem, c1, c2, c3, hLb, hm1, c4, hbt, hbb, c5, wf, wk, c7, c8, hz2, c6, w1, hst, Nat.mul_one, AV.ren, renL, AV.bel, belL, nblt, Blk.ren, bk, bb, br, bbr, lb, lr, simprocAttr]
   · have c7 : decide ((k : Int) < (ki.length : Int)) = false := decide_eq_false (by omega)
     by_cases hne : T k = []
     · rw [hne, gqN]
       simp (maxSteps := 400000) only [go_sem, c1, c2, c3, hLb, hm1, c4, hbt, hbb, c5, wf, wk, c7, c6, w1, hst, Nat.mul_one, AV.ren, renL, AV.bel, belL, nblt, Blk.ren, bk, bb, br, bbr, simprocAttr]
     · rw [gqC _ hne]
       simp (maxSteps := 400000) only [go_sem, c1, c2, c3, hLb, hm1, c4, hbt, hbb, c5, wf, wk, c7, c6, w1, hst, Nat.mul_one, AV.ren, renL, AV.bel, belL, nblt, Blk.ren, bk, bb, br, bbr, lb, lr, simprocAttr]
 · rw [c6, cond_true] at hns
   rw [hns, gQ_snoc]
   simp only [gS, Nt.l, cond_true]
   rcases hkv with ⟨z, hz, hkz⟩ | ⟨hkl, hk1⟩
   · have c7 : decide ((k : Int) < (ki.length : Int)) = true := decide_eq_true (by have := (List.getElem?_eq_some_iff.1 hz).1; omega)
     have c8 : decide (0 ≤ (k : Int) ∧ (k : Int) < (ki.length : Int)) = true := decide_eq_true (by have := (List.getElem?_eq_some_iff.1 hz).1; omega)
     have hz2 := hLk k z hz
     have wz : IntKind.i64.wrap (z.toNat : Int) = kd := by rw [hkz]; have := UInt8.toNat_lt z; exact wrapL (by omega) (by omega)
     by_cases hne : T k = []
     · rw [hne, gqN]
       simp (maxSteps := 400000) only [go_sem, c1, c2, c3, hLb, hm1, c4, hbt, hbb, c5, wf, wk, c7, c8, hz2, wz, c6, w1, hst, gm1, rows_nil, List.nil_append, List.length_nil, Nat.mul_one, AV.ren, renL, AV.bel, belL, nblt, Blk.ren, bk, bb, br, bbr, simprocAttr]
     · rw [gqC _ hne]
       simp (maxSteps := 400000) only [go_sem, c1, c2, c3, hLb, hm1, c4, hbt, hbb, c5, wf, wk, c7, c8, hz2, wz, c6, w1, hst, gm, hLz, Nat.mul_one, AV.ren, renL, AV.bel, belL, nblt, Blk.ren, bk, bb, br, bbr, lbx, lrx, simprocAttr]
   · have c7 : decide ((k : Int) < (ki.length : Int)) = false := decide_eq_false (by omega)
     subst hk1
     by_cases hne : T k = []
     · rw [hne, gqN]
       simp (maxSteps := 400000) only [go_sem, c1, c2, c3, hLb, hm1, c4, hbt, hbb, c5, wf, wk, c7, c6, w1, hst, gm1, rows_nil, List.nil_append, List.length_nil, Nat.mul_one, AV.ren, renL, AV.bel, belL, nblt, Blk.ren, bk, bb, br, bbr, simprocAttr]
     · rw [gqC _ hne]
       simp (maxSteps := 400000) only [go_sem, c1, c2, c3, hLb, hm1, c4, hbt, hbb, c5, wf, wk, c7, c6, w1, hst, gm, hLz, Nat.mul_one, AV.ren, renL, AV.bel, belL, nblt, Blk.ren, bk, bb, br, bbr, lbx, lrx, simprocAttr]
theorem w9n (d : Dr) (hd : d.ok = true) (h : notesS d = []) : FTL Tryz.prog 9 [.agg d.a] [] 0 .ns [] 0 := w9g d hd _ _ _ (fun _ => ⟨rfl, rfl, rfl⟩) (fun h2 => absurd h h2)
theorem w9l (d : Dr) (hd : d.ok = true) (h : notesS d ≠ []) : FTL Tryz.prog 9 [.agg d.a] [] 0 (.sg 0 0 (notesS d).length) [(0, { cells := rows Nt.l (notesS d), gr := some 3 })] 1 := w9g d hd _ _ _ (fun h2 => absurd h2 h) (fun _ => ⟨rfl, rfl, rfl⟩)
end Go.Proofs.Flz
