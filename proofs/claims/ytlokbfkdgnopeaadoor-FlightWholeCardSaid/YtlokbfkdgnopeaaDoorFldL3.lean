/- The law FlightWhole. -/
import Derived.Test.YtlokbfkdgnopeaaDoorFldK
import Derived.Test.YtlokbfkdgnopeaaDoorFldI3
import Derived.Test.YtlokbfkdgnopeaaDoorFltP1
import Derived.Test.YtlokbfkdgnopeaaDoorFltJ
namespace Go.Proofs.Fld
open Go.Ab Go.Proofs.Flt
set_option maxRecDepth 100000
set_option maxHeartbeats 4000000
set_option linter.unusedSimpArgs false
set_option linter.unusedVariables false
theorem rep_len (s : List UInt8) : ∀ n, (Go.Lib.repeatL s n).length = n * s.length
 | 0 => by simp [Go.Lib.repeatL]
 | n + 1 => by
  have := rep_len s n
  simp only [Go.Lib.repeatL, List.length_append, this, Nat.succ_mul] at *
  omega
theorem cutN_le {n sz : Nat} (hs : 1 ≤ sz) : cutN n sz ≤ n + 1 := by
 unfold cutN
 split
 · omega
 · refine Nat.div_le_of_le_mul ?_
   have : n ≤ sz * n := Nat.le_mul_of_pos_left n (by omega)
   rw [Nat.mul_succ]; omega
def TL3 : List (Nat × Ct) := [(5, k5), (6, k6), (7, k7), (8, k8)]
theorem hTL3 : Sound Tryd.prog (cxT TL3) := Sound.cons s5 <| Sound.cons s6 <| Sound.cons s7 <| Sound.cons s8 Sound.nil
theorem w3 (kd sq : Int) (body : List UInt8) (tm sz : Int) (hk : 0 ≤ kd ∧ kd ≤ 255) (hq : 0 ≤ sq ∧ sq ≤ 65535) (hb : body.length ≤ 9223372036854775807) (ht : 0 ≤ tm ∧ tm ≤ 255) (hz : 0 ≤ sz ∧ sz ≤ 65535) :
 FTL Tryd.prog 3 [.i .u8 kd, .i .u16 sq, .fz (rows u81 body) body.length, .i .u8 tm, .i .u16 sz] [] 0 (.b true) [] 0 := by
 refine FTL.of_iw hTL3 mo Tryd.func3 i3_eq (by simp [i3]) (iw_of_jw ?_)
 dsimp only [i3, TL3]
 have ub : ∀ j, belL j (rows u81 body) = true := fun j => belL_mono0 _ (rows_bel (fun _ => rfl))
 have wkd : IntKind.i64.wrap kd = kd := wrapL (by omega) (by omega)
 have wsq : IntKind.i64.wrap sq = sq := wrapL (by omega) (by omega)
 have wtm : IntKind.i64.wrap tm = tm := wrapL (by omega) (by omega)
 have wsz : IntKind.i64.wrap sz = sz := wrapL (by omega) (by omega)
 obtain ⟨m, hm⟩ : ∃ m : Nat, min (body.length : Int) 16 = (m : Int) ∧ m ≤ 16 ∧ m ≤ body.length := ⟨min body.length 16, by omega, by omega, by omega⟩
 obtain ⟨hm1, hm2, hm3⟩ := hm
 have c0 : decide (0 ≤ (m : Int) ∧ (m : Int) ≤ (body.length : Int)) = true := decide_eq_true (by omega)
 have c1 : decide ((body.take m).length = m) = true := decide_eq_true (by rw [List.length_take]; omega)
 have hbt := u8_take body m
 have hbb := u8_bytes (body.take m)
 have hsl : (body.take m).length ≤ 16 := by rw [List.length_take]; omega
 generalize hs0 : body.take m = s0 at *
 have hrl := rep_len s0 tm.toNat
 have hrl2 : tm.toNat * s0.length ≤ 255 * 16 := Nat.mul_le_mul (by omega) hsl
 have q6 : ∀ (h : Hp) n, k6 [.s s0, .i .i64 tm] h n = some (true, { v := .s (Go.Lib.repeatL s0 tm.toNat), n }) := fun h n => by
  have : decide (0 ≤ tm ∧ s0.length * tm.toNat ≤ 1000000 ∧ tm ≤ 1000000) = true := decide_eq_true ⟨by omega, by rw [Nat.mul_comm]; omega, by omega⟩
  simp only [k6, this]
 generalize Go.Lib.repeatL s0 tm.toNat = tx at *
 obtain ⟨m2, hn1, hn2, hn3⟩ : ∃ m : Nat, min (tx.length : Int) 4000 = (m : Int) ∧ m ≤ 4000 ∧ m ≤ tx.length := ⟨min tx.length 4000, by omega, by omega, by omega⟩
 have c2 : decide (0 ≤ (m2 : Int) ∧ (m2 : Int) ≤ (tx.length : Int)) = true := decide_eq_true (by omega)
 have hbl : (tx.take m2).length ≤ 4000 := by rw [List.length_take]; omega
 generalize hbd : tx.take m2 = bd at *
 have htm : sz.tmod 1100 = sz % 1100 := Int.tmod_eq_emod_of_nonneg hz.1
 obtain ⟨r, hr, hr2⟩ : ∃ r : Nat, sz % 1100 = (r : Int) ∧ r < 1100 := ⟨(sz % 1100).toNat, by omega, by omega⟩
 rw [hr] at htm
 have w1 : IntKind.i64.wrap (1 + (r : Int)) = ((r + 1 : Nat) : Int) := by rw [wrapL (by omega) (by omega)]; omega
 obtain ⟨z, hz1⟩ : ∃ z, z = r + 1 := ⟨_, rfl⟩
 rw [← hz1] at w1
 have hzr : 1 ≤ z ∧ z ≤ 1100 := by omega
 have hnt : noteB ⟨kd, sq, bd⟩ = true := by
  simp only [noteB, Bool.and_eq_true, decide_eq_true_eq]
  exact ⟨inW_of hk, inW_of hq, hbl⟩
 have hct : cutS ⟨kd, sq, bd⟩ (z : Int) = (cutL ⟨kd, sq, bd⟩ z, 0) := by
  unfold cutS
  rw [hnt, inW_of (by omega : 0 ≤ (z : Int) - 1 ∧ (z : Int) - 1 ≤ 1099)]
  rfl
 obtain ⟨x, hx⟩ : ∃ x : Nt, x = ⟨kd, sq, bd⟩ := ⟨_, rfl⟩
 rw [← hx] at hnt hct
 obtain ⟨N, hN⟩ : ∃ N, N = cutN bd.length z := ⟨_, rfl⟩
 obtain ⟨C, hC⟩ : ∃ C, C = cutL x z := ⟨_, rfl⟩
 have hCl : C.length = N := by rw [hC, hN]; simp only [cutL, hx]; exact mapN_len _
 have q7 : ∀ (h : Hp) n, k7 [.agg [.i .i64 kd, .i .i64 sq, .s bd], .i .i64 (z : Int)] h n = some (true, { v := .tup [.fz (rows st1 C) N, .i .i64 0], n }) := fun h n => by
  show some (true, ({ v := ctV (cutS ⟨kd, sq, bd⟩ (z : Int)), n } : Eff)) = _
  rw [← hx, hct, ← hC, ← hCl]
  rfl
 have w2 : IntKind.i64.wrap ((bd.length : Int) + (z : Int)) = (bd.length : Int) + (z : Int) := wrapL (by omega) (by omega)
 have w3 : IntKind.i64.wrap ((bd.length : Int) + (z : Int) - 1) = ((bd.length + z - 1 : Nat) : Int) := by rw [wrapL (by omega) (by omega)]; omega
 have hqu : Int.tdiv ((bd.length + z - 1 : Nat) : Int) (z : Int) = (((bd.length + z - 1) / z : Nat) : Int) := by rw [Int.tdiv_eq_ediv_of_nonneg (by omega)]; rfl
 have hmx : max (1 : Int) (((bd.length + z - 1) / z : Nat) : Int) = (N : Int) := by
  have := cutN_max (n := bd.length) (sz := z) hzr.1
  rw [← hN] at this
  omega
 have hz0 : ((z : Int) != 0) = true := by simp; omega
 have hQ : (bd.length + z - 1) / z ≤ bd.length + z := Nat.le_trans (Nat.div_le_self _ _) (by omega)
 generalize (bd.length + z - 1) / z = Q at *
 have wQ : IntKind.i64.wrap (Q : Int) = (Q : Int) := wrapL (by omega) (by omega)
 have cN : ((N : Int) != (N : Int)) = false := by simp
 have hCb : ∀ j, belL j (rows st1 C) = true := fun j => stB j C
 simp (maxSteps := 400000) only [go_sem, k5, wkd, wsq, wtm, wsz, hm1, c0, hs0, hbt, hbb, c1, q6, hn1, c2, hbd, htm, w1, q7, w2, w3, hqu, hmx, hz0, wQ, cN, AV.bel, belL, nblt, hCb, simprocAttr]
 have hNp : 0 < N := by rw [hN]; exact (cutN_ge' hzr.1).1
 have hNz : bd.length ≤ N * z := by rw [hN]; exact (cutN_ge' hzr.1).2
 have hNb : N ≤ 4001 := by have := cutN_le (n := bd.length) hzr.1; rw [← hN] at this; omega
 have hfin : bd.take (N * z) = bd := List.take_of_length_le hNz
 have hget : ∀ k, k < N → (rows st1 C)[k]? = some (.s (pcO (cutP x z k))) := fun k hk => by
  have h0 : C[k]? = some (pcO (cutP x z k)) := by
   rw [hC]; simp only [cutL]
   exact mapN_get (by rw [hx, ← hN]; exact hk)
  have h1 := rows_at (f := st1) st1_len h0
  have h2 : (List.take 1 (List.drop (k * 1) (rows st1 C)))[0]? = some (.s (pcO (cutP x z k))) := by rw [show List.take 1 (List.drop (k * 1) (rows st1 C)) = st1 (pcO (cutP x z k)) from h1]; rfl
  rw [List.getElem?_take, if_pos (by decide), List.getElem?_drop, Nat.mul_one, Nat.add_zero] at h2
  exact h2
 have hok : ∀ k, k < N → readS (pcO (cutP x z k)) = (cutP x z k, 0) := fun k hk => read_cut (cutP_ok hnt hzr (by rw [hx, ← hN]; exact hk))
 have hlt0 : ∀ k, k < N → k = 0 ∨ k * z < bd.length := fun k hk => cutN_lt' hzr.1 (by rw [← hN]; exact hk)
 clear hct hC hqu hmx q6 q7 hbt hbb hrl hrl2
 generalize rows st1 C = L at *
 refine Loop.countI (F := ⟨Tryd.prog, cxT TL3, [22, 67, 71, 133], 143, 0⟩) hTL3 mo N (fun _ => True) (fun k => [(12, .p 0 0), (13, .i .i64 (z : Int)), (14, .fz L N), (16, .s (bd.take (k * z))), (68, .fz L N), (69, .i .i64 (N : Int)), (70, .i .i64 (k : Int))]) (fun _ => [(0, { cells := [.i .i64 kd, .i .i64 sq, .s bd] })]) 1 (by decide) trivial ?_ ?_ (fun k hk _ => ?_)
 · simp (maxSteps := 400000) only [go_sem, Nat.zero_mul, List.take_zero, AV.bel, belL, nblt, hCb, simprocAttr]
 · simp (maxSteps := 400000) only [go_sem, AV.bel, belL, nblt, simprocAttr]
 dsimp only [TL3]
 by_cases hlt : k < N
 rotate_left
 · have hkN : k = N := by omega
   subst hkN
   have d1 : decide ((k : Int) < (k : Int)) = false := decide_eq_false (by omega)
   simp (maxSteps := 400000) only [go_sem, d1, hfin, beq_self_eq_true, simprocAttr]
   exact Ends.pureE rfl rfl
 have d1 : decide ((k : Int) < (N : Int)) = true := decide_eq_true (by omega)
 have d2 : decide (0 ≤ (k : Int) ∧ (k : Int) < (N : Int)) = true := decide_eq_true (by omega)
 have hg := hget k hlt
 have hr := hok k hlt
 have hkz := hlt0 k hlt
 obtain ⟨o, ho⟩ : ∃ o, o = k * z := ⟨_, rfl⟩
 obtain ⟨pt, hpt⟩ : ∃ pt, pt = (bd.drop (k * z)).take z := ⟨_, rfl⟩
 have hcp : cutP x z k = ⟨kd, (bd.length : Int), sq, ((o : Nat) : Int), pt⟩ := by rw [hx, ho, hpt]; rfl
 have hsl2 := pcO_len (cutP x z k)
 rw [hcp] at hr hsl2 hg
 dsimp only at hsl2
 generalize pcO ⟨kd, (bd.length : Int), sq, ((o : Nat) : Int), pt⟩ = s at *
 have q8 : ∀ (h : Hp) n, k8 [.s s] h n = some (true, { v := .tup [.agg [.i .i64 kd, .i .i64 (bd.length : Int), .i .i64 sq, .i .i64 (o : Int), .s pt], .i .i64 0], n }) := fun h n => by
  have : decide (s.length ≤ 9223372036854775807) = true := decide_eq_true (by
   have : pt.length ≤ bd.length := by rw [hpt, List.length_take, List.length_drop]; omega
   omega)
  simp only [k8, this, hr]
  rfl
 have hptl : pt.length ≤ z := by rw [hpt, List.length_take]; omega
 have hal : (bd.take o).length = o := by rw [List.length_take, ho]; rcases hkz with rfl | h <;> omega
 have hap : bd.take o ++ pt = bd.take ((k + 1) * z) := by
  rw [hpt, ho, Nat.succ_mul, List.take_add]
 have hpl : (k : Int) < (N : Int) - 1 → pt.length = z := fun h => by
  have h1 := hlt0 (k + 1) (by omega)
  rw [hpt, List.length_take, List.length_drop]
  rcases h1 with h1 | h1
  · omega
  · rw [Nat.succ_mul] at h1; omega
 have wN : IntKind.i64.wrap ((N : Int) - 1) = (N : Int) - 1 := wrapL (by omega) (by omega)
 have w12 : IntKind.i64.wrap (12 + (pt.length : Int)) = 12 + (pt.length : Int) := wrapL (by omega) (by omega)
 have hsI : (s.length : Int) = 12 + (pt.length : Int) := by omega
 have wk : IntKind.i64.wrap ((k : Int) + 1) = ((k + 1 : Nat) : Int) := by rw [wrapL (by omega) (by omega)]; omega
 have hob : o ≤ 4000 := by
  rw [ho]
  rcases hkz with h | h
  · rw [h, Nat.zero_mul]; omega
  · omega
 have cl : decide (o + pt.length ≤ 9223372036854775807) = true := decide_eq_true (by omega)
 rw [← ho]
 cases c : decide ((k : Int) < (N : Int) - 1)
 · simp (maxSteps := 400000) only [go_sem, d1, d2, hg, Nat.mul_one, q8, hal, bne_self_eq_false, wN, c, w12, hsI, hap, cl, wk, AV.bel, belL, nblt, hCb, simprocAttr]
   exact hlt
 · have hpl := hpl (of_decide_eq_true c)
   rw [hpl] at w12 hsI cl
   simp (maxSteps := 400000) only [go_sem, d1, d2, hg, Nat.mul_one, q8, hal, bne_self_eq_false, wN, c, hpl, w12, hsI, hap, cl, wk, AV.bel, belL, nblt, hCb, simprocAttr]
   exact hlt
end Go.Proofs.Fld
