/- Contracts of chapter 29: a state bent in one field; the state of a draft. Printed in part by hand. -/
import Derived.Test.YtiacdfhaopnekaaArrC11
import Derived.Test.YtiacdfhaopnekaaArrC12
import Derived.Test.YtiacdfhaopnekaaAbSeam
import Derived.Test.YtiacdfhaopnekaaArrI12
namespace Go.Proofs.Arr
open Go.Ab
set_option maxRecDepth 100000
set_option maxHeartbeats 16000000
set_option linter.unusedSimpArgs false
set_option linter.unusedVariables false
theorem prow15 (l : List Pt) : (rows Pt.l l).length = l.length * 2 := rows_len Pt.len
theorem pone15 (l : List Pt) : oneAll (rows Pt.l l) = true := rows_one1 (fun _ => rfl) l
/-- A state bent in one field. -/
def bendT (w N : Int) (t : Tr) : Tr :=
  if w % 18 = 0 then { t with att := N } else if w % 18 = 1 then { t with st := !t.st } else if w % 18 = 2 then { t with past := !t.past } else if w % 18 = 3 then { t with fst := N } else if w % 18 = 4 then { t with lst := N }
  else if w % 18 = 5 then { t with got := N } else if w % 18 = 6 then { t with plst := N } else if w % 18 = 7 then { t with pgot := N } else if w % 18 = 8 then { t with cnt := N } else if w % 18 = 9 then { t with sum := N }
  else if w % 18 = 10 then { t with smo := N } else if w % 18 = 11 then { t with thr := N } else if w % 18 = 12 then { t with ovr := N } else if w % 18 = 13 then { t with ovs := N } else if w % 18 = 14 then { t with bef := N }
  else if w % 18 = 15 then { t with sta := N } else t
def bendL (w a N : Int) (l : List Pt) : List Pt :=
  if l.length = 0 ∨ w % 18 < 16 then l
  else if w % 18 = 16 then l.set (a.toNat % l.length) ⟨N, (l.getD (a.toNat % l.length) default).y⟩
  else l.set (a.toNat % l.length) ⟨(l.getD (a.toNat % l.length) default).x, N⟩
theorem bendL_len (w a N : Int) (l : List Pt) : (bendL w a N l).length = l.length := by
  unfold bendL
  split
  · rfl
  · split <;> simp
def bdU (w a N : Int) (t : Tr) (l : List Pt) (b : Nat) : AV := .agg ((bendT w N t).l ((copyQ (bendL w a N l)).v b))
theorem w12 (w a N : Int) (t : Tr) (s : Sh) (l : List Pt) (hw : 0 ≤ w ∧ w ≤ 255) (ha : 0 ≤ a ∧ a ≤ 255) (hs : Sh.pts s l) (hll : l.length ≤ 1000000) : FTL Try.prog 12 [.agg [.i .u8 w, .i .u8 a, .i .i64 N], .agg (t.l (s.v 0))] (s.h 0) 1 (bdU w a N t l 1) (s.h 0 ++ (copyQ (bendL w a N l)).h 1) 2 := by
  refine FTL.of_seam (cx := cxT []) Try.func12 i12_eq (by simp [i12]) ?_
  have hp := hs.pl
  have hQ := copyQ_pts l
  have pQ := hQ.pl
  have lQ : (copyQ l).len = l.length := hQ.ln
  dsimp only [i12]
  obtain ⟨U, hU⟩ : ∃ U, U = bdU w a N t l 1 := ⟨_, rfl⟩
  obtain ⟨H2, hH2⟩ : ∃ H2, H2 = s.h 0 ++ (copyQ (bendL w a N l)).h 1 := ⟨_, rfl⟩
  rw [← hU, ← hH2]
  have fin : ∀ (n : Nat) (r : Hp) (v : AV), v = bdU w a N t l 4 → hasS r s 0 → hasS r (copyQ (bendL w a N l)) 4 → Go.Ab.Ends 1 v r n U H2 2 := fun n r v hv h1 h2 => by
    rw [hU, hH2]
    exact Ends.s1n (s := s) (U := bdU w a N t l) hp (copyQ_pts _).pl (by decide) hv (fun ψ => by simp [bdU, AV.ren, Tr.l_ren]) (by simp [bdU, AV.bel, Tr.l_bel]) h1 h2
  clear hU hH2
  obtain ⟨rest, hrest⟩ : ∃ c, i12c = .seq (.reg i12r0) (.seq (.reg i12r1) c) := ⟨_, rfl⟩
  have key : Seam ⟨Try.prog, cxT [], i12.ct, i12.N, 1⟩ rest (retK i12.res fun v h' n' => Go.Ab.Ends 1 v h' n' U H2 2) [(2, .p 1 0), (3, .p 2 0), (4, .p 3 0)]
      ((1, { cells := [.i .u8 w, .i .u8 a, .i .i64 N] }) :: (2, { cells := t.l ((copyQ l).v 4) }) :: (3, { cells := zTr.l .ns }) :: ((copyQ l).h 4 ++ s.h 0)) 5 := by
    have hrest := ICode.seq.inj (ICode.seq.inj hrest).2
    obtain ⟨_, hrest⟩ := hrest
    subst hrest
    refine Seam.run Sound.nil mo ?_
    dsimp only [i12]
    have hlt : w % 18 < 18 := by omega
    have hge : 0 ≤ w % 18 := by omega
    have m1 : w.tmod 18 = w % 18 := Int.tmod_eq_emod_of_nonneg (by omega)
    have w1 : IntKind.i64.wrap a = a := wrapL (by omega) (by omega)
    have small : w % 18 < 16 → bendL w a N l = l := fun h => by unfold bendL; rw [if_pos (.inr h)]
    by_cases h0 : l.length = 0
    · have c0 : decide ((0 : Int) < (l.length : Int)) = false := decide_eq_false (by omega)
      have c0' : ((l.length : Int) == 0) = true := by simp [h0]
      have eL : bendL w a N l = l := by unfold bendL; rw [if_pos (.inl h0)]
      obtain ⟨r, hr⟩ : ∃ r, w % 18 = r := ⟨_, rfl⟩
      rw [hr] at hlt hge m1
      have hr' : r = 0 ∨ r = 1 ∨ r = 2 ∨ r = 3 ∨ r = 4 ∨ r = 5 ∨ r = 6 ∨ r = 7 ∨ r = 8 ∨ r = 9 ∨ r = 10 ∨ r = 11 ∨ r = 12 ∨ r = 13 ∨ r = 14 ∨ r = 15 ∨ r = 16 ∨ r = 17 := by omega
      rcases hr' with rfl | rfl | rfl | rfl | rfl | rfl | rfl | rfl | rfl | rfl | rfl | rfl | rfl | rfl | rfl | rfl | rfl | rfl
      all_goals
        simp (config := { maxSteps := 400000 }) only [go_sem, Tr.l, zTr, lQ, c0, c0', m1, h0, simprocAttr]
        exact fin _ _ _ (by simp [bdU, bendT, hr, eL, Tr.l]) (by simp [hasS_cons, hasS_skip, hasS_hit0]) (by rw [eL]; simp [hasS_cons, hasS_hit])
    · have c0 : decide ((0 : Int) < (l.length : Int)) = true := decide_eq_true (by omega)
      have c0' : ((l.length : Int) == 0) = false := beq_eq_false_iff_ne.2 (by omega)
      have c0n : ((l.length : Int) != 0) = true := bne_iff_ne.2 (by omega)
      have q1 : a.tmod (l.length : Int) = ((a.toNat % l.length : Nat) : Int) := by rw [Int.tmod_eq_emod_of_nonneg (by omega), Int.natCast_emod, Int.toNat_of_nonneg ha.1]
      have hmod : a.toNat % l.length < l.length := Nat.mod_lt _ (by omega)
      have c5 : decide (0 ≤ ((a.toNat % l.length : Nat) : Int) ∧ ((a.toNat % l.length : Nat) : Int) < (l.length : Int)) = true := decide_eq_true (by omega)
      have hc : copyQ l = .sg { cells := rows Pt.l l, gr := some 2 } 0 l.length := by unfold copyQ; rw [if_neg h0]
      have hgi : l[a.toNat % l.length]? = some (l.getD (a.toNat % l.length) default) := by rw [List.getD_eq_getElem?_getD, List.getElem?_eq_getElem hmod]; rfl
      obtain ⟨r, hr⟩ : ∃ r, w % 18 = r := ⟨_, rfl⟩
      rw [hr] at hlt hge m1
      have hr' : r = 0 ∨ r = 1 ∨ r = 2 ∨ r = 3 ∨ r = 4 ∨ r = 5 ∨ r = 6 ∨ r = 7 ∨ r = 8 ∨ r = 9 ∨ r = 10 ∨ r = 11 ∨ r = 12 ∨ r = 13 ∨ r = 14 ∨ r = 15 ∨ r = 16 ∨ r = 17 := by omega
      have e16 : w % 18 = 16 → copyQ (bendL w a N l) = .sg { cells := splice (rows Pt.l l) (a.toNat % l.length * 2 + 0) [.i .i64 N], gr := some 2 } 0 l.length := fun h => by
        have : bendL w a N l = l.set (a.toNat % l.length) ⟨N, (l.getD (a.toNat % l.length) default).y⟩ := by unfold bendL; rw [if_neg (by omega), if_pos h]
        unfold copyQ
        rw [bendL_len, if_neg h0, this, splice_row Pt.len hgi (by decide) (a' := ⟨N, (l.getD (a.toNat % l.length) default).y⟩) rfl]
      have e17 : w % 18 = 17 → copyQ (bendL w a N l) = .sg { cells := splice (rows Pt.l l) (a.toNat % l.length * 2 + 1) [.i .i64 N], gr := some 2 } 0 l.length := fun h => by
        have : bendL w a N l = l.set (a.toNat % l.length) ⟨(l.getD (a.toNat % l.length) default).x, N⟩ := by unfold bendL; rw [if_neg (by omega), if_neg (by omega)]
        unfold copyQ
        rw [bendL_len, if_neg h0, this, splice_row Pt.len hgi (by decide) (a' := ⟨(l.getD (a.toNat % l.length) default).x, N⟩) rfl]
      have room : ∀ j, j < 2 → decide (a.toNat % l.length * 2 + j + 1 ≤ (rows Pt.l l).length) = true := fun j hj => decide_eq_true (by rw [prow15]; omega)
      generalize hi : a.toNat % l.length = i at *
      rcases hr' with rfl | rfl | rfl | rfl | rfl | rfl | rfl | rfl | rfl | rfl | rfl | rfl | rfl | rfl | rfl | rfl | rfl | rfl
      iterate 16
        · have eL := small (by omega)
          simp (config := { maxSteps := 400000 }) only [go_sem, Tr.l, zTr, lQ, c0, c0', c0n, m1, w1, q1, simprocAttr]
          exact fin _ _ _ (by simp [bdU, bendT, hr, eL, Tr.l]) (by simp [hasS_cons, hasS_skip, hasS_hit0]) (by rw [eL]; simp [hasS_cons, hasS_hit])
      · have e := e16 hr
        have rm := room 0 (by omega)
        rw [Nat.add_zero] at rm e
        rw [hc]
        rw [hc] at lQ
        simp (config := { maxSteps := 400000 }) only [go_sem, Tr.l, zTr, lQ, c0, c0', c0n, m1, w1, q1, c5, shv_sg, shh_sg, rm, simprocAttr]
        exact fin _ _ _ (by rw [bdU, e]; simp [bendT, hr, Tr.l, Sh.v]) (by simp [hasS_cons, hasS_skip, hasS_hit0]) (by rw [e]; exact hasS_sg (by simp [hget_cons, hget_skip, splice]))
      · have e := e17 hr
        have rm := room 1 (by omega)
        rw [hc]
        rw [hc] at lQ
        simp (config := { maxSteps := 400000 }) only [go_sem, Tr.l, zTr, lQ, c0, c0', c0n, m1, w1, q1, c5, shv_sg, shh_sg, rm, simprocAttr]
        exact fin _ _ _ (by rw [bdU, e]; simp [bendT, hr, Tr.l, Sh.v]) (by simp [hasS_cons, hasS_skip, hasS_hit0]) (by rw [e]; exact hasS_sg (by simp [hget_cons, hget_skip, splice]))
  show Seam _ i12c _ _ _ _
  rw [hrest]
  refine Seam.part Sound.nil mo ?_
  simp (config := { maxSteps := 400000 }) only [go_sem, Tr.l, zTr, simprocAttr]
  refine Seam.part Sound.nil mo ?_
  by_cases h0 : l.length = 0
  · have hl : l = [] := List.eq_nil_of_length_eq_zero h0
    have hc : copyQ l = .sl { cells := [] } 0 0 0 := by unfold copyQ; rw [if_pos h0]
    have hsr := fun (h : Hp) (hh : hasS h s 0) (k : List Nat → Nat → List AV → Bool → Option (Bool × Eff)) => srcK_v (k := k) hh hs Pt.len
    rw [hl] at hsr
    simp (config := { maxSteps := 400000 }) only [go_sem, Tr.l, zTr, hsr, List.length_nil, simprocAttr]
    refine Seam.ren [] key (by decide) (by decide) ?_ ?_
    · simp (config := { maxSteps := 400000 }) only [go_sem, Tr.l, zTr, AV.ren, renL, AV.bel, belL, nblt, simprocAttr]
    · simp (config := { maxSteps := 400000 }) only [go_sem, Tr.l, zTr, hc, AV.ren, renL, AV.bel, belL, nblt, Blk.ren, shv_sl, shh_sl, hp, simprocAttr]
  · have hc : copyQ l = .sg { cells := rows Pt.l l, gr := some 2 } 0 l.length := by unfold copyQ; rw [if_neg h0]
    have hsr := fun (h : Hp) (hh : hasS h s 0) (k : List Nat → Nat → List AV → Bool → Option (Bool × Eff)) => srcK_v (k := k) hh hs Pt.len
    have d0 : decide (l.length = 0) = false := decide_eq_false h0
    have gm : decide (16 * l.length ≤ growMax) = true := decide_eq_true (by simp only [growMax]; omega)
    have pr := prow15 l
    have po := pone15 l
    have d1 : decide (l.length ≤ 0) = false := decide_eq_false (by omega)
    have hb1 := fun (m : Nat) => belL_mono0 (m := m) (rows Pt.l l) (rows_bel Pt.bel0)
    have hb2 := fun (ψ : Nat → Nat) => renL_fix0 (ψ := ψ) (rows Pt.l l) (rows_bel Pt.bel0)
    simp (config := { maxSteps := 400000 }) only [go_sem, Tr.l, zTr, hsr, d0, d1, gm, pr, po, simprocAttr]
    refine Seam.ren [(4, 5)] key (by decide) (by decide) ?_ ?_
    · simp (config := { maxSteps := 400000 }) only [go_sem, Tr.l, zTr, AV.ren, renL, AV.bel, belL, nblt, simprocAttr]
    · simp (config := { maxSteps := 400000 }) only [go_sem, Tr.l, zTr, hc, AV.ren, renL, AV.bel, belL, nblt, Blk.ren, shv_sg, shh_sg, hp, hb1, hb2, simprocAttr]
def bdV (l : List AV) : Option (Int × Int × Int) := match l with
  | [.i .u8 w, .i .u8 a, .i .i64 N] => some (w, a, N)
  | _ => none
def k12 : Ct
  | [.agg b, .agg c], h, n => (bdV b).bind fun x => (trV c).bind fun q => (shAt q.2 h).bind fun s => (rdL ptV 2 s).bind fun l => some (inI 0 255 x.1 && (inI 0 255 x.2.1 && decide (l.length ≤ 1000000)), { v := bdU x.1 x.2.1 x.2.2 q.1 l (n + 1), n := n + 2, rd := shR q.2, nw := (copyQ (bendL x.1 x.2.1 x.2.2 l)).h (n + 1) })
  | _, _, _ => none
theorem s12 : SoundAt Try.prog 12 k12 := fun args h n c E hc ht => by
  unfold k12 at hc
  split at hc
  · rename_i b c'
    simp only [Option.bind_eq_some_iff] at hc
    obtain ⟨x, hx, q, hq, s, hs, l, hl, he⟩ := hc
    obtain ⟨t, v⟩ := q
    obtain ⟨w, a, N⟩ := x
    cases he
    simp only [Bool.and_eq_true, decide_eq_true_eq, inI_iff] at ht
    have hp := pts_rd hl
    have hb : b = [.i .u8 w, .i .u8 a, .i .i64 N] := by
      unfold bdV at hx
      split at hx
      · cases hx; rfl
      · cases hx
    rw [trV_eq hq, hb]
    have := CallOK.sh1n (n := n) (A := fun b => [.agg [.i .u8 w, .i .u8 a, .i .i64 N], .agg (t.l (s.v b))]) (U := bdU w a N t l) (by kernel_rfl) (by simp [belL, AV.bel, Tr.l_bel]) hs hp.pl (copyQ_pts (bendL w a N l)).pl (copyQ_fresh _) (fun ψ => by simp [renL, AV.ren, Tr.l_ren]) (fun h0 i => by subst h0; rfl) (fun ψ => by simp [bdU, AV.ren, Tr.l_ren]) (w12 w a N t s l ht.1 ht.2.1 hp ht.2.2)
    rwa [← (shAt_inv hs).1] at this
  · cases hc
end Go.Proofs.Arr
