/- Chapter 41, plain: a wish for another stream changes nothing until its key frame. -/
import Derived.Test.YtkpiibllomjeaaaLysPa
import Derived.Test.YtkpiibllomjeaaaLysKb
import Derived.Test.YtkpiibllomjeaaaLysL4
namespace Go.Proofs.Lys
open Go.Ab
set_option maxRecDepth 100000
set_option linter.unusedSimpArgs false
set_option linter.unusedVariables false
def Sw.w (s : Sw) (a : Int) : Sw := { s with wa := a }
def toldN (s : Sw) (k : Int) (p : Md) (x : Sh) : Sw × List Md :=
 bif advB s k p then
  bif dropB (frameS (advS s k p) x) x then (dropS (frameS (advS s k p) x) x, [])
  else (sendS (frameS (advS s k p) x) p x, [sendP (frameS (advS s k p) x) p x])
 else (s, [])
theorem told_N (s : Sw) (k : Int) (p : Md) (x : Sh) : toldL s k p x = toldN (takeS s k p x) k p x := rfl
theorem frame_w (s : Sw) (a : Int) (x : Sh) : frameS (s.w a) x = (frameS s x).w a := by
 unfold frameS
 show (bif x.id == s.fr then s.w a else _) = _
 cases (x.id == s.fr) <;> rfl
theorem told_w (s : Sw) (a k : Int) (p : Md) (x : Sh) : toldN (s.w a) k p x = ((toldN s k p x).1.w a, (toldN s k p x).2) := by
 unfold toldN
 have h1 : advB (s.w a) k p = advB s k p := rfl
 rw [h1]
 cases hb : advB s k p
 · rfl
 · have h2 : advS (s.w a) k p = (advS s k p).w a := by
    unfold advS
    rw [h1, hb]; rfl
   rw [h2, frame_w]
   have h3 : dropB ((frameS (advS s k p) x).w a) x = dropB (frameS (advS s k p) x) x := rfl
   rw [h3]
   cases hd : dropB (frameS (advS s k p) x) x
   · rfl
   · show (dropS ((frameS (advS s k p) x).w a) x, []) = ((dropS (frameS (advS s k p) x) x).w a, [])
     have h4 : ∀ s : Sw, dropS (s.w a) x = (dropS s x).w a := fun s => by
      unfold dropS
      show (bif dropB s x then _ else _) = _
      cases dropB s x <;> rfl
     rw [h4]
theorem adv_nw (s : Sw) (k : Int) (p : Md) : (advS s k p).nw = s.nw := by unfold advS; cases advB s k p <;> rfl
theorem drop_nw (s : Sw) (x : Sh) : (dropS s x).nw = s.nw := by unfold dropS; cases dropB s x <;> rfl
theorem told_nw (s : Sw) (k : Int) (p : Md) (x : Sh) : (toldN s k p x).1.nw = s.nw := by
 unfold toldN
 cases advB s k p
 · rfl
 · cases dropB (frameS (advS s k p) x) x
   · show (frameS (advS s k p) x).nw = _
     rw [frame_nw, adv_nw]
   · show (dropS (frameS (advS s k p) x) x).nw = _
     rw [drop_nw, frame_nw, adv_nw]
structure Wt (u : Sw) (n : Int) : Prop where
 gd : Gd u
 l : u.l = [10, 20, 30]
 nw : u.nw = n
theorem gd_w {u : Sw} (h : Gd u) (hl : u.l = [10, 20, 30]) {a : Int} (ha : -1 ≤ a ∧ a ≤ 2) : Gd (u.w a) :=
 ⟨h.n, h.ap, h.ou, h.st, h.nw, by show -1 ≤ a ∧ a ≤ (u.l.length : Int) - 1; rw [hl]; simp only [List.length_cons, List.length_nil]; omega, h.ca, h.ai, h.tp, h.fr, h.sq, h.tm, h.id, h.ba, h.ss, h.sT, h.si, h.sb, h.off⟩
theorem waits_step {u : Sw} {n k : Int} (h : Wt u n) (hn : 0 ≤ n ∧ n ≤ 2) (hk : 0 ≤ k ∧ k ≤ 2) (hne : k ≠ n) {m : Md} (hm : vpk (10 * n + 10) m) :
 ∃ v l, Wt v n ∧ okL l = true ∧ pushS (u.w n) m = (v.w n, l, 0) ∧ pushS (u.w k) m = (v.w k, l, 0) := by
 have hs : 10 * n + 10 = 10 ∨ 10 * n + 10 = 20 ∨ 10 * n + 10 = 30 := by omega
 obtain ⟨j, hj, ej, e, hx, g⟩ := push_v (gd_w h.gd h.l (a := n) (by omega)) (show (u.w n).l = _ from h.l) hs hm
 obtain ⟨j', hj', ej', e', _, g'⟩ := push_v (gd_w h.gd h.l (a := k) (by omega)) (show (u.w k).l = _ from h.l) hs hm
 obtain rfl : j = n := by omega
 obtain rfl : j' = j := by omega
 have t1 : takeS (u.w j') j' m (dec m.pl).1 = u.w j' := by
  have : takeB (u.w j') j' (dec m.pl).1 = false := by
   have e2 : (j' == (u.w j').nw) = true := by rw [show (u.w j').nw = j' from h.nw]; simp
   simp only [takeB, e2, Bool.not_true, Bool.false_and, Bool.and_false]
  simp only [takeS, this, cond_false]
 have t2 : takeS (u.w k) j' m (dec m.pl).1 = u.w k := by
  have : takeB (u.w k) j' (dec m.pl).1 = false := by
   have e2 : (j' == (u.w k).wa) = false := by show (j' == k) = false; simp; omega
   simp only [takeB, e2, Bool.false_and]
  simp only [takeS, this, cond_false]
 rw [told_N, t1, told_w] at e g
 rw [told_N, t2, told_w] at e'
 refine ⟨(toldN u j' m (dec m.pl).1).1, (toldN u j' m (dec m.pl).1).2, ⟨?_, ?_, ?_⟩, ?_, e, e'⟩
 · have g2 := gd_w g (a := (toldN u j' m (dec m.pl).1).1.wa) (show ((toldN u j' m (dec m.pl).1).1.w j').l = _ by
    have := toldL_l (u.w j') j' m (dec m.pl).1
    rw [told_N, t1, told_w] at this
    rw [this]; exact h.l) (by
    have hw : (toldN u j' m (dec m.pl).1).1.wa = u.wa := by
     have f1 : ∀ s, (frameS s (dec m.pl).1).wa = s.wa := fun s => by unfold frameS; cases ((dec m.pl).1.id == s.fr) <;> rfl
     have f2 : ∀ s, (advS s j' m).wa = s.wa := fun s => by unfold advS; cases advB s j' m <;> rfl
     have f3 : ∀ s, (dropS s (dec m.pl).1).wa = s.wa := fun s => by unfold dropS; cases dropB s (dec m.pl).1 <;> rfl
     unfold toldN
     cases advB u j' m
     · rfl
     · cases dropB (frameS (advS u j' m) (dec m.pl).1) (dec m.pl).1
       · show (frameS (advS u j' m) (dec m.pl).1).wa = _
         rw [f1, f2]
       · show (dropS (frameS (advS u j' m) (dec m.pl).1) (dec m.pl).1).wa = _
         rw [f3, f1, f2]
    rw [hw]
    have := h.gd.wa
    rw [h.l] at this
    simp only [List.length_cons, List.length_nil] at this
    omega)
   exact g2
 · have := toldL_l (u.w j') j' m (dec m.pl).1
   rw [told_N, t1, told_w] at this
   exact this.trans h.l
 · rw [told_nw]; exact h.nw
 · have := toldL_o (u.w j') j' m (dec m.pl).1 (by
    have := vpk_ok hm
    simp only [pkOK, Bool.and_eq_true] at this
    exact fin_ok this.1)
   rw [told_N, t1, told_w] at this
   exact this
def keyM (k : Int) : Md := packetS (10 * k + 10) 9 9 ⟨false, true, false, false, 5, 5, 0, 0⟩
theorem waits_end {u : Sw} {n k : Int} (h : Wt u n) (hn : 0 ≤ n ∧ n ≤ 2) (hk : 0 ≤ k ∧ k ≤ 2) (hne : k ≠ n) :
 pushC (u.w k) (keyM k) = true ∧ ∃ v o, pdS (u.w k) (keyM k) = (v, o, true) ∧ v.l = [10, 20, 30] ∧ v.nw = k ∧ needsS v = (0, 4) ∧ o.sq = (u.ss + 1) % 65536 := by
 have hg := gd_w h.gd h.l (a := k) (by omega)
 have hgood : (Sh.mk true true false true 5 5 0 0).good = true := by decide
 have hpl : (keyM k).pl = (Sh.mk true true false true 5 5 0 0).enc ++ [97] := by simp only [keyM, packetS, hgood, if_true]
 have hdec : dec (keyM k).pl = (⟨true, true, false, true, 5, 5, 0, 0⟩, [97], 0) := by rw [hpl]; exact dec_enc hgood _
 have hlen : (keyM k).pl.length = 6 := by rw [hpl]; rfl
 have hmd : mdB (keyM k) = true := by
  rcases (show k = 0 ∨ k = 1 ∨ k = 2 by omega) with rfl | rfl | rfl <;> decide
 have hfin : (keyM k).fin = true := by
  have h0 : decide ((keyM k).pl.length ≤ 9223372036854775807) = true := decide_eq_true (by rw [hlen]; omega)
  simp only [Md.fin, h0, Bool.and_true]
  rfl
 refine ⟨?_, ?_⟩
 · simp only [pushC, hfin, hlen, Bool.and_eq_true, decide_eq_true_eq, Bool.true_and]
   have := hg.n
   exact ⟨by omega, by omega⟩
 have hix : ixS (u.w k).l (keyM k).ss = k := by
  rw [show (u.w k).l = [10, 20, 30] from h.l]
  rcases (show k = 0 ∨ k = 1 ∨ k = 2 by omega) with rfl | rfl | rfl <;> rfl
 have hneg : decide (k < 0) = false := decide_eq_false (by omega)
 have hpush : pushS (u.w k) (keyM k) = ((toldL (u.w k) k (keyM k) ⟨true, true, false, true, 5, 5, 0, 0⟩).1, (toldL (u.w k) k (keyM k) ⟨true, true, false, true, 5, 5, 0, 0⟩).2, 0) := by
  unfold pushS
  rw [gd_iff.2 hg, hmd, hix, hneg, hdec]
  rfl
 have htk : takeB (u.w k) k ⟨true, true, false, true, 5, 5, 0, 0⟩ = true := by
  have e1 : (k == (u.w k).wa) = true := by show (k == k) = true; simp
  have e2 : (k == (u.w k).nw) = false := by rw [show (u.w k).nw = n from h.nw]; simp; omega
  simp only [takeB, e1, e2]; rfl
 have hss := h.gd.ss
 have wss : IntKind.i64.wrap (u.ss + 1) = u.ss + 1 := wrapL (by omega) (by omega)
 have htold := told_N (u.w k) k (keyM k) ⟨true, true, false, true, 5, 5, 0, 0⟩
 have hts : takeS (u.w k) k (keyM k) ⟨true, true, false, true, 5, 5, 0, 0⟩ = ⟨u.l, u.ou, u.st, k, k, 0, u.ai, 8, 5, true, (u.ss + 1 - 9) % 65536, (IntKind.i64.wrap (u.sT + u.st) - 9) % 4294967296, (IntKind.i64.wrap (u.si + 1) + IntKind.i64.wrap (0 - 5)) % 32768, (IntKind.i64.wrap (u.sb + 1) - 5) % 256, u.ss, u.sT, u.si, u.sb⟩ := by
  simp only [takeS, htk, cond_true]
  show (⟨u.l, u.ou, u.st, k, k, 0, u.ai, ((9 : Int) - 1) % 65536, 5, true, (IntKind.i64.wrap (u.ss + 1) - 9) % 65536, _, _, _, _, _, _, _⟩ : Sw) = _
  rw [wss]; rfl
 rw [hts] at htold
 have hsq9 : (keyM k).sq = 9 := rfl
 have hadv : ∀ S : Sw, S.nw = k → S.tp = 8 → advB S k (keyM k) = true := fun S h1 h2 => by
  simp only [advB, h1, h2, hsq9, beq_self_eq_true, Bool.true_and]
  decide
 generalize hS : (⟨u.l, u.ou, u.st, k, k, 0, u.ai, 8, 5, true, (u.ss + 1 - 9) % 65536, (IntKind.i64.wrap (u.sT + u.st) - 9) % 4294967296, (IntKind.i64.wrap (u.si + 1) + IntKind.i64.wrap (0 - 5)) % 32768, (IntKind.i64.wrap (u.sb + 1) - 5) % 256, u.ss, u.sT, u.si, u.sb⟩ : Sw) = S at *
 have hf : S.fr = 5 ∧ S.kp = true ∧ S.nw = k ∧ S.wa = k ∧ S.tp = 8 ∧ S.sq = (u.ss + 1 - 9) % 65536 ∧ S.l = u.l := by subst hS; exact ⟨rfl, rfl, rfl, rfl, rfl, rfl, rfl⟩
 have ha := hadv S hf.2.2.1 hf.2.2.2.2.1
 have hfr : frameS (advS S k (keyM k)) ⟨true, true, false, true, 5, 5, 0, 0⟩ = advS S k (keyM k) := by
  have : ((5 : Int) == (advS S k (keyM k)).fr) = true := by rw [show (advS S k (keyM k)).fr = S.fr by unfold advS; cases advB S k (keyM k) <;> rfl, hf.1]; rfl
  unfold frameS
  show (bif (5 : Int) == (advS S k (keyM k)).fr then _ else _) = _
  rw [this]; rfl
 have hdr : dropB (advS S k (keyM k)) ⟨true, true, false, true, 5, 5, 0, 0⟩ = false := by
  have : (advS S k (keyM k)).kp = true := by rw [show (advS S k (keyM k)).kp = S.kp by unfold advS; cases advB S k (keyM k) <;> rfl, hf.2.1]
  simp only [dropB, this]; rfl
 have hN : toldN S k (keyM k) ⟨true, true, false, true, 5, 5, 0, 0⟩ = (sendS (advS S k (keyM k)) (keyM k) ⟨true, true, false, true, 5, 5, 0, 0⟩, [sendP (advS S k (keyM k)) (keyM k) ⟨true, true, false, true, 5, 5, 0, 0⟩]) := by
  unfold toldN
  rw [ha, hfr, hdr]; rfl
 rw [hN] at htold
 have hadS : advS S k (keyM k) = { S with tp := 9 } := by unfold advS; rw [ha]; rfl
 have hgd := told_gd hg (k := k) (p := keyM k) (x := ⟨true, true, false, true, 5, 5, 0, 0⟩) (by rw [show (u.w k).l = [10, 20, 30] from h.l]; simp only [List.length_cons, List.length_nil]; omega) (by rw [hsq9]; omega) hgood
 rw [htold] at hgd hpush
 refine ⟨sendS (advS S k (keyM k)) (keyM k) ⟨true, true, false, true, 5, 5, 0, 0⟩, sendP (advS S k (keyM k)) (keyM k) ⟨true, true, false, true, 5, 5, 0, 0⟩, ?_, ?_, ?_, ?_, ?_⟩
 · unfold pdS; rw [hpush]; rfl
 · rw [hadS]; exact hf.2.2.2.2.2.2.trans h.l
 · rw [hadS]; exact hf.2.2.1
 · unfold needsS
   have e1 : (sendS (advS S k (keyM k)) (keyM k) ⟨true, true, false, true, 5, 5, 0, 0⟩).wa = k := by rw [hadS]; exact hf.2.2.2.1
   have e2 : (sendS (advS S k (keyM k)) (keyM k) ⟨true, true, false, true, 5, 5, 0, 0⟩).nw = k := by rw [hadS]; exact hf.2.2.1
   rw [gd_iff.2 hgd, e1, e2]
   simp
 · show ((keyM k).sq + (advS S k (keyM k)).sq) % 65536 = _
   rw [hsq9, hadS]
   show (9 + S.sq) % 65536 = _
   rw [hf.2.2.2.2.2.1]; omega
end Go.Proofs.Lys
