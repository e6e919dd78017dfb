/- The contract of the reference's Join: it gives what picture.Join gives. -/
import Derived.Test.YtndbgcmgjnjnhaaPicN3
namespace Go.Proofs.Pic
open Go.Ab
set_option maxRecDepth 100000
set_option maxHeartbeats 4000000
set_option linter.unusedSimpArgs false
set_option linter.unusedVariables false
def TN4 : List (Nat × Ct) := [(65, k65), (21, k20)]
theorem hTN4 : Sound Try.prog (cxT TN4) := Sound.cons s65 (Sound.cons s21 Sound.nil)
theorem joinS_none {l : List Md} (hb : l.any (fun p => !mdB p) = false) {k : Nat} (hk : k ≤ l.length) (h : joinK l k = none) : joinS l = (zFr, 401) := by
 unfold joinS
 rw [hb, joinK_none h _ hk]; rfl
theorem joinS_go {l : List Md} (hb : l.any (fun p => !mdB p) = false) {k : Nat} (hk : k ≤ l.length) {f : Fr} (h : joinK l k = some f) (hg : f.go = false) : joinS l = (zFr, 401) := by
 rcases Nat.lt_or_ge k l.length with hlt | hge
 · refine joinS_none hb (k := k + 1) hlt ?_
   simp only [joinK, h, Option.bind_some, List.getElem?_eq_getElem hlt, hg, Bool.not_false, Bool.true_or, if_true]
 · obtain rfl : k = l.length := by omega
   unfold joinS
   rw [hb, h]; simp [hg]
theorem seq_eq {a : Int} (h : 0 ≤ a ∧ a ≤ 65535) : andI .i64 (IntKind.i64.wrap (a + 1)) 65535 = (IntKind.i64.wrap (a + 1)).tmod 65536 := by
 rw [wrapL (by omega) (by omega), and16, Int.tmod_eq_emod_of_nonneg (by omega)]
theorem w43 (l : List Md) (hl : l.length ≤ 9223372036854775807) (hf : l.all Md.fin = true) (hp12 : l.all plB = true) : FTL Try.prog 43 [.fz (rows Md.l l) l.length] [] 0 (joinV (joinS l)) [] 0 := by
 refine FTL.of_iw hTN4 mo Try.func43 i43_eq (by simp [i43]) (iw_of_jw ?_)
 dsimp only [i43, TN4]
 have hL : ∀ (k : Nat) x, l[k]? = some x → List.take 9 (List.drop (k * 9) (rows Md.l l)) = x.l := fun k x hk => rows_at Md.len hk
 have hLb : ∀ n, belL n (rows Md.l l) = true := fun n => hrM n l
 have hG : ∀ (k : Nat) x j v, l[k]? = some x → x.l[j]? = some v → (rows Md.l l)[k * 9 + j]? = some v := fun k x j v hk hv => rows_get Md.len hk hv
 generalize hLL : rows Md.l l = L at hL hLb hG
 simp (maxSteps := 400000) only [go_sem, zFr, Fr.l, zSh, simprocAttr]
 refine Loop.countI (F := ⟨Try.prog, cxT TN4, [13, 21, 30, 35, 66, 71, 132], 140, 0⟩) hTN4 mo l.length (fun k => ∀ j, j < k → ∀ p, l[j]? = some p → mdB p = true)
  (fun k => [(0, .fz L l.length), (2, .p 0 0), (3, .i .i64 0), (4, .i .i64 (k : Int))])
  (fun k => [(0, { cells := zFr.l })]) 1 (by decide) (fun j hj => by omega) ?_ ?_ (fun k hk hok => ?_)
 · simp (maxSteps := 400000) only [go_sem, AV.bel, belL, nblt, hLb, simprocAttr]
 · simp (maxSteps := 400000) only [go_sem, zFr, Fr.l, zSh, AV.bel, belL, nblt, hLb, simprocAttr]
 dsimp only [TN4]
 by_cases hlt : k < l.length
 · have c1 : decide ((k : Int) < (l.length : Int)) = true := decide_eq_true (by omega)
   have c2 : decide (0 ≤ (k : Int) ∧ (k : Int) < (l.length : Int)) = true := decide_eq_true (by omega)
   obtain ⟨p, hp⟩ : ∃ p, l[k]? = some p := ⟨_, List.getElem?_eq_getElem hlt⟩
   have hw : IntKind.i64.wrap ((k : Int) + 1) = ((k + 1 : Nat) : Int) := by rw [wrapL (by omega) (by omega)]; omega
   have hr := hL k p hp
   have k65p : ∀ (h : Hp) n, k65 [.agg p.l] h n = some (true, { v := .b (mdB p), n }) := fun h n => by simp only [k65, md9_l, Option.bind_some]
   cases hm : mdB p
   · have hR : joinS l = (zFr, 230) := by
      unfold joinS
      rw [if_pos]
      rw [List.any_eq_true]
      exact ⟨p, List.mem_of_getElem? hp, by rw [hm]; rfl⟩
     rw [hR]
     simp (maxSteps := 400000) only [go_sem, c1, c2, hr, Md.len, k65p, hm, zFr, Fr.l, zSh, simprocAttr]
     exact Ends.pureE rfl rfl
   · simp (maxSteps := 400000) only [go_sem, c1, c2, hr, Md.len, k65p, hm, hw, hlt, zFr, Fr.l, zSh, AV.bel, belL, nblt, hLb, simprocAttr]
     intro j hj q hq
     rcases Nat.lt_succ_iff_lt_or_eq.1 hj with h | h
     · exact hok j h q hq
     · subst h; rw [hp] at hq; cases hq; exact hm
 have hall : ∀ p ∈ l, mdB p = true := fun p hp => by
  obtain ⟨j, hj⟩ := List.getElem?_of_mem hp
  exact hok j (by have := (List.getElem?_eq_some_iff.1 hj).1; omega) p hj
 have hany : l.any (fun p => !mdB p) = false := by
  rw [List.any_eq_false]
  intro p hp; simp [hall p hp]
 have c1 : decide ((k : Int) < (l.length : Int)) = false := decide_eq_false (by omega)
 obtain rfl : k = l.length := by omega
 have K0 : joinK l 0 = some ⟨decide (1 ≤ l.length) && decide (l.length ≤ 64), 0, zSh, []⟩ := rfl
 cases n1 : decide ((l.length : Int) < 1)
 rotate_left
 · have := of_decide_eq_true n1
   have hR := joinS_go hany (Nat.zero_le _) K0 (by simp; omega)
   rw [hR]
   simp (maxSteps := 400000) only [go_sem, c1, n1, zFr, Fr.l, zSh, simprocAttr]
   exact Ends.pureE rfl rfl
 have n1' := of_decide_eq_false n1
 cases n2 : decide ((l.length : Int) > 64)
 rotate_left
 · have := of_decide_eq_true n2
   have hR := joinS_go hany (Nat.zero_le _) K0 (by simp; omega)
   rw [hR]
   simp (maxSteps := 400000) only [go_sem, c1, n1, n2, zFr, Fr.l, zSh, simprocAttr]
   exact Ends.pureE rfl rfl
 have n2' := of_decide_eq_false n2
 rw [decide_eq_true (show 1 ≤ l.length by omega), decide_eq_true (show l.length ≤ 64 by omega)] at K0
 obtain ⟨p0, hp0⟩ : ∃ p, l[0]? = some p := ⟨_, List.getElem?_eq_getElem (by omega)⟩
 simp (maxSteps := 400000) only [go_sem, c1, n1, n2, zFr, Fr.l, zSh, simprocAttr]
 refine Loop.countI (F := ⟨Try.prog, cxT TN4, [13, 21, 30, 35, 66, 71, 132], 140, 0⟩) hTN4 mo l.length (fun k => ∃ f, joinK l k = some f ∧ f.go = true ∧ (0 < k → ∀ q, l[k - 1]? = some q → q.ss = p0.ss ∧ q.ty = p0.ty))
  (fun k => [(0, .fz L l.length), (2, .p 0 0), (5, .p 1 0), (6, .i .i64 (k : Int))])
  (fun k => [(1, { cells := ((joinK l k).getD zFr).l }), (0, { cells := zFr.l })]) 2 (by decide) ⟨_, K0, rfl, fun h => by omega⟩ ?_ ?_ (fun k hk hok => ?_)
 · simp (maxSteps := 400000) only [go_sem, AV.bel, belL, nblt, hLb, simprocAttr]
 · rw [K0]
   simp (maxSteps := 400000) only [go_sem, zFr, Fr.l, zSh, Option.getD_some, AV.bel, belL, nblt, hLb, simprocAttr]
 dsimp only [TN4]
 obtain ⟨f, hfk, hgo, hprev⟩ := hok
 have hfl := joinK_len hp12 hfk
 rw [show (joinK l k).getD zFr = f by rw [hfk]; rfl]
 by_cases hlt : k < l.length
 · have c1 : decide ((k : Int) < (l.length : Int)) = true := decide_eq_true (by omega)
   have c2 : decide (0 ≤ (k : Int) ∧ (k : Int) < (l.length : Int)) = true := decide_eq_true (by omega)
   obtain ⟨p, hp⟩ : ∃ p, l[k]? = some p := ⟨_, List.getElem?_eq_getElem hlt⟩
   have hw : IntKind.i64.wrap ((k : Int) + 1) = ((k + 1 : Nat) : Int) := by rw [wrapL (by omega) (by omega)]; omega
   have hwn : IntKind.i64.wrap ((l.length : Int) - 1) = (l.length : Int) - 1 := wrapL (by omega) (by omega)
   have hr := hL k p hp
   have g1 := hG k p 1 _ hp rfl
   have g2 := hG k p 2 _ hp rfl
   have g3 := hG k p 3 _ hp rfl
   have g4 := hG k p 4 _ hp rfl
   have g8 := hG k p 8 _ hp rfl
   have z1 := hG 0 p0 1 _ hp0 rfl
   have z3 := hG 0 p0 3 _ hp0 rfl
   have z4 := hG 0 p0 4 _ hp0 rfl
   simp only [Nat.zero_mul, Nat.zero_add] at z1 z3 z4
   have hdr := dec_rest p.pl
   have hpl : p.pl.length ≤ 1000000000000 := by rw [List.all_eq_true] at hp12; exact of_decide_eq_true (hp12 p (List.mem_of_getElem? hp))
   have hCb : belL 2 (rows int1 p.cs) = true := belL_mono0 _ (rows_bel int1_bel)
   have hXb : belL 2 (rows xtR p.xs) = true := belL_mono0 _ (rows_bel xtR_bel)
   have hnx : joinK l (k + 1) = if !f.go || badP (dec p.pl) k l.length then none else some (roundJ l k p f) := by simp only [joinK, hfk, hp, Option.bind_some]
   have hno : joinK l (k + 1) = none → joinS l = (zFr, 401) := fun hn => joinS_none hany hlt hn
   generalize hx : dec p.pl = x at hnx hdr
   obtain ⟨⟨st, ky, sy, la, id, ba, te, sp⟩, rest, ec⟩ := x
   obtain ⟨g, tm, ⟨s1, s2, s3, s4, s5, s6, s7, s8⟩, da⟩ := f
   simp only at hfl hdr hnx hgo
   subst hgo
   cases b1 : (ec != 0)
   rotate_left
   · rw [hno (by rw [hnx]; simp only [badP, b1, Bool.not_true, Bool.false_or, Bool.true_or, if_true])]
     simp (maxSteps := 400000) only [go_sem, c1, c2, hr, g1, g2, g3, g4, g8, z1, z3, z4, k20, hx, decV, Sh.l, Md.l, Fr.l, zFr, zSh, b1, hwn, simprocAttr]
     exact Ends.pureE rfl rfl
   cases b2 : (st == ((k : Int) == 0))
   · rw [hno (by rw [hnx]; simp only [badP, b1, b2, Bool.not_true, Bool.not_false, Bool.false_or, Bool.or_true, Bool.true_or, if_true])]
     simp (maxSteps := 400000) only [go_sem, c1, c2, hr, g1, g2, g3, g4, g8, z1, z3, z4, k20, hx, decV, Sh.l, Md.l, Fr.l, zFr, zSh, b1, b2, hwn, simprocAttr]
     exact Ends.pureE rfl rfl
   cases b3 : (la == ((k : Int) == (l.length : Int) - 1))
   · rw [hno (by rw [hnx]; simp only [badP, b1, b2, b3, Bool.not_true, Bool.not_false, Bool.false_or, Bool.or_true, if_true])]
     simp (maxSteps := 400000) only [go_sem, c1, c2, hr, g1, g2, g3, g4, g8, z1, z3, z4, k20, hx, decV, Sh.l, Md.l, Fr.l, zFr, zSh, b1, b2, b3, hwn, simprocAttr]
     exact Ends.pureE rfl rfl
   have hgood : joinK l (k + 1) = some (roundJ l k p ⟨true, tm, ⟨s1, s2, s3, s4, s5, s6, s7, s8⟩, da⟩) := by
    rw [hnx]; simp only [badP, b1, b2, b3, Bool.not_true, Bool.or_self, Bool.false_eq_true, if_false]
   have c5 : decide (da.length + rest.length ≤ 9223372036854775807) = true := by
    refine decide_eq_true ?_
    have : k * 1000000000000 ≤ 64 * 1000000000000 := Nat.mul_le_mul_right _ (by omega)
    omega
   have r0 := hL 0 p0 hp0
   have r00 : List.take 9 L = p0.l := by simpa using r0
   have cz : decide ((0 : Int) < (l.length : Int)) = true := decide_eq_true (by omega)
   by_cases hk0 : k = 0
   · have d0 : ((k : Int) == 0) = true := by simp [hk0]
     have hgd : ∀ z, (joinK l (k + 1)).getD z = ⟨true, p.tm, ⟨true, ky, sy, true, id, ba, te, sp⟩, da ++ rest⟩ := fun z => by
      rw [hgood, Option.getD_some, roundJ, hx, if_pos hk0]; rfl
     have hpp : p = p0 := by subst hk0; rw [hp0] at hp; exact (Option.some.inj hp).symm
     subst hpp
     rw [d0] at b2
     simp (maxSteps := 400000) only [go_sem, c1, c2, cz, g1, g2, g3, g4, g8, z1, z3, z4, k20, hx, decV, Sh.l, Md.l, Fr.l, zFr, zSh, b1, b2, b3, d0, hwn, hw, c5, hgd, hlt, AV.bel, belL, nblt, hLb, hCb, hXb, simprocAttr]
     refine ⟨_, hgood, by (unfold roundJ; rw [hx, if_pos hk0]), fun _ q hq => ?_⟩
     rw [hp] at hq; cases hq; exact ⟨rfl, rfl⟩
   · have d0 : ((k : Int) == 0) = false := by simp [hk0]
     obtain ⟨q, hq⟩ : ∃ q, l[k - 1]? = some q := ⟨_, List.getElem?_eq_getElem (by omega)⟩
     obtain ⟨qs, qt⟩ := hprev (by omega) q hq
     have hqm := hall q (List.mem_of_getElem? hq)
     have hsq := inI_t (mdB_sq hqm)
     have y2 := hG (k - 1) q 2 _ hq rfl
     have q2 : IntKind.i64.wrap ((k : Int) - 1) = ((k - 1 : Nat) : Int) := by rw [wrapL (by omega) (by omega)]; omega
     have c3 : decide (0 ≤ ((k - 1 : Nat) : Int) ∧ ((k - 1 : Nat) : Int) < (l.length : Int)) = true := decide_eq_true (by omega)
     rw [d0] at b2
     have hgv : roundJ l k p ⟨true, tm, ⟨s1, s2, s3, s4, s5, s6, s7, s8⟩, da⟩ = ⟨(true == s1 && (ky == s2 && (sy == s3 && (true == s4 && (id == s5 && (ba == s6 && (te == s7 && sp == s8))))))) && ((p.tm == tm) && ((p.ss == q.ss) && ((p.ty == q.ty) && (p.sq == andI .i64 (IntKind.i64.wrap (q.sq + 1)) 65535)))), tm, ⟨s1, s2, s3, s4, s5, s6, s7, s8⟩, da ++ rest⟩ := by
      rw [roundJ, hx, if_neg hk0, hq]; rfl
     rw [hgv] at hgood
     have hgd : ∀ z, (joinK l (k + 1)).getD z = _ := fun z => by rw [hgood, Option.getD_some]
     have hbd := joinS_go hany hlt hgood
     simp only at hbd
     rw [seq_eq hsq, qs, qt] at hbd hgood hgd
     cases a1 : (true == s1 && (ky == s2 && (sy == s3 && (true == s4 && (id == s5 && (ba == s6 && (te == s7 && sp == s8)))))))
     · rw [hbd (by simp only [a1, Bool.false_and])]
       simp (maxSteps := 400000) only [go_sem, c1, c2, c3, cz, g1, g2, g3, g4, g8, z1, z3, z4, y2, q2, k20, hx, decV, Sh.l, Md.l, Fr.l, zFr, zSh, b1, b2, b3, d0, hwn, hw, c5, hlt, a1, AV.bel, belL, nblt, hLb, hCb, hXb, simprocAttr]
       exact Ends.pureE rfl rfl
     cases a2 : (p.tm == tm)
     · have a2' : (p.tm != tm) = true := by simp only [bne, a2, Bool.not_false]
       rw [hbd (by simp only [a2, Bool.false_and, Bool.and_false])]
       simp (maxSteps := 400000) only [go_sem, c1, c2, c3, cz, g1, g2, g3, g4, g8, z1, z3, z4, y2, q2, k20, hx, decV, Sh.l, Md.l, Fr.l, zFr, zSh, b1, b2, b3, d0, hwn, hw, c5, hlt, a1, a2, a2', AV.bel, belL, nblt, hLb, hCb, hXb, simprocAttr]
       exact Ends.pureE rfl rfl
     have a2' : (p.tm != tm) = false := by simp only [bne, a2, Bool.not_true]
     cases a3 : (p.ss == p0.ss)
     · have a3' : (p.ss != p0.ss) = true := by simp only [bne, a3, Bool.not_false]
       rw [hbd (by simp only [a3, Bool.false_and, Bool.and_false])]
       simp (maxSteps := 400000) only [go_sem, c1, c2, c3, cz, g1, g2, g3, g4, g8, z1, z3, z4, y2, q2, k20, hx, decV, Sh.l, Md.l, Fr.l, zFr, zSh, b1, b2, b3, d0, hwn, hw, c5, hlt, a1, a2, a2', a3, a3', AV.bel, belL, nblt, hLb, hCb, hXb, simprocAttr]
       exact Ends.pureE rfl rfl
     have a3' : (p.ss != p0.ss) = false := by simp only [bne, a3, Bool.not_true]
     cases a4 : (p.ty == p0.ty)
     · have a4' : (p.ty != p0.ty) = true := by simp only [bne, a4, Bool.not_false]
       rw [hbd (by simp only [a4, Bool.false_and, Bool.and_false])]
       simp (maxSteps := 400000) only [go_sem, c1, c2, c3, cz, g1, g2, g3, g4, g8, z1, z3, z4, y2, q2, k20, hx, decV, Sh.l, Md.l, Fr.l, zFr, zSh, b1, b2, b3, d0, hwn, hw, c5, hlt, a1, a2, a2', a3, a3', a4, a4', AV.bel, belL, nblt, hLb, hCb, hXb, simprocAttr]
       exact Ends.pureE rfl rfl
     have a4' : (p.ty != p0.ty) = false := by simp only [bne, a4, Bool.not_true]
     cases a5 : (p.sq == (IntKind.i64.wrap (q.sq + 1)).tmod 65536)
     · have a5' : (p.sq != (IntKind.i64.wrap (q.sq + 1)).tmod 65536) = true := by simp only [bne, a5, Bool.not_false]
       have w5 : IntKind.i64.wrap ((IntKind.i64.wrap (q.sq + 1)).tmod 65536) = (IntKind.i64.wrap (q.sq + 1)).tmod 65536 := by
        rw [wrapL (n := q.sq + 1) (by omega) (by omega)]; rw [Int.tmod_eq_emod_of_nonneg (by omega)]; exact wrapL (by omega) (by omega)
       rw [hbd (by simp only [a5, Bool.and_false])]
       simp (maxSteps := 400000) only [go_sem, c1, c2, c3, cz, g1, g2, g3, g4, g8, z1, z3, z4, y2, q2, k20, hx, decV, Sh.l, Md.l, Fr.l, zFr, zSh, b1, b2, b3, d0, hwn, hw, c5, hlt, a1, a2, a2', a3, a3', a4, a4', w5, a5, a5', AV.bel, belL, nblt, hLb, hCb, hXb, simprocAttr]
       exact Ends.pureE rfl rfl
     have a5' : (p.sq != (IntKind.i64.wrap (q.sq + 1)).tmod 65536) = false := by simp only [bne, a5, Bool.not_true]
     have w5 : IntKind.i64.wrap ((IntKind.i64.wrap (q.sq + 1)).tmod 65536) = (IntKind.i64.wrap (q.sq + 1)).tmod 65536 := by
      rw [wrapL (n := q.sq + 1) (by omega) (by omega)]; rw [Int.tmod_eq_emod_of_nonneg (by omega)]; exact wrapL (by omega) (by omega)
     simp (maxSteps := 400000) only [go_sem, c1, c2, c3, cz, g1, g2, g3, g4, g8, z1, z3, z4, y2, q2, k20, hx, decV, Sh.l, Md.l, Fr.l, zFr, zSh, b1, b2, b3, d0, hwn, hw, c5, hgd, hlt, a1, a2, a2', a3, a3', a4, a4', w5, a5, a5', AV.bel, belL, nblt, hLb, hCb, hXb, simprocAttr]
     refine ⟨_, hgood, by simp only [a1, a2, a3, a4, a5, Bool.and_true], fun _ q' hq' => ?_⟩
     rw [hp] at hq'; cases hq'; exact ⟨by simpa using a3, by simpa using a4⟩
 · have c1 : decide ((k : Int) < (l.length : Int)) = false := decide_eq_false (by omega)
   obtain rfl : k = l.length := by omega
   have hR : joinS l = (f, 0) := by unfold joinS; rw [hany, hfk]; simp [hgo]
   rw [hR]
   simp (maxSteps := 400000) only [go_sem, c1, zFr, Fr.l, zSh, simprocAttr]
   exact Ends.pureE rfl rfl
def k43 : Ct
 | [x], h, n => vwK h 9 x fun rd m cs ok => (unrows 9 md9 m cs).bind fun l => some (ok && decide (m ≤ 9223372036854775807) && l.all Md.fin && l.all plB, { v := joinV (joinS l), n, rd })
 | _, _, _ => none
theorem s43 : SoundAt Try.prog 43 k43 := fun args h n c E hc ht => by
 unfold k43 at hc
 split at hc
 · rename_i x
   rw [vwK_eq] at hc
   simp only [Option.bind_eq_some_iff] at hc
   obtain ⟨⟨rd, m, cs, ok⟩, hv, l, hl, he⟩ := hc
   cases he
   simp only [Bool.and_eq_true, decide_eq_true_eq] at ht
   obtain ⟨⟨⟨rfl, hm⟩, hf⟩, hp12⟩ := ht
   obtain ⟨rfl, hlm⟩ := unrows_eq (f := Md.l) md9_eq' hl
   subst hlm
   exact CallOK.viewG (by kernel_rfl) (argsF := [.fz (rows Md.l l) l.length]) ⟨vwK_sub hv (rows_bel Md.bel) (fun c hc => hc), trivial⟩ rfl (w43 l hm hf hp12)
 · cases hc
end Go.Proofs.Pic
