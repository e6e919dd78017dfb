/- Texts laid as one: LysC14 LysKo LysK2. -/
import Derived.Test.YtkpiibllomjeaaaLysCe
import Derived.Test.YtkpiibllomjeaaaLysDb
import Derived.Test.YtkpiibllomjeaaaAbWka
import Derived.Test.YtkpiibllomjeaaaAbGvs
section
/- Chapter 41: the law's own packet and pushed. -/
namespace Go.Proofs.Lys
open Go.Ab
set_option maxRecDepth 100000
set_option maxHeartbeats 4000000
set_option linter.unusedSimpArgs false
set_option linter.unusedVariables false
def packetS (ss sq tm : Int) (x : Sh) : Md := ⟨false, 96, sq, tm, ss, [], [], 0, (if (Sh.mk true x.ky x.sy true x.id x.ba x.te x.sp).good then (Sh.mk true x.ky x.sy true x.id x.ba x.te x.sp).enc else []) ++ [97]⟩
def T27 : List (Nat × Ct) := [(65, k65)]
theorem hT27 : Sound Try.prog (cxT T27) := Sound.cons s65 Sound.nil
theorem w27 (ss sq tm : Int) (x : Sh) : FTL Try.prog 27 [.i .i64 ss, .i .i64 sq, .i .i64 tm, .agg x.l] [] 0 (.agg (packetS ss sq tm x).l) [] 0 := by
 obtain ⟨xst, xky, xsy, xla, xid, xba, xte, xsp⟩ := x
 have hR : packetS ss sq tm ⟨xst, xky, xsy, xla, xid, xba, xte, xsp⟩ = ⟨false, 96, sq, tm, ss, [], [], 0, (if (Sh.mk true xky xsy true xid xba xte xsp).good then (Sh.mk true xky xsy true xid xba xte xsp).enc else []) ++ [97]⟩ := rfl
 rw [hR]
 have hl : (if (Sh.mk true xky xsy true xid xba xte xsp).good = true then (Sh.mk true xky xsy true xid xba xte xsp).enc else []).length ≤ 5 := by
  split
  · exact Nat.le_refl 5
  · exact Nat.zero_le _
 refine FTL.of_cov hT27 mo Try.func27 i27_eq (by simp [i27]) (iw_of_jw ?_)
 dsimp only [i27, T27, Go.Proofs.Lys.Sh.l]
 generalize hE : (if (Sh.mk true xky xsy true xid xba xte xsp).good = true then (Sh.mk true xky xsy true xid xba xte xsp).enc else []) = E at *
 have hEl : decide (E.length ≤ 9223372036854775806) = true := decide_eq_true (by omega)
 simp (maxSteps := 400000) only [go_sem, k65, hE, hEl, simprocAttr]
 refine CovS.frzN (l := []) (v' := .agg [.b false, .i .i64 96, .i .i64 sq, .i .i64 tm, .i .i64 ss, .fz [] 0, .fz [] 0, .i .i64 0, .s (E ++ [97])]) (FzV.agg ⟨FzV.refl, FzV.refl, FzV.refl, FzV.refl, FzV.refl, FzV.hit, FzV.hit, FzV.refl, FzV.refl, trivial⟩) ?_
 exact CovS.ends (Ends.pureE rfl rfl)
def pdS (s : Sw) (p : Md) : Sw × Md × Bool :=
 bif !((pushS s p).2.2 == 0) then ((pushS s p).1, zMd, false) else match (pushS s p).2.1 with
  | [] => ((pushS s p).1, zMd, true)
  | m :: _ => ((pushS s p).1, m, true)
def pdV (r : Sw × Md × Bool) : AV := .tup [.agg r.1.a, .agg r.2.1.l, .b r.2.2]
theorem pdV_bel (r : Sw × Md × Bool) : (pdV r).bel 0 = true := by simp only [pdV, AV.bel, belL, Sw.bel, md_bel, Bool.and_self]
theorem pushS_1 (s : Sw) (p : Md) : (pushS s p).2.1 = [] ∨ ∃ m, (pushS s p).2.1 = [m] := by
 unfold pushS
 cases goodW s
 · exact .inl rfl
 cases mdB p
 · exact .inl rfl
 cases decide (ixS s.l p.ss < 0)
 · cases ((dec p.pl).2.2 == 0)
   · exact .inl rfl
   · simp only [cond_true, cond_false]
     unfold toldL
     cases advB (takeS s (ixS s.l p.ss) p (dec p.pl).1) (ixS s.l p.ss) p
     · exact .inl rfl
     · cases dropB (frameS (advS (takeS s (ixS s.l p.ss) p (dec p.pl).1) (ixS s.l p.ss) p) (dec p.pl).1) (dec p.pl).1
       · exact .inr ⟨_, rfl⟩
       · exact .inl rfl
 · exact .inl rfl
theorem covPd {S : Sw} {b : Bool} {h : Hp} {n : Nat} : CovS 0 (.tup [.agg S.a, .agg [.b false, .i .i64 0, .i .i64 0, .i .i64 0, .i .i64 0, .ns, .ns, .i .i64 0, .s []], .b b]) h n (pdV (S, zMd, b)) [] 0 := by
 refine CovS.frzN (l := []) (v' := pdV (S, zMd, b)) (FzV.tup ⟨FzV.refl, FzV.agg ⟨FzV.refl, FzV.refl, FzV.refl, FzV.refl, FzV.refl, FzV.hit, FzV.hit, FzV.refl, FzV.refl, trivial⟩, FzV.refl, trivial⟩) ?_
 exact CovS.ends (Ends.pureE (pdV_bel _) rfl)
def T28 : List (Nat × Ct) := [(22, k22)]
theorem hT28 : Sound Try.prog (cxT T28) := Sound.cons s22 Sound.nil
theorem w28 (s : Sw) (p : Md) (hc : pushC s p = true) : FTL Try.prog 28 [.agg s.a, .agg p.l] [] 0 (pdV (pdS s p)) [] 0 := by
 have hk : ∀ (h : Hp) n, k22 [.agg s.a, .agg p.l] h n = some (true, { v := .tup [.agg (pushS s p).1.a, .fz (rows Md.l (pushS s p).2.1) (pushS s p).2.1.length, .i .i64 (pushS s p).2.2], n }) := fun h n => by
  simp only [k22, swA_a, md9_l, Option.bind_some, hc, pushV]
 have h1 := pushS_1 s p
 have hR : pdS s p = bif !((pushS s p).2.2 == 0) then ((pushS s p).1, zMd, false) else match (pushS s p).2.1 with
  | [] => ((pushS s p).1, zMd, true)
  | m :: _ => ((pushS s p).1, m, true) := rfl
 generalize pdS s p = R at *
 generalize pushS s p = Q at *
 obtain ⟨S, l, e⟩ := Q
 dsimp only at h1 hR hk
 refine FTL.of_cov hT28 mo Try.func28 i28_eq (by simp [i28]) (iw_of_jw ?_)
 dsimp only [i28, T28]
 have sl : ∀ s : Sw, s.a.length = 18 := fun _ => rfl
 have st : ∀ s : Sw, List.take 18 s.a = s.a := fun s => List.take_of_length_le (Nat.le_refl 18)
 have so : ∀ s : Sw, oneAll s.a = true := fun _ => rfl
 have ml : ∀ q : Md, q.l.length = 9 := fun _ => rfl
 have mt : ∀ q : Md, List.take 9 q.l = q.l := fun q => List.take_of_length_le (Nat.le_refl 9)
 have mo1 : ∀ q : Md, oneAll q.l = true := fun _ => rfl
 cases a1 : (e == 0)
 · have b1 : (e != 0) = true := by simp only [bne, a1, Bool.not_false]
   rw [a1] at hR
   simp (maxSteps := 400000) only [go_sem, hk, sl, st, so, ml, mt, mo1, b1, List.drop_zero, simprocAttr]
   rw [hR]
   exact covPd
 have b1 : (e != 0) = false := by simp only [bne, a1, Bool.not_true]
 rw [a1] at hR
 rcases h1 with rfl | ⟨m, rfl⟩
 · simp (maxSteps := 400000) only [go_sem, hk, sl, st, so, ml, mt, mo1, b1, List.drop_zero, List.length_nil, simprocAttr]
   rw [hR]
   exact covPd
 · have hr : rows Md.l [m] = m.l := by simp [rows]
   rw [hr] at hk
   simp only [List.length_cons, List.length_nil] at hk
   simp (maxSteps := 400000) only [go_sem, hk, sl, st, so, ml, mt, mo1, b1, List.drop_zero, simprocAttr]
   rw [hR]
   exact CovS.ends (Ends.pureE (pdV_bel (S, m, true)) rfl)
def k28 : Ct
 | [.agg c, .agg d], _, n => (swA c).bind fun s => (md9 d).bind fun p => some (pushC s p, { v := pdV (pdS s p), n })
 | _, _, _ => none
theorem s28 : SoundAt Try.prog 28 k28 := fun args h n c E hc ht => by
 unfold k28 at hc
 split at hc
 · simp only [Option.bind_eq_some_iff, Option.some.injEq, Prod.mk.injEq] at hc
   obtain ⟨s, hs, p, hp, rfl, rfl⟩ := hc
   rw [swA_eq hs, md9_eq hp]
   exact CallOK.pure (by kernel_rfl) (by simp only [belL, AV.bel, Sw.bel, p.bel, Bool.and_self]) (pdV_bel _) (w28 _ _ ht) _ _
 · cases hc
end Go.Proofs.Lys
end
section
/- Chapter 41: the functions that the law's works calls, as values of their arguments. -/
namespace Go.Proofs.Lys
open Go.Ab
set_option maxRecDepth 100000
set_option maxHeartbeats 4000000
set_option linter.unusedSimpArgs false
set_option linter.unusedVariables false
def asB (p : Md) (sq tm id ba : Int) : Bool := (dec p.pl).2.2 == 0 && ((dec p.pl).2.1 == [97] && (p.ss == 5 && (p.sq == sq && (p.tm == tm && ((dec p.pl).1.id == id && (dec p.pl).1.ba == ba)))))
def T29 : List (Nat × Ct) := [(46, k46)]
theorem hT29 : Sound Try.prog (cxT T29) := Sound.cons s46 Sound.nil
theorem w29 (p : Md) (sq tm id ba : Int) : FTL Try.prog 29 [.agg p.l, .i .i64 sq, .i .i64 tm, .i .i64 id, .i .i64 ba] [] 0 (.b (asB p sq tm id ba)) [] 0 := by
 have hR : asB p sq tm id ba = ((dec p.pl).2.2 == 0 && ((dec p.pl).2.1 == [97] && (p.ss == 5 && (p.sq == sq && (p.tm == tm && ((dec p.pl).1.id == id && (dec p.pl).1.ba == ba)))))) := rfl
 have hd : decV (dec p.pl) = .tup [.agg (dec p.pl).1.l, .s (dec p.pl).2.1, .i .i64 (dec p.pl).2.2] := rfl
 generalize asB p sq tm id ba = R at *
 obtain ⟨ma, pty, psq, ptm, pss, cs, xs, pd, pl⟩ := p
 dsimp only at hR hd
 generalize hdd : dec pl = D at *
 obtain ⟨⟨xst, xky, xsy, xla, xid, xba, xte, xsp⟩, rs, e⟩ := D
 simp only [Go.Proofs.Lys.Sh.l] at hd
 dsimp only at hR hd
 simp only [Md.l]
 refine FTL.of_iw hT29 mo Try.func29 i29_eq (by simp [i29]) (iw_of_jw ?_)
 dsimp only [i29, T29]
 cases a1 : (e == 0)
 · simp (maxSteps := 400000) only [go_sem, k46, hdd, hd, a1, simprocAttr]
   rw [hR, a1]; exact Ends.pureE rfl rfl
 cases a2 : (rs == [97])
 · simp (maxSteps := 400000) only [go_sem, k46, hdd, hd, a1, a2, simprocAttr]
   rw [hR, a1, a2]; exact Ends.pureE rfl rfl
 cases a3 : (pss == 5)
 · simp (maxSteps := 400000) only [go_sem, k46, hdd, hd, a1, a2, a3, simprocAttr]
   rw [hR, a1, a2, a3]; exact Ends.pureE rfl rfl
 cases a4 : (psq == sq)
 · simp (maxSteps := 400000) only [go_sem, k46, hdd, hd, a1, a2, a3, a4, simprocAttr]
   rw [hR, a1, a2, a3, a4]; exact Ends.pureE rfl rfl
 cases a5 : (ptm == tm)
 · simp (maxSteps := 400000) only [go_sem, k46, hdd, hd, a1, a2, a3, a4, a5, simprocAttr]
   rw [hR, a1, a2, a3, a4, a5]; exact Ends.pureE rfl rfl
 cases a6 : (xid == id)
 · simp (maxSteps := 400000) only [go_sem, k46, hdd, hd, a1, a2, a3, a4, a5, a6, simprocAttr]
   rw [hR, a1, a2, a3, a4, a5, a6]; exact Ends.pureE rfl rfl
 cases a7 : (xba == ba)
 all_goals (
  simp (maxSteps := 400000) only [go_sem, k46, hdd, hd, a1, a2, a3, a4, a5, a6, a7, simprocAttr]
  rw [hR, a1, a2, a3, a4, a5, a6, a7]; exact Ends.pureE rfl rfl)
def nrm : AV → AV
 | .ns => .fz [] 0
 | .ze => .fz [] 0
 | x => x
theorem Wka.nrm (x : AV) : Wka x (Lys.nrm x) := by
 cases x with
 | ns => exact Wka.ns
 | ze => exact Wka.ze
 | _ => exact Wka.refl _
theorem WkaL.nrm : ∀ l : List AV, WkaL l (l.map Lys.nrm)
 | [] => trivial
 | a :: l => ⟨Wka.nrm a, WkaL.nrm l⟩
def kOr (o : List AV → Option AV) : Ct := fun a _ n => (o a).bind fun v => some (belL 0 a && v.bel 0, { v, n })
theorem sOr {f : FuncId} {o : List AV → Option AV} (hc : Go.Ab.callable Try.prog f = true) (hf : ∀ a v, o a = some v → FTL Try.prog f a [] 0 v [] 0) : SoundAt Try.prog f (kOr o) := fun args h n c E hk ht => by
 simp only [kOr, Option.bind_eq_some_iff, Option.some.injEq, Prod.mk.injEq] at hk
 obtain ⟨v, hv, rfl, rfl⟩ := hk
 simp only [Bool.and_eq_true] at ht
 exact CallOK.pure hc ht.1 ht.2 (hf _ _ hv) _ _
def o22 : List AV → Option AV
 | [.agg c, .agg q] => (swA (c.map nrm)).bind fun s => (md9 (q.map nrm)).bind fun p => bif pushC s p then some (pushV (pushS s p)) else none
 | _ => none
theorem f22 (a : List AV) (v : AV) (e : o22 a = some v) : FTL Try.prog 22 a [] 0 v [] 0 := by
 unfold o22 at e
 split at e
 · rename_i c q
   simp only [Option.bind_eq_some_iff] at e
   obtain ⟨b, hb, p, hp, e⟩ := e
   cases hd : pushC b p
   · rw [hd] at e; cases e
   · rw [hd] at e
     cases e
     refine FTL.wka (xs := [.agg c, .agg q]) (ys := [.agg b.a, .agg p.l]) ⟨?_, ?_, trivial⟩ (w22 b p hd)
     · rw [← swA_eq hb]; exact Wka.agg (WkaL.nrm c)
     · rw [← md9_eq hp]; exact Wka.agg (WkaL.nrm q)
 · cases e
def o28 : List AV → Option AV
 | [.agg c, .agg q] => (swA c).bind fun s => (md9 q).bind fun p => bif pushC s p then some (pdV (pdS s p)) else none
 | _ => none
theorem f28 (a : List AV) (v : AV) (e : o28 a = some v) : FTL Try.prog 28 a [] 0 v [] 0 := by
 unfold o28 at e
 split at e
 · simp only [Option.bind_eq_some_iff] at e
   obtain ⟨b, hb, p, hp, e⟩ := e
   cases hd : pushC b p
   · rw [hd] at e; cases e
   · rw [hd] at e
     cases e
     rw [swA_eq hb, md9_eq hp]
     exact w28 b p hd
 · cases e
def o27 : List AV → Option AV
 | [.i .i64 ss, .i .i64 sq, .i .i64 tm, .agg c] => (sh8 c).bind fun x => some (.agg (packetS ss sq tm x).l)
 | _ => none
theorem f27 (a : List AV) (v : AV) (e : o27 a = some v) : FTL Try.prog 27 a [] 0 v [] 0 := by
 unfold o27 at e
 split at e
 · simp only [Option.bind_eq_some_iff, Option.some.injEq] at e
   obtain ⟨x, hx, rfl⟩ := e
   rw [sh8_eq hx]
   exact w27 _ _ _ x
 · cases e
def o29 : List AV → Option AV
 | [.agg c, .i .i64 sq, .i .i64 tm, .i .i64 id, .i .i64 ba] => (md9 c).bind fun p => some (.b (asB p sq tm id ba))
 | _ => none
theorem f29 (a : List AV) (v : AV) (e : o29 a = some v) : FTL Try.prog 29 a [] 0 v [] 0 := by
 unfold o29 at e
 split at e
 · simp only [Option.bind_eq_some_iff, Option.some.injEq] at e
   obtain ⟨p, hp, rfl⟩ := e
   rw [md9_eq hp]
   exact w29 p _ _ _ _
 · cases e
def o14 : List AV → Option AV
 | [.agg c, .i .i64 la, .i .i64 ai] => (swA c).bind fun s => bif decide (s.l.length ≤ 9223372036854775807) then some (swV (wantS s la ai)) else none
 | _ => none
theorem f14 (a : List AV) (v : AV) (e : o14 a = some v) : FTL Try.prog 14 a [] 0 v [] 0 := by
 unfold o14 at e
 split at e
 · rename_i c la ai
   simp only [Option.bind_eq_some_iff] at e
   obtain ⟨b, hb, e⟩ := e
   cases hd : decide (b.l.length ≤ 9223372036854775807)
   · rw [hd] at e; cases e
   · rw [hd] at e
     cases e
     rw [swA_eq hb]
     exact w14 b la ai (of_decide_eq_true hd)
 · cases e
def o10 : List AV → Option AV
 | [.agg c] => (swA c).bind fun s => bif decide (s.l.length ≤ 9223372036854775807) then some (.tup [.i .i64 (needsS s).1, .i .i64 (needsS s).2]) else none
 | _ => none
theorem f10 (a : List AV) (v : AV) (e : o10 a = some v) : FTL Try.prog 10 a [] 0 v [] 0 := by
 unfold o10 at e
 split at e
 · simp only [Option.bind_eq_some_iff] at e
   obtain ⟨b, hb, e⟩ := e
   cases hd : decide (b.l.length ≤ 9223372036854775807)
   · rw [hd] at e; cases e
   · rw [hd] at e
     cases e
     rw [swA_eq hb]
     exact w10 b (of_decide_eq_true hd)
 · cases e
def k17g : Ct
 | [v, .i .i64 ou, .i .i64 st, .agg [.i .i64 a, .i .i64 b, .i .i64 c, .i .i64 d]], h, n => vwK h 1 v fun rd m cs ok => (unrows 1 intV m cs).bind fun l => some (ok && (wrt h rd && decide (8 * l.length ≤ growMax)), { v := swV (newS l ou st a b c d), n, rd, md := dels rd })
 | _, _, _ => none
theorem s17g : SoundAt Try.prog 17 k17g := fun args h n c E hc ht => by
 unfold k17g at hc
 split at hc
 · rename_i v ou st a b c' d
   rw [vwK_eq] at hc
   simp only [Option.bind_eq_some_iff, Option.some.injEq, Prod.mk.injEq] at hc
   obtain ⟨⟨rd, m, cs, ok⟩, hv, l, hl, hc, rfl⟩ := hc
   dsimp only at hc
   subst hc
   simp only [Bool.and_eq_true] at ht
   obtain ⟨rfl, hw, hz⟩ := ht
   obtain ⟨rfl, rfl⟩ := unrows_eq (f := int1) (fun c a h => intV_eq c a h) hl
   refine CallOK.give (argsF := [.fz (rows int1 l) l.length, .i .i64 ou, .i .i64 st, .agg [.i .i64 a, .i .i64 b, .i .i64 c', .i .i64 d]]) (by kernel_rfl) ?_ (swV_bel _) hw (w17 l ou st a b c' d (of_decide_eq_true hz))
   exact ⟨vwK_sub hv (ib 0 l) (fun b hb => hb), VwV.same rfl, VwV.same rfl, VwV.same rfl, trivial⟩
 · cases hc
def k19 : Ct
 | [], _, n => some (true, { v := .b true, n })
 | _, _, _ => none
end Go.Proofs.Lys
end
section
/- Chapter 41: works, walked over its calls' values. -/
namespace Go.Proofs.Lys
open Go.Ab
set_option maxRecDepth 100000
set_option maxHeartbeats 4000000
set_option linter.unusedSimpArgs false
set_option linter.unusedVariables false
theorem q0 : k17g [.sl 0 0 2 2, .i .i64 5, .i .i64 3000, .agg [.i .i64 99, .i .i64 1000, .i .i64 9, .i .i64 4]] [(0, { cells := [.i .i64 10, .i .i64 20] })] 1 = some (true, { v := .tup [.agg [.fz [.i .i64 10, .i .i64 20] 2, .i .i64 5, .i .i64 3000, .i .i64 (-1), .i .i64 (-1), .i .i64 0, .i .i64 0, .i .i64 0, .i .i64 0, .b false, .i .i64 0, .i .i64 0, .i .i64 0, .i .i64 0, .i .i64 99, .i .i64 1000, .i .i64 9, .i .i64 4], .i .i64 0], n := 1, rd := [0], md := dels [0] }) := by kernel_rfl
theorem q1 (h : Hp) (n : Nat) : kOr o27 [.i .i64 10, .i .i64 500, .i .i64 70000, .agg [.b false, .b true, .b false, .b false, .i .i64 300, .i .i64 7, .i .i64 0, .i .i64 0]] h n = some (true, { v := .agg [.b false, .i .i64 96, .i .i64 500, .i .i64 70000, .i .i64 10, .fz [] 0, .fz [] 0, .i .i64 0, .s [232, 129, 44, 7, 0, 97]], n }) := by kernel_rfl
theorem q2 (h : Hp) (n : Nat) : kOr o28 [.agg [.fz [.i .i64 10, .i .i64 20] 2, .i .i64 5, .i .i64 3000, .i .i64 (-1), .i .i64 (-1), .i .i64 0, .i .i64 0, .i .i64 0, .i .i64 0, .b false, .i .i64 0, .i .i64 0, .i .i64 0, .i .i64 0, .i .i64 99, .i .i64 1000, .i .i64 9, .i .i64 4], .agg [.b false, .i .i64 96, .i .i64 500, .i .i64 70000, .i .i64 10, .fz [] 0, .fz [] 0, .i .i64 0, .s [232, 129, 44, 7, 0, 97]]] h n = some (true, { v := .tup [.agg [.fz [.i .i64 10, .i .i64 20] 2, .i .i64 5, .i .i64 3000, .i .i64 (-1), .i .i64 (-1), .i .i64 0, .i .i64 0, .i .i64 0, .i .i64 0, .b false, .i .i64 0, .i .i64 0, .i .i64 0, .i .i64 0, .i .i64 99, .i .i64 1000, .i .i64 9, .i .i64 4], .agg [.b false, .i .i64 0, .i .i64 0, .i .i64 0, .i .i64 0, .fz [] 0, .fz [] 0, .i .i64 0, .s []], .b true], n }) := by kernel_rfl
theorem q3 (h : Hp) (n : Nat) : kOr o10 [.agg [.fz [.i .i64 10, .i .i64 20] 2, .i .i64 5, .i .i64 3000, .i .i64 (-1), .i .i64 (-1), .i .i64 0, .i .i64 0, .i .i64 0, .i .i64 0, .b false, .i .i64 0, .i .i64 0, .i .i64 0, .i .i64 0, .i .i64 99, .i .i64 1000, .i .i64 9, .i .i64 4]] h n = some (true, { v := .tup [.i .i64 0, .i .i64 4], n }) := by kernel_rfl
theorem q4 (h : Hp) (n : Nat) : kOr o14 [.agg [.fz [.i .i64 10, .i .i64 20] 2, .i .i64 5, .i .i64 3000, .i .i64 (-1), .i .i64 (-1), .i .i64 0, .i .i64 0, .i .i64 0, .i .i64 0, .b false, .i .i64 0, .i .i64 0, .i .i64 0, .i .i64 0, .i .i64 99, .i .i64 1000, .i .i64 9, .i .i64 4], .i .i64 0, .i .i64 1] h n = some (true, { v := .tup [.agg [.fz [.i .i64 10, .i .i64 20] 2, .i .i64 5, .i .i64 3000, .i .i64 (-1), .i .i64 0, .i .i64 0, .i .i64 1, .i .i64 0, .i .i64 0, .b false, .i .i64 0, .i .i64 0, .i .i64 0, .i .i64 0, .i .i64 99, .i .i64 1000, .i .i64 9, .i .i64 4], .i .i64 0], n }) := by kernel_rfl
theorem q5 (h : Hp) (n : Nat) : kOr o10 [.agg [.fz [.i .i64 10, .i .i64 20] 2, .i .i64 5, .i .i64 3000, .i .i64 (-1), .i .i64 0, .i .i64 0, .i .i64 1, .i .i64 0, .i .i64 0, .b false, .i .i64 0, .i .i64 0, .i .i64 0, .i .i64 0, .i .i64 99, .i .i64 1000, .i .i64 9, .i .i64 4]] h n = some (true, { v := .tup [.i .i64 0, .i .i64 0], n }) := by kernel_rfl
theorem q6 (h : Hp) (n : Nat) : kOr o28 [.agg [.fz [.i .i64 10, .i .i64 20] 2, .i .i64 5, .i .i64 3000, .i .i64 (-1), .i .i64 0, .i .i64 0, .i .i64 1, .i .i64 0, .i .i64 0, .b false, .i .i64 0, .i .i64 0, .i .i64 0, .i .i64 0, .i .i64 99, .i .i64 1000, .i .i64 9, .i .i64 4], .agg [.b false, .i .i64 96, .i .i64 500, .i .i64 70000, .i .i64 10, .fz [] 0, .fz [] 0, .i .i64 0, .s [232, 129, 44, 7, 0, 97]]] h n = some (true, { v := .tup [.agg [.fz [.i .i64 10, .i .i64 20] 2, .i .i64 5, .i .i64 3000, .i .i64 0, .i .i64 0, .i .i64 0, .i .i64 1, .i .i64 500, .i .i64 300, .b true, .i .i64 65136, .i .i64 4294901296, .i .i64 32478, .i .i64 254, .i .i64 100, .i .i64 4000, .i .i64 10, .i .i64 5], .agg [.b false, .i .i64 96, .i .i64 100, .i .i64 4000, .i .i64 5, .fz [] 0, .fz [] 0, .i .i64 0, .s [232, 128, 10, 5, 0, 97]], .b true], n }) := by kernel_rfl
theorem q7 (h : Hp) (n : Nat) : kOr o27 [.i .i64 10, .i .i64 501, .i .i64 73000, .agg [.b false, .b false, .b false, .b false, .i .i64 301, .i .i64 7, .i .i64 1, .i .i64 0]] h n = some (true, { v := .agg [.b false, .i .i64 96, .i .i64 501, .i .i64 73000, .i .i64 10, .fz [] 0, .fz [] 0, .i .i64 0, .s [200, 129, 45, 7, 64, 97]], n }) := by kernel_rfl
theorem q8 (h : Hp) (n : Nat) : kOr o28 [.agg [.fz [.i .i64 10, .i .i64 20] 2, .i .i64 5, .i .i64 3000, .i .i64 0, .i .i64 0, .i .i64 0, .i .i64 1, .i .i64 500, .i .i64 300, .b true, .i .i64 65136, .i .i64 4294901296, .i .i64 32478, .i .i64 254, .i .i64 100, .i .i64 4000, .i .i64 10, .i .i64 5], .agg [.b false, .i .i64 96, .i .i64 501, .i .i64 73000, .i .i64 10, .fz [] 0, .fz [] 0, .i .i64 0, .s [200, 129, 45, 7, 64, 97]]] h n = some (true, { v := .tup [.agg [.fz [.i .i64 10, .i .i64 20] 2, .i .i64 5, .i .i64 3000, .i .i64 0, .i .i64 0, .i .i64 0, .i .i64 1, .i .i64 501, .i .i64 301, .b false, .i .i64 65135, .i .i64 4294901296, .i .i64 32477, .i .i64 254, .i .i64 100, .i .i64 4000, .i .i64 10, .i .i64 5], .agg [.b false, .i .i64 0, .i .i64 0, .i .i64 0, .i .i64 0, .fz [] 0, .fz [] 0, .i .i64 0, .s []], .b true], n }) := by kernel_rfl
theorem q9 (h : Hp) (n : Nat) : kOr o27 [.i .i64 10, .i .i64 502, .i .i64 76000, .agg [.b false, .b false, .b false, .b false, .i .i64 302, .i .i64 8, .i .i64 0, .i .i64 0]] h n = some (true, { v := .agg [.b false, .i .i64 96, .i .i64 502, .i .i64 76000, .i .i64 10, .fz [] 0, .fz [] 0, .i .i64 0, .s [200, 129, 46, 8, 0, 97]], n }) := by kernel_rfl
theorem q10 (h : Hp) (n : Nat) : kOr o28 [.agg [.fz [.i .i64 10, .i .i64 20] 2, .i .i64 5, .i .i64 3000, .i .i64 0, .i .i64 0, .i .i64 0, .i .i64 1, .i .i64 501, .i .i64 301, .b false, .i .i64 65135, .i .i64 4294901296, .i .i64 32477, .i .i64 254, .i .i64 100, .i .i64 4000, .i .i64 10, .i .i64 5], .agg [.b false, .i .i64 96, .i .i64 502, .i .i64 76000, .i .i64 10, .fz [] 0, .fz [] 0, .i .i64 0, .s [200, 129, 46, 8, 0, 97]]] h n = some (true, { v := .tup [.agg [.fz [.i .i64 10, .i .i64 20] 2, .i .i64 5, .i .i64 3000, .i .i64 0, .i .i64 0, .i .i64 0, .i .i64 1, .i .i64 502, .i .i64 302, .b true, .i .i64 65135, .i .i64 4294901296, .i .i64 32477, .i .i64 254, .i .i64 101, .i .i64 10000, .i .i64 11, .i .i64 6], .agg [.b false, .i .i64 96, .i .i64 101, .i .i64 10000, .i .i64 5, .fz [] 0, .fz [] 0, .i .i64 0, .s [200, 128, 11, 6, 0, 97]], .b true], n }) := by kernel_rfl
theorem q11 (h : Hp) (n : Nat) : kOr o27 [.i .i64 10, .i .i64 503, .i .i64 79000, .agg [.b false, .b false, .b true, .b false, .i .i64 303, .i .i64 8, .i .i64 1, .i .i64 0]] h n = some (true, { v := .agg [.b false, .i .i64 96, .i .i64 503, .i .i64 79000, .i .i64 10, .fz [] 0, .fz [] 0, .i .i64 0, .s [216, 129, 47, 8, 64, 97]], n }) := by kernel_rfl
theorem q12 (h : Hp) (n : Nat) : kOr o28 [.agg [.fz [.i .i64 10, .i .i64 20] 2, .i .i64 5, .i .i64 3000, .i .i64 0, .i .i64 0, .i .i64 0, .i .i64 1, .i .i64 502, .i .i64 302, .b true, .i .i64 65135, .i .i64 4294901296, .i .i64 32477, .i .i64 254, .i .i64 101, .i .i64 10000, .i .i64 11, .i .i64 6], .agg [.b false, .i .i64 96, .i .i64 503, .i .i64 79000, .i .i64 10, .fz [] 0, .fz [] 0, .i .i64 0, .s [216, 129, 47, 8, 64, 97]]] h n = some (true, { v := .tup [.agg [.fz [.i .i64 10, .i .i64 20] 2, .i .i64 5, .i .i64 3000, .i .i64 0, .i .i64 0, .i .i64 1, .i .i64 1, .i .i64 503, .i .i64 303, .b true, .i .i64 65135, .i .i64 4294901296, .i .i64 32477, .i .i64 254, .i .i64 102, .i .i64 13000, .i .i64 12, .i .i64 6], .agg [.b false, .i .i64 96, .i .i64 102, .i .i64 13000, .i .i64 5, .fz [] 0, .fz [] 0, .i .i64 0, .s [216, 128, 12, 6, 64, 97]], .b true], n }) := by kernel_rfl
theorem q13 (h : Hp) (n : Nat) : kOr o28 [.agg [.fz [.i .i64 10, .i .i64 20] 2, .i .i64 5, .i .i64 3000, .i .i64 0, .i .i64 0, .i .i64 1, .i .i64 1, .i .i64 503, .i .i64 303, .b true, .i .i64 65135, .i .i64 4294901296, .i .i64 32477, .i .i64 254, .i .i64 102, .i .i64 13000, .i .i64 12, .i .i64 6], .agg [.b false, .i .i64 96, .i .i64 503, .i .i64 79000, .i .i64 10, .fz [] 0, .fz [] 0, .i .i64 0, .s [216, 129, 47, 8, 64, 97]]] h n = some (true, { v := .tup [.agg [.fz [.i .i64 10, .i .i64 20] 2, .i .i64 5, .i .i64 3000, .i .i64 0, .i .i64 0, .i .i64 1, .i .i64 1, .i .i64 503, .i .i64 303, .b true, .i .i64 65135, .i .i64 4294901296, .i .i64 32477, .i .i64 254, .i .i64 102, .i .i64 13000, .i .i64 12, .i .i64 6], .agg [.b false, .i .i64 0, .i .i64 0, .i .i64 0, .i .i64 0, .fz [] 0, .fz [] 0, .i .i64 0, .s []], .b true], n }) := by kernel_rfl
theorem q14 (h : Hp) (n : Nat) : kOr o28 [.agg [.fz [.i .i64 10, .i .i64 20] 2, .i .i64 5, .i .i64 3000, .i .i64 0, .i .i64 0, .i .i64 1, .i .i64 1, .i .i64 503, .i .i64 303, .b true, .i .i64 65135, .i .i64 4294901296, .i .i64 32477, .i .i64 254, .i .i64 102, .i .i64 13000, .i .i64 12, .i .i64 6], .agg [.b false, .i .i64 96, .i .i64 502, .i .i64 76000, .i .i64 10, .fz [] 0, .fz [] 0, .i .i64 0, .s [200, 129, 46, 8, 0, 97]]] h n = some (true, { v := .tup [.agg [.fz [.i .i64 10, .i .i64 20] 2, .i .i64 5, .i .i64 3000, .i .i64 0, .i .i64 0, .i .i64 1, .i .i64 1, .i .i64 503, .i .i64 303, .b true, .i .i64 65135, .i .i64 4294901296, .i .i64 32477, .i .i64 254, .i .i64 102, .i .i64 13000, .i .i64 12, .i .i64 6], .agg [.b false, .i .i64 0, .i .i64 0, .i .i64 0, .i .i64 0, .fz [] 0, .fz [] 0, .i .i64 0, .s []], .b true], n }) := by kernel_rfl
theorem q15 (h : Hp) (n : Nat) : kOr o14 [.agg [.fz [.i .i64 10, .i .i64 20] 2, .i .i64 5, .i .i64 3000, .i .i64 0, .i .i64 0, .i .i64 1, .i .i64 1, .i .i64 503, .i .i64 303, .b true, .i .i64 65135, .i .i64 4294901296, .i .i64 32477, .i .i64 254, .i .i64 102, .i .i64 13000, .i .i64 12, .i .i64 6], .i .i64 1, .i .i64 1] h n = some (true, { v := .tup [.agg [.fz [.i .i64 10, .i .i64 20] 2, .i .i64 5, .i .i64 3000, .i .i64 0, .i .i64 1, .i .i64 1, .i .i64 1, .i .i64 503, .i .i64 303, .b true, .i .i64 65135, .i .i64 4294901296, .i .i64 32477, .i .i64 254, .i .i64 102, .i .i64 13000, .i .i64 12, .i .i64 6], .i .i64 0], n }) := by kernel_rfl
theorem q16 (h : Hp) (n : Nat) : kOr o27 [.i .i64 10, .i .i64 504, .i .i64 82000, .agg [.b false, .b false, .b false, .b false, .i .i64 304, .i .i64 9, .i .i64 0, .i .i64 0]] h n = some (true, { v := .agg [.b false, .i .i64 96, .i .i64 504, .i .i64 82000, .i .i64 10, .fz [] 0, .fz [] 0, .i .i64 0, .s [200, 129, 48, 9, 0, 97]], n }) := by kernel_rfl
theorem q17 (h : Hp) (n : Nat) : kOr o28 [.agg [.fz [.i .i64 10, .i .i64 20] 2, .i .i64 5, .i .i64 3000, .i .i64 0, .i .i64 1, .i .i64 1, .i .i64 1, .i .i64 503, .i .i64 303, .b true, .i .i64 65135, .i .i64 4294901296, .i .i64 32477, .i .i64 254, .i .i64 102, .i .i64 13000, .i .i64 12, .i .i64 6], .agg [.b false, .i .i64 96, .i .i64 504, .i .i64 82000, .i .i64 10, .fz [] 0, .fz [] 0, .i .i64 0, .s [200, 129, 48, 9, 0, 97]]] h n = some (true, { v := .tup [.agg [.fz [.i .i64 10, .i .i64 20] 2, .i .i64 5, .i .i64 3000, .i .i64 0, .i .i64 1, .i .i64 1, .i .i64 1, .i .i64 504, .i .i64 304, .b true, .i .i64 65135, .i .i64 4294901296, .i .i64 32477, .i .i64 254, .i .i64 103, .i .i64 16000, .i .i64 13, .i .i64 7], .agg [.b false, .i .i64 96, .i .i64 103, .i .i64 16000, .i .i64 5, .fz [] 0, .fz [] 0, .i .i64 0, .s [200, 128, 13, 7, 0, 97]], .b true], n }) := by kernel_rfl
theorem q18 (h : Hp) (n : Nat) : kOr o27 [.i .i64 20, .i .i64 7, .i .i64 5, .agg [.b false, .b true, .b false, .b false, .i .i64 0, .i .i64 200, .i .i64 0, .i .i64 0]] h n = some (true, { v := .agg [.b false, .i .i64 96, .i .i64 7, .i .i64 5, .i .i64 20, .fz [] 0, .fz [] 0, .i .i64 0, .s [232, 128, 0, 200, 0, 97]], n }) := by kernel_rfl
theorem q19 (h : Hp) (n : Nat) : kOr o28 [.agg [.fz [.i .i64 10, .i .i64 20] 2, .i .i64 5, .i .i64 3000, .i .i64 0, .i .i64 1, .i .i64 1, .i .i64 1, .i .i64 504, .i .i64 304, .b true, .i .i64 65135, .i .i64 4294901296, .i .i64 32477, .i .i64 254, .i .i64 103, .i .i64 16000, .i .i64 13, .i .i64 7], .agg [.b false, .i .i64 96, .i .i64 7, .i .i64 5, .i .i64 20, .fz [] 0, .fz [] 0, .i .i64 0, .s [232, 128, 0, 200, 0, 97]]] h n = some (true, { v := .tup [.agg [.fz [.i .i64 10, .i .i64 20] 2, .i .i64 5, .i .i64 3000, .i .i64 1, .i .i64 1, .i .i64 0, .i .i64 1, .i .i64 7, .i .i64 0, .b true, .i .i64 97, .i .i64 18995, .i .i64 14, .i .i64 64, .i .i64 104, .i .i64 19000, .i .i64 14, .i .i64 8], .agg [.b false, .i .i64 96, .i .i64 104, .i .i64 19000, .i .i64 5, .fz [] 0, .fz [] 0, .i .i64 0, .s [232, 128, 14, 8, 0, 97]], .b true], n }) := by kernel_rfl
theorem q20 (h : Hp) (n : Nat) : kOr o22 [.agg [.fz [.i .i64 10, .i .i64 20] 2, .i .i64 5, .i .i64 3000, .i .i64 0, .i .i64 1, .i .i64 1, .i .i64 1, .i .i64 504, .i .i64 304, .b true, .i .i64 65135, .i .i64 4294901296, .i .i64 32477, .i .i64 254, .i .i64 103, .i .i64 16000, .i .i64 13, .i .i64 7], .agg [.b false, .i .i64 0, .i .i64 0, .i .i64 0, .i .i64 30, .ns, .ns, .i .i64 0, .s []]] h n = some (true, { v := .tup [.agg [.fz [] 0, .i .i64 0, .i .i64 0, .i .i64 0, .i .i64 0, .i .i64 0, .i .i64 0, .i .i64 0, .i .i64 0, .b false, .i .i64 0, .i .i64 0, .i .i64 0, .i .i64 0, .i .i64 0, .i .i64 0, .i .i64 0, .i .i64 0], .fz [] 0, .i .i64 4], n }) := by kernel_rfl
theorem q21 (h : Hp) (n : Nat) : kOr o22 [.agg [.fz [.i .i64 10, .i .i64 20] 2, .i .i64 5, .i .i64 3000, .i .i64 0, .i .i64 1, .i .i64 1, .i .i64 1, .i .i64 504, .i .i64 304, .b true, .i .i64 65135, .i .i64 4294901296, .i .i64 32477, .i .i64 254, .i .i64 103, .i .i64 16000, .i .i64 13, .i .i64 7], .agg [.b false, .i .i64 0, .i .i64 0, .i .i64 0, .i .i64 10, .ns, .ns, .i .i64 0, .s [97, 98, 99, 100]]] h n = some (true, { v := .tup [.agg [.fz [] 0, .i .i64 0, .i .i64 0, .i .i64 0, .i .i64 0, .i .i64 0, .i .i64 0, .i .i64 0, .i .i64 0, .b false, .i .i64 0, .i .i64 0, .i .i64 0, .i .i64 0, .i .i64 0, .i .i64 0, .i .i64 0, .i .i64 0], .fz [] 0, .i .i64 7], n }) := by kernel_rfl
theorem q22 (h : Hp) (n : Nat) : kOr o14 [.agg [.fz [.i .i64 10, .i .i64 20] 2, .i .i64 5, .i .i64 3000, .i .i64 0, .i .i64 1, .i .i64 1, .i .i64 1, .i .i64 504, .i .i64 304, .b true, .i .i64 65135, .i .i64 4294901296, .i .i64 32477, .i .i64 254, .i .i64 103, .i .i64 16000, .i .i64 13, .i .i64 7], .i .i64 2, .i .i64 0] h n = some (true, { v := .tup [.agg [.fz [] 0, .i .i64 0, .i .i64 0, .i .i64 0, .i .i64 0, .i .i64 0, .i .i64 0, .i .i64 0, .i .i64 0, .b false, .i .i64 0, .i .i64 0, .i .i64 0, .i .i64 0, .i .i64 0, .i .i64 0, .i .i64 0, .i .i64 0], .i .i64 2], n }) := by kernel_rfl
theorem q23 (h : Hp) (n : Nat) : kOr o29 [.agg [.b false, .i .i64 96, .i .i64 100, .i .i64 4000, .i .i64 5, .fz [] 0, .fz [] 0, .i .i64 0, .s [232, 128, 10, 5, 0, 97]], .i .i64 100, .i .i64 4000, .i .i64 10, .i .i64 5] h n = some (true, { v := .b true, n }) := by kernel_rfl
theorem q24 (h : Hp) (n : Nat) : kOr o29 [.agg [.b false, .i .i64 96, .i .i64 101, .i .i64 10000, .i .i64 5, .fz [] 0, .fz [] 0, .i .i64 0, .s [200, 128, 11, 6, 0, 97]], .i .i64 101, .i .i64 10000, .i .i64 11, .i .i64 6] h n = some (true, { v := .b true, n }) := by kernel_rfl
theorem q25 (h : Hp) (n : Nat) : kOr o29 [.agg [.b false, .i .i64 96, .i .i64 102, .i .i64 13000, .i .i64 5, .fz [] 0, .fz [] 0, .i .i64 0, .s [216, 128, 12, 6, 64, 97]], .i .i64 102, .i .i64 13000, .i .i64 12, .i .i64 6] h n = some (true, { v := .b true, n }) := by kernel_rfl
theorem q26 (h : Hp) (n : Nat) : kOr o29 [.agg [.b false, .i .i64 96, .i .i64 103, .i .i64 16000, .i .i64 5, .fz [] 0, .fz [] 0, .i .i64 0, .s [200, 128, 13, 7, 0, 97]], .i .i64 103, .i .i64 16000, .i .i64 13, .i .i64 7] h n = some (true, { v := .b true, n }) := by kernel_rfl
theorem q27 (h : Hp) (n : Nat) : kOr o29 [.agg [.b false, .i .i64 96, .i .i64 104, .i .i64 19000, .i .i64 5, .fz [] 0, .fz [] 0, .i .i64 0, .s [232, 128, 14, 8, 0, 97]], .i .i64 104, .i .i64 19000, .i .i64 14, .i .i64 8] h n = some (true, { v := .b true, n }) := by kernel_rfl
def T19 : List (Nat × Ct) := [(10, kOr o10), (14, kOr o14), (17, k17g), (22, kOr o22), (27, kOr o27), (28, kOr o28), (29, kOr o29)]
theorem hT19 : Sound Try.prog (cxT T19) := Sound.cons (sOr (by kernel_rfl) f10) (Sound.cons (sOr (by kernel_rfl) f14) (Sound.cons s17g (Sound.cons (sOr (by kernel_rfl) f22) (Sound.cons (sOr (by kernel_rfl) f27) (Sound.cons (sOr (by kernel_rfl) f28) (Sound.cons (sOr (by kernel_rfl) f29) Sound.nil))))))
theorem w19 : FTL Try.prog 19 [] [] 0 (.b true) [] 0 := by
 refine FTL.of_iw hT19 mo Try.func19 i19_eq (by simp [i19]) (iw_of_jw ?_)
 dsimp only [i19, T19]
 simp (maxSteps := 400000) only [go_sem, q0, q1, q2, q3, q4, q5, q6, q7, q8, q9, q10, q11, q12, q13, q14, q15, q16, q17, q18, q19, q20, q21, q22, q23, q24, q25, q26, q27, dels_cons, dels_nil, simprocAttr]
 exact Ends.pureE rfl rfl
theorem s19 : SoundAt Try.prog 19 k19 := fun args h n c E hc ht => by
 unfold k19 at hc
 split at hc
 · cases hc
   exact CallOK.pure (by kernel_rfl) rfl rfl w19 _ _
 · cases hc
end Go.Proofs.Lys
end
