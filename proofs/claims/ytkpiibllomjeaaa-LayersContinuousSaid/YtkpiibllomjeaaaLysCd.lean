/- Texts laid as one: LysC9 LysC10 LysC11. -/
import Derived.Test.YtkpiibllomjeaaaLysCc
import Derived.Test.YtkpiibllomjeaaaAbGvs
import Derived.Test.YtkpiibllomjeaaaAbDfrs
import Derived.Test.YtkpiibllomjeaaaLysCb
section
/- Chapter 41: the mixer's last step, send. -/
namespace Go.Proofs.Lys
open Go.Ab
set_option maxRecDepth 100000
set_option maxHeartbeats 4000000
set_option linter.unusedSimpArgs false
set_option linter.unusedVariables false
/-! Clone of extensions -/
theorem w101 (l : List (Int × List UInt8)) (hz : 24 * l.length ≤ growMax) : FTL Try.prog 101 [.fz (rows xtR l) l.length] [] 0 (.fz (rows xtR l) l.length) [] 0 :=
 cln_f (z := 2) (bytes := 24) (zs := [.i .i64 0, .s []]) mo Try.func101 i101_eq (rows_len xtR_len) (rows_one1 (fun _ => rfl) l) (rows_bel xtR_bel) hz
def k101 : Ct
 | [.fz L m], _, n => (unrows 2 xtV m L).bind fun l => some (decide (24 * l.length ≤ growMax), { v := .fz (rows xtR l) l.length, n })
 | _, _, _ => none
theorem s101 : SoundAt Try.prog 101 k101 := fun args h n c E hc ht => by
 unfold k101 at hc
 split at hc
 · simp only [Option.bind_eq_some_iff, Option.some.injEq, Prod.mk.injEq] at hc
   obtain ⟨l, hl, rfl, rfl⟩ := hc
   obtain ⟨rfl, rfl⟩ := unrows_eq (f := xtR) (fun c a h => xtV_eq c a h) hl
   exact CallOK.pure (by kernel_rfl) (by simp only [belL, AV.bel, xsB, Bool.and_self]) (by simp only [AV.bel, xsB]) (w101 _ (of_decide_eq_true ht)) _ _
 · cases hc
/-! send -/
def sendS (s : Sw) (p : Md) (x : Sh) : Sw := { s with ss := (p.sq + s.sq) % 65536, sT := (p.tm + s.tm) % 4294967296, si := (x.id + s.id) % 32768, sb := (x.ba + s.ba) % 256 }
def sendP (s : Sw) (p : Md) (x : Sh) : Md := { p with ss := s.ou, sq := (p.sq + s.sq) % 65536, tm := (p.tm + s.tm) % 4294967296, pl := (putS p.pl ((x.id + s.id) % 32768) ((x.ba + s.ba) % 256)).1 }
def sendOK (s : Sw) (p : Md) (x : Sh) : Bool := decide (p.pl.length ≤ 1000000000) && (decide (8 * p.cs.length ≤ growMax) && (decide (24 * p.xs.length ≤ growMax) && ((putS p.pl ((x.id + s.id) % 32768) ((x.ba + s.ba) % 256)).2 == 0)))
def T79 : List (Nat × Ct) := [(53, k53), (93, k93), (95, k95), (97, k97), (98, k98), (99, k99), (100, k100), (101, k101)]
theorem hT79 : Sound Try.prog (cxT T79) := Sound.cons s53 (Sound.cons s93 (Sound.cons s95 (Sound.cons s97 (Sound.cons s98 (Sound.cons s99 (Sound.cons s100 (Sound.cons s101 Sound.nil)))))))
theorem w79 (m : Mx) (hok : sendOK m.s m.p m.x = true) :
 FTL Try.prog 79 [.p 0 0] [(0, { cells := m.c .ns })] 1 (.tup []) [(0, { cells := Mx.c { m with s := sendS m.s m.p m.x } (.fz (sendP m.s m.p m.x).l 1) })] 1 := by
 have hS : sendS m.s m.p m.x = { m.s with ss := (m.p.sq + m.s.sq) % 65536, sT := (m.p.tm + m.s.tm) % 4294967296, si := (m.x.id + m.s.id) % 32768, sb := (m.x.ba + m.s.ba) % 256 } := rfl
 have hP : sendP m.s m.p m.x = { m.p with ss := m.s.ou, sq := (m.p.sq + m.s.sq) % 65536, tm := (m.p.tm + m.s.tm) % 4294967296, pl := (putS m.p.pl ((m.x.id + m.s.id) % 32768) ((m.x.ba + m.s.ba) % 256)).1 } := rfl
 simp only [sendOK, Bool.and_eq_true, decide_eq_true_eq, beq_iff_eq] at hok
 generalize sendS m.s m.p m.x = S at *
 generalize sendP m.s m.p m.x = R at *
 obtain ⟨⟨l, ou, st, nw, wa, ca, ai, tp, fr, kp, sq, tm, id, ba, ss, sT, si, sb⟩, k, ⟨ma, pty, psq, ptm, pss, cs, xs, pd, pl⟩, ⟨xst, xky, xsy, xla, xid, xba, xte, xsp⟩⟩ := m
 dsimp only at hS hP hok
 obtain ⟨o1, o2, o3, o4⟩ := hok
 simp only [Mx.c]
 refine FTL.of_cov hT79 mo Try.func79 i79_eq (by simp [i79]) (iw_of_jw ?_)
 dsimp only [i79, T79]
 have d1 : decide (pl.length ≤ 1000000000) = true := decide_eq_true o1
 have d2 : decide (8 * cs.length ≤ growMax) = true := decide_eq_true o2
 have d3 : decide (24 * xs.length ≤ growMax) = true := decide_eq_true o3
 have q1 : unrows 1 intV cs.length (rows int1 cs) = some cs := unrows_rows int1_len (fun _ => rfl) cs
 have q2 : unrows 2 xtV xs.length (rows xtR xs) = some xs := unrows_rows xtR_len (fun _ => rfl) xs
 have hB1 : ∀ j, belL j (rows int1 l) = true := fun j => ib j l
 have hB2 : ∀ j, belL j (rows int1 cs) = true := fun j => csB j cs
 have hB3 : ∀ j, belL j (rows xtR xs) = true := fun j => xsB j xs
 simp (maxSteps := 400000) only [go_sem, k53, k93, k95, k97, k98, k99, k100, k101, d1, d2, d3, q1, q2, o4, simprocAttr]
 subst hS hP
 have g1 : 112 ≤ growMax := by decide
 rw [show decide (112 ≤ growMax) = true from decide_eq_true g1]
 refine ⟨rfl, ?_⟩
 refine CovS.frzH (b := 3) (o := 0) (m := 1) (cs := Md.l ⟨ma, pty, (psq + sq) % 65536, (ptm + tm) % 4294967296, ou, cs, xs, pd, (putS pl ((xid + id) % 32768) ((xba + ba) % 256)).1⟩) (v' := .tup []) (h' := [(0, { cells := Mx.c ⟨⟨l, ou, st, nw, wa, ca, ai, tp, fr, kp, sq, tm, id, ba, (psq + sq) % 65536, (ptm + tm) % 4294967296, (xid + id) % 32768, (xba + ba) % 256⟩, k, ⟨ma, pty, psq, ptm, pss, cs, xs, pd, pl⟩, ⟨xst, xky, xsy, xla, xid, xba, xte, xsp⟩⟩ (.fz (Md.l ⟨ma, pty, (psq + sq) % 65536, (ptm + tm) % 4294967296, ou, cs, xs, pd, (putS pl ((xid + id) % 32768) ((xba + ba) % 256)).1⟩) 1) })]) rfl rfl (.inr rfl) (.inl rfl) FzV.refl ?_ ?_
 · refine ⟨⟨by decide, ⟨_, rfl, rfl, rfl, rfl, ?_⟩⟩, trivial⟩
   dsimp only [Mx.c]
   repeat (first | exact trivial | refine ⟨FzV.refl, ?_⟩ | refine ⟨FzV.hit, ?_⟩)
 · refine CovS.ends (Ends.keep1 rfl rfl ?_ rfl rfl)
   exact Mx.bel _ (by simp only [AV.bel, Md.l, belL, hB2, hB3, Bool.and_self])
theorem md_bel (p : Md) (j : Nat) : belL j p.l = true := belL_mono0 _ p.bel
def k79 : Ct
 | [.p b 0], h, n => (hget h b).bind fun kb => (mxB kb).bind fun mo => match mo.2 with
  | .ns => some (sendOK mo.1.s mo.1.p mo.1.x, { v := .tup [], n, rd := [b], md := [(b, some { cells := Mx.c { mo.1 with s := sendS mo.1.s mo.1.p mo.1.x } (.fz (sendP mo.1.s mo.1.p mo.1.x).l 1) })] })
  | _ => none
 | _, _, _ => none
theorem s79 : SoundAt Try.prog 79 k79 := fun args h n c E hc ht => by
 unfold k79 at hc
 split at hc
 · rename_i b
   simp only [Option.bind_eq_some_iff] at hc
   obtain ⟨kb, hkb, ⟨m, o⟩, hm, hc⟩ := hc
   have := mxB_eq hm
   subst this
   dsimp only at hc
   cases o
   case ns =>
    cases hc
    exact CallOK.upd1X (pn := none) (argsL := [.p 0 0]) (by kernel_rfl) rfl (m.bel rfl) (Mx.bel _ (by simp only [AV.bel, md_bel])) rfl rfl hkb (w79 m ht)
   all_goals cases hc
 · cases hc
end Go.Proofs.Lys
end
section
/- Chapter 41: told. -/
namespace Go.Proofs.Lys
open Go.Ab
set_option maxRecDepth 100000
set_option maxHeartbeats 4000000
set_option linter.unusedSimpArgs false
set_option linter.unusedVariables false
def mdOK (p : Md) : Bool := decide (p.pl.length ≤ 1000000000) && (decide (8 * p.cs.length ≤ growMax) && (decide (24 * p.xs.length ≤ growMax) && ((dec p.pl).2.2 == 0 && inI 0 65535 p.sq)))
theorem put_ok {l : List UInt8} (h : (dec l).2.2 = 0) (a b : Int) : (putS l (a % 32768) (b % 256)).2 = 0 := by
 have h1 : inR (a % 32768) (b % 256) = true := by simp only [inR, Bool.and_eq_true, decide_eq_true_eq]; omega
 simp only [putS, h, bne_self_eq_false, Bool.false_eq_true, if_false, h1, if_true]
theorem sendOK_of {s : Sw} {p : Md} {x : Sh} (h : mdOK p = true) : sendOK s p x = true := by
 simp only [mdOK, Bool.and_eq_true, decide_eq_true_eq, beq_iff_eq] at h
 obtain ⟨h1, h2, h3, h4, h5⟩ := h
 simp only [sendOK, Bool.and_eq_true, decide_eq_true_eq, beq_iff_eq]
 exact ⟨h1, h2, h3, put_ok h4 _ _⟩
/-! told -/
def T59 : List (Nat × Ct) := [(75, k75), (76, k76), (77, k77), (78, k78), (79, k79)]
theorem hT59 : Sound Try.prog (cxT T59) := Sound.cons s75 (Sound.cons s76 (Sound.cons s77 (Sound.cons s78 (Sound.cons s79 Sound.nil))))
def toldS (s : Sw) (k : Int) (p : Md) (x : Sh) : Sw × AV :=
 bif advB (takeS s k p x) k p then
  bif dropB (frameS (advS (takeS s k p x) k p) x) x then (dropS (frameS (advS (takeS s k p x) k p) x) x, .ns)
  else (sendS (frameS (advS (takeS s k p x) k p) x) p x, .fz (sendP (frameS (advS (takeS s k p x) k p) x) p x).l 1)
 else (takeS s k p x, .ns)
theorem w59 (s : Sw) (k : Int) (p : Md) (x : Sh) (hp : mdOK p = true) (ht : inI 0 65535 (takeS s k p x).tp = true) :
 FTL Try.prog 59 [.p 0 0] [(0, { cells := Mx.c ⟨s, k, p, x⟩ .ns })] 1 (.tup []) [(0, { cells := Mx.c ⟨(toldS s k p x).1, k, p, x⟩ (toldS s k p x).2 })] 1 := by
 have hsq : inI 0 65535 p.sq = true := by simp only [mdOK, Bool.and_eq_true] at hp; exact hp.2.2.2.2
 refine FTLx.of_dfrJ (pn := none) Cov.ends hT59 mo Try.func59 i59_eq (by simp [i59]) (ops := []) rfl (by kernel_rfl) Try.func74 i74_eq rfl ?_
 refine dfrK_intro (caps := []) (bs := []) rfl rfl .nil (fun Gs h1 h2 => ?_)
 obtain rfl : Gs = [] := List.length_eq_zero_iff.1 h1
 refine ⟨Nat.zero_le _, ?_⟩
 dsimp only [i59, T59, setG]
 have hb : ∀ (m : Mx) (o : AV), o.bel 1 = true → belL 1 (m.c o) = true := fun m o h => m.bel h
 simp (maxSteps := 400000) only [go_sem, simprocAttr]
 refine Loop.rounds (F := ⟨Try.prog, cxT T59, [16], 21, 1⟩) 6 hT59 mo ?_
 dsimp only [T59]
 unfold toldS
 cases a1 : advB (takeS s k p x) k p
 · have e1 : advS (takeS s k p x) k p = takeS s k p x := by simp only [advS, a1, cond_false]
   simp (maxSteps := 400000) only [go_sem, lp, k75, k76, mxB_c, hsq, ht, a1, e1, Bool.and_true, simprocAttr]
   simp only [AV.bel, andB_t]
   dsimp only [i74, endedV]
   simp (maxSteps := 400000) only [go_sem, simprocAttr]
   exact Ends.keep1 rfl rfl (by exact hb _ _ rfl) rfl rfl
 cases a2 : dropB (frameS (advS (takeS s k p x) k p) x) x
 · have e1 : dropS (frameS (advS (takeS s k p x) k p) x) x = frameS (advS (takeS s k p x) k p) x := by simp only [dropS, a2, cond_false]
   simp (maxSteps := 400000) only [go_sem, lp, k75, k76, k77, k78, k79, mxB_c, hsq, ht, a1, a2, e1, sendOK_of, hp, Bool.and_true, simprocAttr]
   simp only [AV.bel, andB_t]
   dsimp only [i74, endedV]
   simp (maxSteps := 400000) only [go_sem, simprocAttr]
   exact Ends.keep1 rfl rfl (by exact hb _ _ (by simp only [AV.bel, md_bel])) rfl rfl
 · simp (maxSteps := 400000) only [go_sem, lp, k75, k76, k77, k78, k79, mxB_c, hsq, ht, a1, a2, Bool.and_true, simprocAttr]
   simp only [AV.bel, andB_t]
   dsimp only [i74, endedV]
   simp (maxSteps := 400000) only [go_sem, simprocAttr]
   exact Ends.keep1 rfl rfl (by exact hb _ _ rfl) rfl rfl
def k59 : Ct
 | [.p b 0], h, n => (hget h b).bind fun kb => (mxB kb).bind fun mo => match mo.2 with
  | .ns => some (mdOK mo.1.p && inI 0 65535 (takeS mo.1.s mo.1.k mo.1.p mo.1.x).tp, { v := .tup [], n, rd := [b], md := [(b, some { cells := Mx.c ⟨(toldS mo.1.s mo.1.k mo.1.p mo.1.x).1, mo.1.k, mo.1.p, mo.1.x⟩ (toldS mo.1.s mo.1.k mo.1.p mo.1.x).2 })] })
  | _ => none
 | _, _, _ => none
theorem toldS_bel (s : Sw) (k : Int) (p : Md) (x : Sh) (j : Nat) : (toldS s k p x).2.bel j = true := by
 unfold toldS
 cases advB (takeS s k p x) k p
 · rfl
 · cases dropB (frameS (advS (takeS s k p x) k p) x) x
   · simp only [cond_true, cond_false, AV.bel, md_bel]
   · rfl
theorem s59 : SoundAt Try.prog 59 k59 := fun args h n c E hc ht => by
 unfold k59 at hc
 split at hc
 · rename_i b
   simp only [Option.bind_eq_some_iff] at hc
   obtain ⟨kb, hkb, ⟨⟨s, k, p, x⟩, o⟩, hm, hc⟩ := hc
   have := mxB_eq hm
   subst this
   dsimp only at hc
   cases o
   case ns =>
    cases hc
    simp only [Bool.and_eq_true] at ht
    exact CallOK.upd1X (pn := none) (argsL := [.p 0 0]) (by kernel_rfl) rfl (Mx.bel _ rfl) (Mx.bel _ (toldS_bel _ _ _ _ _)) rfl rfl hkb (w59 _ _ _ _ ht.1 ht.2)
   all_goals cases hc
 · cases hc
end Go.Proofs.Lys
end
section
/- Chapter 41: Push. -/
namespace Go.Proofs.Lys
open Go.Ab
set_option maxRecDepth 100000
set_option maxHeartbeats 4000000
set_option linter.unusedSimpArgs false
set_option linter.unusedVariables false
def toldL (s : Sw) (k : Int) (p : Md) (x : Sh) : Sw × List Md :=
 bif advB (takeS s k p x) k p then
  bif dropB (frameS (advS (takeS s k p x) k p) x) x then (dropS (frameS (advS (takeS s k p x) k p) x) x, [])
  else (sendS (frameS (advS (takeS s k p x) k p) x) p x, [sendP (frameS (advS (takeS s k p x) k p) x) p x])
 else (takeS s k p x, [])
def outV : List Md → AV
 | [] => .ns
 | l => .fz (rows Md.l l) l.length
theorem toldS_L (s : Sw) (k : Int) (p : Md) (x : Sh) : toldS s k p x = ((toldL s k p x).1, outV (toldL s k p x).2) := by
 unfold toldS toldL
 cases advB (takeS s k p x) k p
 · rfl
 · cases dropB (frameS (advS (takeS s k p x) k p) x) x
   · show (_, _) = (_, _)
     simp only [cond_true, cond_false, outV, rows, List.map_cons, List.map_nil, List.flatten_cons, List.flatten_nil, List.append_nil, List.length_cons, List.length_nil]
   · rfl
def pushS (s : Sw) (p : Md) : Sw × List Md × Int :=
 bif goodW s then bif mdB p then bif decide (ixS s.l p.ss < 0) then (zSw, [], 4)
 else bif (dec p.pl).2.2 == 0 then ((toldL s (ixS s.l p.ss) p (dec p.pl).1).1, (toldL s (ixS s.l p.ss) p (dec p.pl).1).2, 0) else (zSw, [], (dec p.pl).2.2)
 else (zSw, [], 230) else (zSw, [], 410)
def pushV (r : Sw × List Md × Int) : AV := .tup [.agg r.1.a, .fz (rows Md.l r.2.1) r.2.1.length, .i .i64 r.2.2]
theorem pks_bel (l : List Md) (j : Nat) : belL j (rows Md.l l) = true := belL_mono0 _ (rows_bel (fun p => p.bel))
theorem pushV_bel (r : Sw × List Md × Int) : (pushV r).bel 0 = true := by simp only [pushV, AV.bel, belL, Sw.bel, pks_bel, Bool.and_self]
theorem covZ2 {e : Int} {h : Hp} {n : Nat} : CovS 0 (.tup [.agg [.ns, .i .i64 0, .i .i64 0, .i .i64 0, .i .i64 0, .i .i64 0, .i .i64 0, .i .i64 0, .i .i64 0, .b false, .i .i64 0, .i .i64 0, .i .i64 0, .i .i64 0, .i .i64 0, .i .i64 0, .i .i64 0, .i .i64 0], .ns, .i .i64 e]) h n (pushV (zSw, [], e)) [] 0 := by
 refine CovS.frzN (l := []) (v' := pushV (zSw, [], e)) (FzV.tup ⟨FzV.agg ⟨FzV.hit, FzV.refl, FzV.refl, FzV.refl, FzV.refl, FzV.refl, FzV.refl, FzV.refl, FzV.refl, FzV.refl, FzV.refl, FzV.refl, FzV.refl, FzV.refl, FzV.refl, FzV.refl, FzV.refl, FzV.refl, trivial⟩, FzV.hit, FzV.refl, trivial⟩) ?_
 exact CovS.ends (Ends.pureE rfl rfl)
theorem covO {S : Sw} {l : List Md} {h : Hp} {n : Nat} : CovS 0 (.tup [.agg S.a, outV l, .i .i64 0]) h n (pushV (S, l, 0)) [] 0 := by
 cases l with
 | nil =>
  refine CovS.frzN (l := []) (v' := pushV (S, [], 0)) (FzV.tup ⟨FzV.refl, FzV.hit, FzV.refl, trivial⟩) ?_
  exact CovS.ends (Ends.pureE (pushV_bel _) rfl)
 | cons p l => exact CovS.ends (Ends.pureE (pushV_bel (S, p :: l, 0)) rfl)
theorem take_tp {s : Sw} {k : Int} {p : Md} {x : Sh} (h : goodW s = true) : inI 0 65535 (takeS s k p x).tp = true := by
 unfold takeS
 cases takeB s k x
 · simp only [cond_false]
   simp only [goodW, numB, Bool.and_eq_true] at h
   exact h.2.1.2.2.2.2.1
 · simp only [cond_true, inI, Bool.and_eq_true, decide_eq_true_eq]
   omega
def T22 : List (Nat × Ct) := [(12, k12), (46, k46), (53, k53), (57, k57), (58, k58), (59, k59)]
theorem hT22 : Sound Try.prog (cxT T22) := Sound.cons s12 (Sound.cons s46 (Sound.cons s53 (Sound.cons s57 (Sound.cons s58 (Sound.cons s59 Sound.nil)))))
def pushC (s : Sw) (p : Md) : Bool := decide (s.l.length ≤ 9223372036854775807) && (p.fin && decide (p.pl.length ≤ 1000000000))
theorem md_cs {p : Md} (h : mdB p = true) : p.cs.length ≤ 15 ∧ p.xs.length ≤ 16 ∧ inI 0 65535 p.sq = true := by
 simp only [mdB, mdPre, inZ, inI, Bool.and_eq_true, decide_eq_true_eq] at h ⊢
 omega
theorem w22 (s : Sw) (p : Md) (hc : pushC s p = true) : FTL Try.prog 22 [.agg s.a, .agg p.l] [] 0 (pushV (pushS s p)) [] 0 := by
 simp only [pushC, Bool.and_eq_true, decide_eq_true_eq] at hc
 obtain ⟨c1, c2, c3⟩ := hc
 have hR : pushS s p = bif goodW s then bif mdB p then bif decide (ixS s.l p.ss < 0) then (zSw, [], 4)
  else bif (dec p.pl).2.2 == 0 then ((toldL s (ixS s.l p.ss) p (dec p.pl).1).1, (toldL s (ixS s.l p.ss) p (dec p.pl).1).2, 0) else (zSw, [], (dec p.pl).2.2)
  else (zSw, [], 230) else (zSw, [], 410) := rfl
 have hsw := swA_a s
 have hmd := md9_l p
 have hll : decide (s.l.length ≤ 9223372036854775807) = true := decide_eq_true c1
 have hl3 : goodW s = true → decide (s.l.length ≤ 3) = true := fun h => decide_eq_true (good_len h).2
 have hgr : goodW s = true → decide (8 * s.l.length ≤ growMax) = true := fun h => decide_eq_true (by have := good_len h; simp only [growMax]; omega)
 have hmx := fun k x => mxB_c ⟨s, k, p, x⟩ .ns
 have hok : mdB p = true → (dec p.pl).2.2 = 0 → mdOK p = true := fun h h2 => by
  have h3 := md_cs h
  simp only [mdOK, Bool.and_eq_true, decide_eq_true_eq, beq_iff_eq]
  exact ⟨c3, by simp only [growMax]; omega, by simp only [growMax]; omega, h2, h3.2.2⟩
 have htp : ∀ k x, goodW s = true → inI 0 65535 (takeS s k p x).tp = true := fun k x => take_tp
 have hto : ∀ k x, toldS s k p x = ((toldL s k p x).1, outV (toldL s k p x).2) := fun k x => toldS_L s k p x
 have hct : List.take (s.l.length * 1) (rows int1 s.l) = rows int1 s.l := by rw [← rows_len (f := int1) (z := 1) int1_len]; exact List.take_length
 have hl1 : decide ((rows int1 s.l).length = s.l.length * 1) = true := decide_eq_true (rows_len int1_len)
 generalize pushS s p = R at *
 refine FTL.of_cov hT22 mo Try.func22 i22_eq (by simp [i22]) (iw_of_jw ?_)
 dsimp only [i22, T22]
 generalize htk : takeS s = TK at *
 generalize htS : toldS s = TS at *
 generalize htL : toldL s = TL at *
 generalize hg : goodW s = gd at *
 generalize hm : mdB p = md at *
 generalize hmO : mdOK p = mk at *
 have hfin := c2
 obtain ⟨l, ou, st, nw, wa, ca, ai, tp, fr, kp, sq, tm, id, ba, ss, sT, si, sb⟩ := s
 obtain ⟨ma, pty, psq, ptm, pss, cs, xs, pd, pl⟩ := p
 simp only [Sw.a, Md.l, Mx.c] at hsw hmd hmx ⊢
 dsimp only at *
 cases gd
 · simp (maxSteps := 400000) only [go_sem, k12, hsw, hll, hg, Bool.false_eq_true, if_false, simprocAttr]
   rw [hR]
   exact covZ2
 have hl3 := hl3 rfl
 have hgr := hgr rfl
 cases md
 · simp (maxSteps := 400000) only [go_sem, k12, k57, hsw, hmd, hll, hg, hm, hfin, if_true, Bool.false_eq_true, if_false, simprocAttr]
   rw [hR]
   exact covZ2
 cases a1 : decide (ixS l pss < 0)
 rotate_left
 · simp (maxSteps := 400000) only [go_sem, k12, k57, k58, hsw, hmd, hll, hg, hm, hfin, if_true, vwK_f, hct, List.drop_zero, hl1, i_un, hl3, a1, simprocAttr]
   rw [hR, a1]
   exact covZ2
 have hd : decV (dec pl) = .tup [.agg (dec pl).1.l, .s (dec pl).2.1, .i .i64 (dec pl).2.2] := rfl
 generalize hdd : dec pl = D at *
 obtain ⟨⟨xst, xky, xsy, xla, xid, xba, xte, xsp⟩, rs, e⟩ := D
 simp only [Go.Proofs.Lys.Sh.l] at hd
 dsimp only at *
 cases a2 : (e == 0)
 · have b2 : (e != 0) = true := by simp only [bne, a2, Bool.not_false]
   simp (maxSteps := 400000) only [go_sem, k12, k46, k57, k58, hsw, hmd, hll, hg, hm, hfin, if_true, vwK_f, hct, List.drop_zero, hl1, i_un, hl3, a1, hdd, hd, b2, simprocAttr]
   rw [hR, a1, a2]
   exact covZ2
 have b2 : (e != 0) = false := by simp only [bne, a2, Bool.not_true]
 have hok := hok rfl (by simpa using a2)
 subst hok
 have htp := htp (ixS l pss) ⟨xst, xky, xsy, xla, xid, xba, xte, xsp⟩ rfl
 have hmx := hmx (ixS l pss) ⟨xst, xky, xsy, xla, xid, xba, xte, xsp⟩
 have hto := hto (ixS l pss) ⟨xst, xky, xsy, xla, xid, xba, xte, xsp⟩
 rw [a1, a2] at hR
 dsimp only at hmx
 generalize TL (ixS l pss) ⟨ma, pty, psq, ptm, pss, cs, xs, pd, pl⟩ ⟨xst, xky, xsy, xla, xid, xba, xte, xsp⟩ = Q at *
 obtain ⟨⟨rl, rou, rst, rnw, rwa, rca, rai, rtp, rfr, rkp, rsq, rtm, rid, rba, rss, rsT, rsi, rsb⟩, rO⟩ := Q
 simp (maxSteps := 400000) only [go_sem, k12, k46, k53, k57, k58, k59, hsw, hmd, hll, hg, hm, hfin, if_true, vwK_f, hct, List.drop_zero, hl1, i_un, hl3, hgr, a1, hdd, hd, b2, hmx, htk, htS, hto, htp, hmO, Mx.c, simprocAttr]
 rw [hR]
 exact covO (S := ⟨rl, rou, rst, rnw, rwa, rca, rai, rtp, rfr, rkp, rsq, rtm, rid, rba, rss, rsT, rsi, rsb⟩)
def k22 : Ct
 | [.agg c, .agg d], _, n => (swA c).bind fun s => (md9 d).bind fun p => some (pushC s p, { v := pushV (pushS s p), n })
 | _, _, _ => none
theorem s22 : SoundAt Try.prog 22 k22 := fun args h n c E hc ht => by
 unfold k22 at hc
 split at hc
 · simp only [Option.bind_eq_some_iff, Option.some.injEq, Prod.mk.injEq] at hc
   obtain ⟨s, hs, p, hp, rfl, rfl⟩ := hc
   rw [swA_eq hs, md9_eq hp]
   exact CallOK.pure (by kernel_rfl) (by simp only [belL, AV.bel, Sw.bel, p.bel, Bool.and_self]) (pushV_bel _) (w22 _ _ ht) _ _
 · cases hc
end Go.Proofs.Lys
end
