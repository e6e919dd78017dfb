/- Texts laid as one: JitC11 JitC12. -/
import Derived.Test.YtcpgamgkbbckoaaJitCd
import Derived.Test.YtcpgamgkbbckoaaJitMb
import Derived.Test.YtcpgamgkbbckoaaAbWka
section
/- New, few, Same, SameFrame. -/
namespace Go.Proofs.Jit
open Go.Ab
set_option maxRecDepth 100000
set_option maxHeartbeats 4000000
set_option linter.unusedSimpArgs false
set_option linter.unusedVariables false
/-! New -/
def bfV (r : Bf × Int) : AV := .tup [.agg r.1.a, .i .i64 r.2]
theorem bfV_bel (r : Bf × Int) : (bfV r).bel 0 = true := by simp only [bfV, AV.bel, belL, Bf.bel, Bool.and_self]
def newS (n : Int) : Bf × Int := bif inI 1 96 n then (⟨n, 0, false, false, 0, 0, 0, 0, 0, 0, []⟩, 0) else (zBf, 2)
theorem covN {ck e : Int} {h : Hp} {n : Nat} : CovS 0 (.tup [.agg [.i .i64 ck, .i .i64 0, .b false, .b false, .i .i64 0, .i .i64 0, .i .i64 0, .i .i64 0, .i .i64 0, .i .i64 0, .ns], .i .i64 e]) h n (bfV (⟨ck, 0, false, false, 0, 0, 0, 0, 0, 0, []⟩, e)) [] 0 := by
 refine CovS.frzN (l := []) (v' := bfV (⟨ck, 0, false, false, 0, 0, 0, 0, 0, 0, []⟩, e)) (FzV.tup ⟨FzV.agg ⟨FzV.refl, FzV.refl, FzV.refl, FzV.refl, FzV.refl, FzV.refl, FzV.refl, FzV.refl, FzV.refl, FzV.refl, FzV.hit, trivial⟩, FzV.refl, trivial⟩) ?_
 exact CovS.ends (Ends.pureE rfl rfl)
def T18 : List (Nat × Ct) := [(34, k34)]
theorem hT18 : Sound Try.prog (cxT T18) := Sound.cons s34 Sound.nil
theorem w18 (n : Int) : FTL Try.prog 18 [.i .i64 n] [] 0 (bfV (newS n)) [] 0 := by
 have hR : newS n = bif inI 1 96 n then (⟨n, 0, false, false, 0, 0, 0, 0, 0, 0, []⟩, 0) else (zBf, 2) := rfl
 generalize newS n = R at *
 refine FTL.of_cov (cx := cxT T18) hT18 mo Try.func18 i18_eq (by simp [i18]) (iw_of_jw ?_)
 dsimp only [i18, T18]
 cases a1 : inI 1 96 n
 all_goals
  rw [a1] at hR
  simp (maxSteps := 400000) only [go_sem, k34, a1, simprocAttr]
  rw [hR]
  exact covN
def k18 : Ct
 | [.i .i64 n], _, m => some (true, { v := bfV (newS n), n := m })
 | _, _, _ => none
theorem s18 : SoundAt Try.prog 18 k18 := fun args h n c E hc ht => by
 unfold k18 at hc
 split at hc
 · cases hc; exact CallOK.pure (by kernel_rfl) rfl (bfV_bel _) (w18 _) _ _
 · cases hc
/-! few -/
/-! Same: equal data -/
def smB (l : List Md) : Bool := l.all fun p => decide (p.cs.length ≤ 9223372036854775807) && decide (p.xs.length ≤ 9223372036854775807)
theorem k49_at {p : Md} (h : (decide (p.cs.length ≤ 9223372036854775807) && decide (p.xs.length ≤ 9223372036854775807)) = true) (hp : Hp) (n : Nat) : k49 [.agg p.l, .agg p.l] hp n = some (true, { v := .b true, n }) := by
 simp only [k49, md9_l, Option.bind_some, if_true, h]
noncomputable def T25 : List (Nat × Ct) := [(49, k49)]
theorem hT25 : Sound Try.prog (cxT T25) := Sound.cons s49 Sound.nil
theorem w25 (l : List Md) (hl : l.length ≤ 9223372036854775807) (hs : smB l = true) : FTL Try.prog 25 [.fz (rows Md.l l) l.length, .fz (rows Md.l l) l.length] [] 0 (.b true) [] 0 := by
 have hLb : ∀ j, belL j (rows Md.l l) = true := fun j => mrB j l
 simp only [smB, List.all_eq_true] at hs
 refine FTL.of_iw hT25 mo Try.func25 i25_eq (by simp [i25]) (iw_of_jw ?_)
 dsimp only [i25, T25]
 have e1 : ((l.length : Int) == (l.length : Int)) = true := by simp
 simp (maxSteps := 400000) only [go_sem, e1, simprocAttr]
 refine Loop.countI (F := ⟨Try.prog, cxT T25, [10, 14, 26], 27, 0⟩) hT25 mo l.length (fun k => True)
  (fun k => [(0, .fz (rows Md.l l) l.length), (1, .fz (rows Md.l l) l.length), (5, .i .i64 (k : Int))])
  (fun k => []) 0 (by decide) trivial ?_ ?_ (fun k hk hinv => ?_)
 · simp (maxSteps := 400000) only [go_sem, hLb, AV.bel, belL, nblt, simprocAttr]
 · simp (maxSteps := 400000) only [go_sem, hLb, AV.bel, belL, nblt, simprocAttr]
 dsimp only [T25]
 by_cases hlt : k < l.length
 · have c1 : decide ((k : Int) < (l.length : Int)) = true := decide_eq_true (by omega)
   have c2 : decide (0 ≤ (k : Int) ∧ (k : Int) < (l.length : Int)) = true := decide_eq_true (by omega)
   have hw : IntKind.i64.wrap ((k : Int) + 1) = ((k + 1 : Nat) : Int) := by rw [wrapL (by omega) (by omega)]; omega
   obtain ⟨x, hx⟩ : ∃ x, l[k]? = some x := ⟨_, List.getElem?_eq_getElem hlt⟩
   have hr := md_at hx
   have hk := k49_at (hs x (List.mem_of_getElem? hx))
   have hB1 := csB 1 x.cs
   have hB2 := xsB 1 x.xs
   obtain ⟨ma, pty, sq, tm, pss, cs, xs, pd, pl⟩ := x
   simp only [Md.l] at hr hk
   simp (maxSteps := 400000) only [go_sem, c1, c2, hr, hk, hw, hlt, hLb, AV.bel, belL, nblt, simprocAttr]
 · have c1 : decide ((k : Int) < (l.length : Int)) = false := decide_eq_false (by omega)
   simp (maxSteps := 400000) only [go_sem, c1, simprocAttr]
   exact Ends.pureE rfl rfl
end Go.Proofs.Jit
end
section
/- The reference's Put. -/
namespace Go.Proofs.Jit
open Go.Ab
set_option maxRecDepth 100000
set_option maxHeartbeats 4000000
set_option linter.unusedSimpArgs false
set_option linter.unusedVariables false
def pos (nx far : Int) : List Hd → Nat
 | [] => 0
 | x :: r => bif decide (lead x.p.sq nx < far) then pos nx far r + 1 else 0
theorem pos_le (nx far : Int) : ∀ l : List Hd, pos nx far l ≤ l.length
 | [] => Nat.le_refl _
 | x :: r => by
  simp only [pos, List.length_cons]
  have := pos_le nx far r
  cases decide (lead x.p.sq nx < far)
  · simp
  · simp; exact this
def dupB (l : List Hd) (at_ : Nat) (sq : Int) : Bool := match l[at_]? with
 | some x => x.p.sq == sq
 | none => false
def insL (l : List Hd) (at_ : Nat) (x : Hd) : List Hd := l.take at_ ++ ([x] ++ l.drop at_)
def putAt (b : Bf) (now : Int) (p : Md) (at_ : Nat) (stamp : Int) : Bf :=
 bif b.sd then { b with ti := now, ji := b.ji + min (max (now * b.ck - stamp - b.tr) (b.tr - (now * b.ck - stamp))) 65535 - (b.ji + 8) / 16, of := min b.of (now * b.ck - stamp), mr := max b.mr stamp, tr := now * b.ck - stamp, l := insL b.l at_ ⟨p, stamp⟩ }
 else { b with ti := now, sd := true, nx := p.sq, wh := true, of := now * b.ck - stamp, mr := stamp, tr := now * b.ck - stamp, l := insL b.l at_ ⟨p, stamp⟩ }
def stampS (b : Bf) (p : Md) : Int := b.mr + lead32 p.tm (b.mr % 4294967296)
def putS (b : Bf) (now : Int) (p : Md) : Bf × Int :=
 if lateB b now = 0 then
  bif mdB p then
   bif b.sd then
    bif decide (lead p.sq b.nx < 0) || dupB b.l (pos b.nx (lead p.sq b.nx) b.l) p.sq then (zBf, 10)
    else bif decide (lead p.sq b.nx > 511) || (decide (stampS b p < 0) || decide (stampS b p > 1152921504606846976)) then (zBf, 6)
    else bif decide (64 ≤ b.l.length) then (zBf, 3)
    else (putAt b now p (pos b.nx (lead p.sq b.nx) b.l) (stampS b p), 0)
   else (putAt b now p 0 (1099511627776 + p.tm), 0)
  else (zBf, 230)
 else (zBf, lateB b now)
end Go.Proofs.Jit
end
