/- Texts laid as one: JitC11 JitC12. -/
import Derived.Test.YtcpgamgkbbckoaaJitCd
import Derived.Test.YtcpgamgkbbckoaaJitMb
import Derived.Test.YtcpgamgkbbckoaaAbWka
section
/- New, few, Same, SameFrame. -/
namespace Go.Proofs.Jit
open Go.Ab
set_option maxRecDepth 100000
set_option maxHeartbeats 4000000
set_option linter.unusedSimpArgs false
set_option linter.unusedVariables false
/-! New -/
def bfV (r : Bf × Int) : AV := .tup [.agg r.1.a, .i .i64 r.2]
theorem bfV_bel (r : Bf × Int) : (bfV r).bel 0 = true := by simp only [bfV, AV.bel, belL, Bf.bel, Bool.and_self]
def newS (n : Int) : Bf × Int := bif inI 1 96 n then (⟨n, 0, false, false, 0, 0, 0, 0, 0, 0, []⟩, 0) else (zBf, 2)
theorem covN {ck e : Int} {h : Hp} {n : Nat} : CovS 0 (.tup [.agg [.i .i64 ck, .i .i64 0, .b false, .b false, .i .i64 0, .i .i64 0, .i .i64 0, .i .i64 0, .i .i64 0, .i .i64 0, .ns], .i .i64 e]) h n (bfV (⟨ck, 0, false, false, 0, 0, 0, 0, 0, 0, []⟩, e)) [] 0 := by
 refine CovS.frzN (l := []) (v' := bfV (⟨ck, 0, false, false, 0, 0, 0, 0, 0, 0, []⟩, e)) (FzV.tup ⟨FzV.agg ⟨FzV.refl, FzV.refl, FzV.refl, FzV.refl, FzV.refl, FzV.refl, FzV.refl, FzV.refl, FzV.refl, FzV.refl, FzV.hit, trivial⟩, FzV.refl, trivial⟩) ?_
 exact CovS.ends (Ends.pureE rfl rfl)
def T18 : List (Nat × Ct) := [(34, k34)]
theorem hT18 : Sound Try.prog (cxT T18) := Sound.cons s34 Sound.nil
theorem w18 (n : Int) : FTL Try.prog 18 [.i .i64 n] [] 0 (bfV (newS n)) [] 0 := by
 have hR : newS n = bif inI 1 96 n then (⟨n, 0, false, false, 0, 0, 0, 0, 0, 0, []⟩, 0) else (zBf, 2) := rfl
 generalize newS n = R at *
 refine FTL.of_cov (cx := cxT T18) hT18 mo Try.func18 i18_eq (by simp [i18]) (iw_of_jw ?_)
 dsimp only [i18, T18]
 cases a1 : inI 1 96 n
 all_goals
  rw [a1] at hR
  simp (maxSteps := 400000) only [go_sem, k34, a1, simprocAttr]
  rw [hR]
  exact covN
def k18 : Ct
 | [.i .i64 n], _, m => some (true, { v := bfV (newS n), n := m })
 | _, _, _ => none
theorem s18 : SoundAt Try.prog 18 k18 := fun args h n c E hc ht => by
 unfold k18 at hc
 split at hc
 · cases hc; exact CallOK.pure (by kernel_rfl) rfl (bfV_bel _) (w18 _) _ _
 · cases hc
/-! few -/
/-! Same: equal data -/
end Go.Proofs.Jit
end
section
/- The reference's Put. -/
namespace Go.Proofs.Jit
open Go.Ab
set_option maxRecDepth 100000
set_option maxHeartbeats 4000000
set_option linter.unusedSimpArgs false
set_option linter.unusedVariables false
def pos (nx far : Int) : List Hd → Nat
 | [] => 0
 | x :: r => bif decide (lead x.p.sq nx < far) then pos nx far r + 1 else 0
theorem pos_le (nx far : Int) : ∀ l : List Hd, pos nx far l ≤ l.length
 | [] => Nat.le_refl _
 | x :: r => by
  simp only [pos, List.length_cons]
  have := pos_le nx far r
  cases decide (lead x.p.sq nx < far)
  · simp
  · simp; exact this
def dupB (l : List Hd) (at_ : Nat) (sq : Int) : Bool := match l[at_]? with
 | some x => x.p.sq == sq
 | none => false
def insL (l : List Hd) (at_ : Nat) (x : Hd) : List Hd := l.take at_ ++ ([x] ++ l.drop at_)
def putAt (b : Bf) (now : Int) (p : Md) (at_ : Nat) (stamp : Int) : Bf :=
 bif b.sd then { b with ti := now, ji := b.ji + min (max (now * b.ck - stamp - b.tr) (b.tr - (now * b.ck - stamp))) 65535 - (b.ji + 8) / 16, of := min b.of (now * b.ck - stamp), mr := max b.mr stamp, tr := now * b.ck - stamp, l := insL b.l at_ ⟨p, stamp⟩ }
 else { b with ti := now, sd := true, nx := p.sq, wh := true, of := now * b.ck - stamp, mr := stamp, tr := now * b.ck - stamp, l := insL b.l at_ ⟨p, stamp⟩ }
def stampS (b : Bf) (p : Md) : Int := b.mr + lead32 p.tm (b.mr % 4294967296)
def putS (b : Bf) (now : Int) (p : Md) : Bf × Int :=
 if lateB b now = 0 then
  bif mdB p then
   bif b.sd then
    bif decide (lead p.sq b.nx < 0) || dupB b.l (pos b.nx (lead p.sq b.nx) b.l) p.sq then (zBf, 10)
    else bif decide (lead p.sq b.nx > 511) || (decide (stampS b p < 0) || decide (stampS b p > 1152921504606846976)) then (zBf, 6)
    else bif decide (64 ≤ b.l.length) then (zBf, 3)
    else (putAt b now p (pos b.nx (lead p.sq b.nx) b.l) (stampS b p), 0)
   else (putAt b now p 0 (1099511627776 + p.tm), 0)
  else (zBf, 230)
 else (zBf, lateB b now)
end Go.Proofs.Jit
end
