/- Texts laid as one: AbLoopS AbLoopT. -/
import Derived.Test.YtlokbfkdgnopeaaGreatDoorAbWkS
import Derived.Test.YtlokbfkdgnopeaaGreatDoorAbRfs
import Derived.Test.YtlokbfkdgnopeaaGreatDoorAbDfrs
import Derived.Test.YtlokbfkdgnopeaaGreatDoorAbExecs
import Derived.Test.YtlokbfkdgnopeaaGreatDoorAbRead
section
/- The abstract layer: loops whose rounds have seams; some values that stand for others. -/
namespace Go.Ab
set_option linter.unusedVariables false
set_option linter.unusedSimpArgs false
theorem Loop.stepS {F : Fx} {c : ICode} {K : Kont} {X : Type} (ok : X → Prop) (μ : X → Nat) (E : X → Env) (H : X → Hp) (n2 : Nat) (x0 : X) (nx : X → X) (m0 : List (Nat × Nat)) (m : X → List (Nat × Nat))
 {e : Env} {h : Hp} {n : Nat} (hn : F.n0 ≤ n2) (hm0 : rnOK m0 F.n0 n2 = true) (hm1 : ∀ x, rnOK (m x) F.n0 n2 = true) (h0 : ok x0) (he : EnvR n2 m0 e (E x0)) (hh : HpR n2 m0 h (H x0))
 (round : ∀ x, ok x → Seam F c (thenK K fun e' h' n' => (ok (nx x) ∧ μ (nx x) < μ x) ∧ EnvR n2 (m x) e' (E (nx x)) ∧ HpR n2 (m x) h' (H (nx x))) (E x) (H x) n2) : Loop F.P F.ct F.N F.n0 c K e h n := by
 refine Loop.invW (F := F) (X := { x : X // ok x }) (fun k => (E k.1, H k.1, n2)) (fun k => μ k.1) ⟨x0, h0⟩ (rn m0) (Wk.ofR hn hm0 he hh) (fun k c' hc' => ?_)
 refine (round k.1 k.2 c' hc').mono (fun ex e' h' n' hx => ?_)
 cases ex with
 | normal =>
  obtain ⟨⟨h1, h2⟩, h3, h4⟩ := hx
  exact ⟨⟨nx k.1, h1⟩, rn (m k.1), Wk.ofR hn (hm1 k.1) h3 h4, h2⟩
 | _ => exact hx
theorem Seam.cut {F : Fx} {c : ICode} {K : Kont} {e : Env} {h : Hp} {n : Nat} (hs : ∀ K1, K1 = K → Seam F c K1 e h n) : Seam F c K e h n := hs K rfl
theorem Wka.en : Wka .en (.fz [] 0) := fun _ _ _ h => by cases h; exact .fz0 _ _ _ (fun e => by cases e)
theorem VwV.wka {h : Hp} {rd : List Nat} {a b c : AV} (hv : VwV h rd a b) (hw : Wka b c) : VwV h rd a c := fun D D' φ w u hH hu => hw _ _ _ (hv D D' φ w u hH hu)
theorem FTLx.of_dfrS0 {P : Program} {C : Nat → AV → Hp → Nat → AV → Hp → Nat → Prop} (hC : Cov C) {f g : FuncId} {fn gn : Func} {I Ig : IFn} {cx : Cx} {args : List AV} {pn : Option Value} {n : Nat} {h : Hp} {v2 : AV} {h2 : Hp} {n2 : Nat} {pre ops : List IOper} {x : Opd} {s : Bool} {rest : ICode}
 (hcx : Sound P cx) (hm : P.follows .mixedOrders = true) (hf : P.funcs[f]? = some fn) (hI : compF P fn = some I) (hnp : args.length ≤ I.N) (hcode : I.code = .seq (.reg pre) (.seq (.reg (ops ++ [⟨none, .dfr x [], none, s⟩])) rest))
 (hcal : callable P g = true) (hg : P.funcs[g]? = some gn) (hIg : compF P gn = some Ig) (hgr : Ig.res = [])
 (hi : rOps cx pre (argEnv 0 args) h n (thenRJ cx ops (dfrK x g fun Gs e h' n' => Gs.length ≤ Ig.N ∧ Seam ⟨P, cx, I.ct, I.N, n⟩ rest (retDK I.res Ig.code Gs fun p v h' n' => p = pn ∧ C n v h' n' v2 h2 n2) e h' n'))) : FTLx P f args h n pn v2 h2 n2 :=
 FTLx.of_dfr0 hC hcx hm hf hI hnp hcode hcal hg hIg hgr (runOps_mono (fun ex e h n hk => by
  cases ex with
  | normal => exact runOps_of_rOps hk
  | _ => exact hk) (runOps_of_rOps hi))
end Go.Ab
end
section
/- The abstract layer: loops whose state behind a round is some state; contracts for one list of arguments. -/
namespace Go.Ab
set_option linter.unusedVariables false
set_option linter.unusedSimpArgs false
theorem Loop.stepK {F : Fx} {c : ICode} {K : Kont} {X : Type} (ok : X → Prop) (μ : X → Nat) (E : X → Env) (H : X → Hp) (n2 : Nat) (x0 : X) (nx : X → X)
 {e : Env} {h : Hp} {n : Nat} (hn : F.n0 ≤ n2) (h0 : ok x0) (he : EnvIn n2 e (E x0)) (hh : HpIn n2 h (H x0))
 (round : ∀ x, ok x → Seam F c (thenK K fun e' h' n' => (ok (nx x) ∧ μ (nx x) < μ x) ∧ EnvIn n2 e' (E (nx x)) ∧ HpIn n2 h' (H (nx x))) (E x) (H x) n2) : Loop F.P F.ct F.N F.n0 c K e h n := by
 refine Loop.invW (F := F) (X := { x : X // ok x }) (fun k => (E k.1, H k.1, n2)) (fun k => μ k.1) ⟨x0, h0⟩ _root_.id (Wk.keep hn he hh) (fun k c' hc' => ?_)
 refine (round k.1 k.2 c' hc').mono (fun ex e' h' n' hx => ?_)
 cases ex with
 | normal =>
  obtain ⟨⟨h1, h2⟩, h3, h4⟩ := hx
  exact ⟨⟨nx k.1, h1⟩, _root_.id, Wk.keep hn h3 h4, h2⟩
 | _ => exact hx
noncomputable def kP (a0 : List AV) (v0 : AV) : List AV → Hp → Nat → Option (Bool × Eff) := fun a h n => open Classical in if a = a0 then some (true, { v := v0, n }) else none
theorem kP_at {a0 : List AV} {v0 : AV} (h : Hp) (n : Nat) : kP a0 v0 a0 h n = some (true, { v := v0, n }) := if_pos rfl
theorem kP_sound {P : Program} {f : FuncId} {a0 : List AV} {v0 : AV} (hc : Go.Ab.callable P f = true) (ha : belL 0 a0 = true) (hv : v0.bel 0 = true) (hf : FTL P f a0 [] 0 v0 [] 0) : SoundAt P f (kP a0 v0) := fun args h n c E he ht => by
 unfold kP at he
 split at he
 · rename_i hh
   subst hh
   cases he
   exact CallOK.pure hc ha hv hf _ _
 · cases he
theorem Seam.ofLoop {F : Fx} {c : ICode} {K : Kont} {e : Env} {h : Hp} {n : Nat} (hl : Loop F.P F.ct F.N F.n0 c K e h n) : Seam F (.loop c) K e h n := fun c' hc' => by
 obtain ⟨a', rfl, ha⟩ := inv_loop hc'
 exact hl a' ha
theorem Seam.condT {F : Fx} {o : Opd} {a b : ICode} {K : Kont} {e : Env} {h : Hp} {n : Nat} (he : o.ev e h = some (.b true)) (hs : Seam F a K e h n) : Seam F (.cond o a b) K e h n := fun c' hc' => by
 obtain ⟨y, a', b', rfl, hy, hg, ha, hb⟩ := inv_cond hc'
 exact WP.cond hy hg he (hs a' ha)
theorem FzVs.app {x y : AV} : ∀ {a a' b b' : List AV}, FzVs x y a a' → FzVs x y b b' → FzVs x y (a ++ b) (a' ++ b')
 | [], [], _, _, _, h => h
 | _ :: _, _ :: _, _, _, h1, h2 => ⟨h1.1, FzVs.app h1.2 h2⟩
end Go.Ab
end
