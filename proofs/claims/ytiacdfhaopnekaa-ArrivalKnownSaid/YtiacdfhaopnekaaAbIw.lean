/- The abstract layer, part 18: whole bodies; loops; weakening. -/
import Derived.Test.YtiacdfhaopnekaaAbDraw2
import Derived.Scope
namespace Go.Ab
set_option linter.unusedVariables false
set_option linter.unusedSimpArgs false

/-- Temporaries that are tested by the code. -/
def condTmps : Code → List Nat
  | .cond (.tmp t) a b => t :: (condTmps a ++ condTmps b)
  | .cond _ a b => condTmps a ++ condTmps b
  | .seq a b => condTmps a ++ condTmps b
  | .block _ c => condTmps c
  | .loop c => condTmps c
  | .scope c => condTmps c
  | _ => []

def compC (P : Program) (ct : List Nat) (N : Nat) : Code → ICode
  | .skip => .skip
  | .region _ ops draw =>
    let l := ops.toList
    let sp := guardTmps l ++ ct
    if dstOK N l && guardOK l && (!draw || (globOK l && drawOK ops)) then
      (if draw then .dreg (List.zip (l.map (compOper P l sp)) (uns ops)) else .reg (l.map (compOper P l sp)))
    else .bad
  | .seq a b => .seq (compC P ct N a) (compC P ct N b)
  | .cond c a b => match cO c with
    | some (.g _) => .bad
    | some x => .cond x (compC P ct N a) (compC P ct N b)
    | none => .bad
  | .block id c => .block id (compC P ct N c)
  | .loop c => .loop (compC P ct N c)
  | .scope c => .scope (compC P ct N c)
  | .label _ => .skip
  | .exit id => .exit id
  | .ret => .ret
  | _ => .bad

/-- A loop, met from a state. -/
def Loop (P : Program) (ct : List Nat) (N n0 : Nat) (c : ICode) (K : Kont) (e : Env) (h : Hp) (n : Nat) : Prop :=
  ∀ c', compC P ct N c' = c → WP P N n0 (.loop c') K e h n

structure Fx where
  P : Program
  cx : Cx
  ct : List Nat
  N : Nat
  n0 : Nat

def thenK (K : Kont) (k : Env → Hp → Nat → Prop) : Kont := fun ex e h n =>
  match ex with
  | .normal => k e h n
  | ex => K ex e h n

def blockK (id : Nat) (K : Kont) : Kont := fun ex e h n =>
  match ex with
  | .exit i => if i = id then K .normal e h n else K (.exit i) e h n
  | ex => K ex e h n

/-- A scope: no jump comes out of it. -/
def scopeK (K : Kont) : Kont := fun ex e h n =>
  match ex with
  | .goto _ => False
  | ex => K ex e h n

def iw (F : Fx) : ICode → Kont → Env → Hp → Nat → Prop
  | .skip, K, e, h, n => K .normal e h n
  | .reg ops, K, e, h, n => runOps F.cx ops e h n (fun e h n => K .normal e h n)
  | .dreg ops, K, e, h, n => runD F.cx ops 0 [] e h n (fun e h n => K .normal e h n)
  | .seq a b, K, e, h, n => iw F a (thenK K (iw F b K)) e h n
  | .cond c a b, K, e, h, n => gd (c.ev e h) fun v => match v with
    | .b x => spB x (iw F a K e h n) (iw F b K e h n)
    | _ => False
  | .block id c, K, e, h, n => iw F c (blockK id K) e h n
  | .loop c, K, e, h, n => Loop F.P F.ct F.N F.n0 c K e h n
  | .scope c, K, e, h, n => iw F c (scopeK K) e h n
  | .exit id, K, e, h, n => K (.exit id) e h n
  | .ret, K, e, h, n => K .ret e h n
  | .bad, _, _, _, _ => False

theorem PostK.mono {N n0 : Nat} {D0 : Nat → Prop} {φ0 : Phi} {H0 : Hf} {w0 : World} {K K' : Kont} (hk : ∀ ex e h n, K ex e h n → K' ex e h n) {ex : Exit} {a : Act} {w : World} (h : PostK N n0 D0 φ0 H0 w0 K ex a w) :
    PostK N n0 D0 φ0 H0 w0 K' ex a w :=
  let ⟨D, φ, e, h', n, h1, h2⟩ := h; ⟨D, φ, e, h', n, hk _ _ _ _ h1, h2⟩

theorem WP.mono {P : Program} {N n0 : Nat} {c : Code} {K K' : Kont} {e : Env} {h : Hp} {n : Nat} (hk : ∀ ex e h n, K ex e h n → K' ex e h n) (hw : WP P N n0 c K e h n) : WP P N n0 c K' e h n :=
  fun D0 φ0 H0 w0 h1 h2 D φ a w hR hS => wp_mono (hw D0 φ0 H0 w0 h1 h2 D φ a w hR hS) (fun ex a' w' hp => hp.mono hk)

theorem gOK_HR {D : Nat → Prop} {φ : Phi} {h : Hp} {w : World} : True := trivial

/-- Sequential regions may name package variables, where each names one block of the list. -/
def gl1 (h : Hp) : Prop := ∀ g c k, (c, k) ∈ h → k.gid = some g → hget h c = some k

theorem iw_sound (F : Fx) (hcx : Sound F.P F.cx) (hm : F.P.follows .mixedOrders = true) : ∀ (c : Code) (K : Kont) (e : Env) (h : Hp) (n : Nat), iw F (compC F.P F.ct F.N c) K e h n → WP F.P F.N F.n0 c K e h n := by
  intro c
  induction c with
  | skip => intro K e h n hi D0 φ0 H0 w0 h1 h2 D φ a w hR hS; exact wp_skip ⟨D, φ, e, h, n, hi, h2, hR, hS⟩
  | region id ops draw =>
    intro K e h n hi D0 φ0 H0 w0 h1 h2 D φ a w hR hS
    simp only [compC] at hi
    split at hi
    · rename_i hc
      simp only [Bool.and_eq_true, Bool.or_eq_true, Bool.not_eq_true'] at hc
      obtain ⟨⟨hc1, hc2⟩, hc4⟩ := hc
      cases draw
      · simp only [Bool.false_eq_true, if_false, iw] at hi
        exact wp_region_list (runOps_sound hcx h1 hc2 ops.toList (fun o ho => ho) hc1 e h n D φ a w h2 hi hR hS)
      · simp only [if_true, iw] at hi
        exact runD_sound hcx hm h1 hc2 hc1 (hc4.resolve_left (by simp)).1 (hc4.resolve_left (by simp)).2 h2 hi hR hS
    · exact hi.elim
  | seq x y ihx ihy =>
    intro K e h n hi D0 φ0 H0 w0 h1 h2 D φ a w hR hS
    simp only [compC, iw] at hi
    refine wp_seq (wp_mono (ihx _ e h n hi D0 φ0 H0 w0 h1 h2 D φ a w hR hS) (fun ex a' w' hp => ?_))
    obtain ⟨D', φ', e', h', n', hk, hn', hR', hS'⟩ := hp
    cases ex with
    | normal => exact ihy K e' h' n' hk D0 φ0 H0 w0 h1 hn' D' φ' a' w' hR' hS'
    | exit id => exact ⟨D', φ', e', h', n', hk, hn', hR', hS'⟩
    | goto l => exact ⟨D', φ', e', h', n', hk, hn', hR', hS'⟩
    | ret => exact ⟨D', φ', e', h', n', hk, hn', hR', hS'⟩
    | panic ch => exact ⟨D', φ', e', h', n', hk, hn', hR', hS'⟩
    | outgrown => exact ⟨D', φ', e', h', n', hk, hn', hR', hS'⟩
  | cond c x y ihx ihy =>
    intro K e h n hi D0 φ0 H0 w0 h1 h2 D φ a w hR hS
    simp only [compC] at hi
    split at hi
    · exact hi.elim
    · rename_i x' hng hc
      simp only [iw] at hi
      obtain ⟨v, hv, hi⟩ := gd_elim hi
      split at hi
      · rename_i b
        have hvr : VRel D φ (.b b) (a.eval c) := opd_rel (fun t v _ hv => hR.env t v hv) hc (fun g hg => by subst hg; simp only [cO, Option.some.injEq] at hc; exact hng g hc.symm) hv
        generalize hu : a.eval c = u at hvr
        cases hvr
        cases b
        · exact wp_cond_false hu (ihy K e h n (hi.2 rfl) D0 φ0 H0 w0 h1 h2 D φ a w hR hS)
        · exact wp_cond_true hu (ihx K e h n (hi.1 rfl) D0 φ0 H0 w0 h1 h2 D φ a w hR hS)
      · exact hi.elim
    · exact hi.elim
  | block id c ih =>
    intro K e h n hi D0 φ0 H0 w0 h1 h2 D φ a w hR hS
    simp only [compC, iw] at hi
    refine wp_block (wp_mono (ih _ e h n hi D0 φ0 H0 w0 h1 h2 D φ a w hR hS) (fun ex a' w' hp => ?_))
    obtain ⟨D', φ', e', h', n', hk, hn', hR', hS'⟩ := hp
    cases ex with
    | exit i =>
      simp only [blockK] at hk
      simp only [Exit.inBlock]
      split
      · rename_i hid; rw [if_pos hid] at hk; exact ⟨D', φ', e', h', n', hk, hn', hR', hS'⟩
      · rename_i hid; rw [if_neg hid] at hk; exact ⟨D', φ', e', h', n', hk, hn', hR', hS'⟩
    | normal => exact ⟨D', φ', e', h', n', hk, hn', hR', hS'⟩
    | goto l => exact ⟨D', φ', e', h', n', hk, hn', hR', hS'⟩
    | ret => exact ⟨D', φ', e', h', n', hk, hn', hR', hS'⟩
    | panic ch => exact ⟨D', φ', e', h', n', hk, hn', hR', hS'⟩
    | outgrown => exact ⟨D', φ', e', h', n', hk, hn', hR', hS'⟩
  | loop c ih => intro K e h n hi; simp only [compC, iw] at hi; exact hi c rfl
  | scope c ih =>
    intro K e h n hi D0 φ0 H0 w0 h1 h2 D φ a w hR hS
    simp only [compC, iw] at hi
    refine wp_scope_straight (wp_mono (ih _ e h n hi D0 φ0 H0 w0 h1 h2 D φ a w hR hS) (fun ex a' w' hp => ?_))
    obtain ⟨D', φ', e', h', n', hk, hn', hR', hS'⟩ := hp
    cases ex with
    | goto l => exact hk.elim
    | _ => exact ⟨D', φ', e', h', n', hk, hn', hR', hS'⟩
  | label l => intro K e h n hi D0 φ0 H0 w0 h1 h2 D φ a w hR hS; exact wp_label ⟨D, φ, e, h, n, hi, h2, hR, hS⟩
  | exit id => intro K e h n hi D0 φ0 H0 w0 h1 h2 D φ a w hR hS; exact wp_exit ⟨D, φ, e, h, n, hi, h2, hR, hS⟩
  | ret => intro K e h n hi D0 φ0 H0 w0 h1 h2 D φ a w hR hS; exact wp_ret ⟨D, φ, e, h, n, hi, h2, hR, hS⟩
  | _ => intro K e h n hi; exact hi.elim

/-! ### renaming and forgetting -/

mutual
def AV.ren (ψ : Nat → Nat) : AV → AV
  | .p b o => .p (ψ b) o
  | .sl b o l c => .sl (ψ b) o l c
  | .sg b o l => .sg (ψ b) o l
  | .fn f l => .fn f (renL ψ l)
  | .agg l => .agg (renL ψ l)
  | .tup l => .tup (renL ψ l)
  | .b x => .b x
  | .i k n => .i k n
  | .s l => .s l
  | .np => .np
  | .ns => .ns
  | .nf => .nf
  | .ni => .ni
def renL (ψ : Nat → Nat) : List AV → List AV
  | [] => []
  | v :: r => v.ren ψ :: renL ψ r
end

mutual
def AV.bel (m : Nat) : AV → Bool
  | .p b _ => Nat.blt b m
  | .sl b _ _ _ => Nat.blt b m
  | .sg b _ _ => Nat.blt b m
  | .fn _ l => belL m l
  | .agg l => belL m l
  | .tup l => belL m l
  | .b _ => true
  | .i _ _ => true
  | .s _ => true
  | .np => true
  | .ns => true
  | .nf => true
  | .ni => true
def belL (m : Nat) : List AV → Bool
  | [] => true
  | v :: r => v.bel m && belL m r
end

theorem blt_lt {a b : Nat} (h : Nat.blt a b = true) : a < b := by rw [Nat.blt_eq] at h; exact h

theorem renL_eq (ψ : Nat → Nat) : ∀ l, renL ψ l = l.map (AV.ren ψ)
  | [] => rfl
  | v :: r => by simp [renL, renL_eq ψ r]

theorem belL_spec {m : Nat} : ∀ {l : List AV}, belL m l = true → ∀ v ∈ l, v.bel m = true
  | [], _, v, hv => by cases hv
  | x :: r, h, v, hv => by
    simp only [belL, Bool.and_eq_true] at h
    rcases List.mem_cons.1 hv with rfl | hv
    · exact h.1
    · exact belL_spec h.2 v hv

theorem belL_of {m : Nat} : ∀ {l : List AV}, (∀ v ∈ l, v.bel m = true) → belL m l = true
  | [], _ => rfl
  | x :: r, h => by
    simp only [belL, Bool.and_eq_true]
    exact ⟨h x (List.mem_cons_self), belL_of (fun v hv => h v (List.mem_cons_of_mem _ hv))⟩

def Phi.comp (φ : Phi) (ψ : Nat → Nat) : Phi where
  blk b := φ.blk (ψ b)
  off b := φ.off (ψ b)
  cap b := φ.cap (ψ b)
  esz b := φ.esz (ψ b)

/-- A renamed value, read back. -/
theorem VRel.unren {D : Nat → Prop} {φ : Phi} {ψ : Nat → Nat} {m : Nat} {v' : AV} {u : Value} (h : VRel D φ v' u) : ∀ v : AV, v' = v.ren ψ → v.bel m = true → VRel (fun b => b < m ∧ D (ψ b)) (φ.comp ψ) v u := by
  induction h with
  | b x => intro v hv hb; cases v <;> simp [AV.ren] at hv; subst hv; exact .b _
  | i k n => intro v hv hb; cases v <;> simp [AV.ren] at hv; obtain ⟨rfl, rfl⟩ := hv; exact .i _ _
  | s l => intro v hv hb; cases v <;> simp [AV.ren] at hv; subst hv; exact .s _
  | np => intro v hv hb; cases v <;> simp [AV.ren] at hv; exact .np
  | p b o h =>
    intro v hv hb; cases v <;> simp [AV.ren] at hv
    obtain ⟨rfl, rfl⟩ := hv
    exact .p _ _ ⟨blt_lt hb, h⟩
  | ns => intro v hv hb; cases v <;> simp [AV.ren] at hv; exact .ns
  | sl b o len cap h =>
    intro v hv hb; cases v <;> simp [AV.ren] at hv
    obtain ⟨rfl, rfl, rfl, rfl⟩ := hv
    exact .sl _ _ _ _ ⟨blt_lt hb, h⟩
  | sg b o len j cap h hj hc hl =>
    intro v hv hb; cases v <;> simp [AV.ren] at hv
    obtain ⟨rfl, rfl, rfl⟩ := hv
    exact .sg _ _ _ j cap ⟨blt_lt hb, h⟩ hj hc hl
  | fn f l cs hl h ih =>
    intro v hv hb; cases v <;> simp [AV.ren] at hv
    rename_i f' l'
    obtain ⟨rfl, rfl⟩ := hv
    rw [renL_eq] at hl h ih
    refine .fn _ _ cs (by simpa using hl) (fun i a u ha hu => ih i (a.ren ψ) u (by simp [ha]) hu a rfl ?_)
    exact belL_spec hb a (List.mem_of_getElem? ha)
  | nf => intro v hv hb; cases v <;> simp [AV.ren] at hv; exact .nf
  | ni => intro v hv hb; cases v <;> simp [AV.ren] at hv; exact .ni
  | agg l cs hl h ih =>
    intro v hv hb; cases v <;> simp [AV.ren] at hv
    rename_i l'
    subst hv
    rw [renL_eq] at hl h ih
    refine .agg _ cs (by simpa using hl) (fun i a u ha hu => ih i (a.ren ψ) u (by simp [ha]) hu a rfl ?_)
    exact belL_spec hb a (List.mem_of_getElem? ha)
  | tup l cs hl h ih =>
    intro v hv hb; cases v <;> simp [AV.ren] at hv
    rename_i l'
    subst hv
    rw [renL_eq] at hl h ih
    refine .tup _ cs (by simpa using hl) (fun i a u ha hu => ih i (a.ren ψ) u (by simp [ha]) hu a rfl ?_)
    exact belL_spec hb a (List.mem_of_getElem? ha)

/-- .. and renamed again. -/
theorem VRel.ren {D2 : Nat → Prop} {D : Nat → Prop} {φ2 φ : Phi} {ψ : Nat → Nat} {v : AV} {u : Value} (h : VRel D2 φ2 v u) (hD : ∀ b, D2 b → D (ψ b)) (hφ : ∀ b, D2 b → φ2.blk b = φ.blk (ψ b) ∧ φ2.off b = φ.off (ψ b) ∧ φ2.cap b = φ.cap (ψ b) ∧ φ2.esz b = φ.esz (ψ b)) :
    VRel D φ (v.ren ψ) u := by
  induction h with
  | b x => exact .b _
  | i k n => exact .i _ _
  | s l => exact .s _
  | np => exact .np
  | p b o h => obtain ⟨h1, h2, _⟩ := hφ b h; rw [h1, h2]; exact .p _ _ (hD b h)
  | ns => exact .ns
  | sl b o len cap h => obtain ⟨h1, h2, _⟩ := hφ b h; rw [h1, h2]; exact .sl _ _ _ _ (hD b h)
  | sg b o len j cap h hj hc hl => obtain ⟨h1, h2, h3, h4⟩ := hφ b h; rw [h1, h2]; exact .sg _ _ _ j cap (hD b h) (by rw [← h4]; exact hj) (by rw [← h3]; exact hc) hl
  | fn f l cs hl h ih =>
    refine .fn _ _ cs (by rw [renL_eq]; simpa using hl) (fun i a u ha hu => ?_)
    rw [renL_eq, List.getElem?_map, Option.map_eq_some_iff] at ha
    obtain ⟨a', ha', rfl⟩ := ha
    exact ih i a' u ha' hu
  | nf => exact .nf
  | ni => exact .ni
  | agg l cs hl h ih =>
    refine .agg _ cs (by rw [renL_eq]; simpa using hl) (fun i a u ha hu => ?_)
    rw [renL_eq, List.getElem?_map, Option.map_eq_some_iff] at ha
    obtain ⟨a', ha', rfl⟩ := ha
    exact ih i a' u ha' hu
  | tup l cs hl h ih =>
    refine .tup _ cs (by rw [renL_eq]; simpa using hl) (fun i a u ha hu => ?_)
    rw [renL_eq, List.getElem?_map, Option.map_eq_some_iff] at ha
    obtain ⟨a', ha', rfl⟩ := ha
    exact ih i a' u ha' hu

def Blk.ren (ψ : Nat → Nat) (k : Blk) : Blk := { k with cells := renL ψ k.cells }

/-- The state (e, h, n) covers the state (e2, h2, n2), whose names are renamed by ψ. -/
structure Wk (n0 : Nat) (ψ : Nat → Nat) (e : Env) (h : Hp) (n : Nat) (e2 : Env) (h2 : Hp) (n2 : Nat) : Prop where
  n0le : n0 ≤ n2
  fix : ∀ b, b < n0 → ψ b = b
  env : ∀ t v, eget e2 t = some v → eget e t = some (v.ren ψ) ∧ v.bel n2 = true
  heap : ∀ b k, hget h2 b = some k → hget h (ψ b) = some (k.ren ψ) ∧ belL n2 k.cells = true ∧ b < n2
  inj : ∀ b1 b2 k1 k2, hget h2 b1 = some k1 → hget h2 b2 = some k2 → k1.ro = false → ψ b1 = ψ b2 → b1 = b2

theorem Rel.weaken {D : Nat → Prop} {φ : Phi} {ψ : Nat → Nat} {n0 n n2 N : Nat} {e e2 : Env} {h h2 : Hp} {a : Act} {w : World} {D0 : Nat → Prop} {φ0 : Phi} {H0 : Hf} {w0 : World} (hW : Wk n0 ψ e h n e2 h2 n2) (hn0 : ∀ b, D0 b → b < n0)
    (hR : Rel D φ e h n N a w) (hS : Stp D0 φ0 H0 w0 D φ (hget h) w) :
    Rel (fun b => b < n2 ∧ D (ψ b)) (φ.comp ψ) e2 h2 n2 N a w ∧ Stp D0 φ0 H0 w0 (fun b => b < n2 ∧ D (ψ b)) (φ.comp ψ) (hget h2) w := by
  have hheap : HR (fun b => b < n2 ∧ D (ψ b)) (φ.comp ψ) (hget h2) w := by
    refine ⟨fun b k hb => ?_, fun b1 b2 k1 k2 hne h1 h2' hk => ?_⟩
    · obtain ⟨g1, g2, g3⟩ := hW.heap b k hb
      obtain ⟨hd, ⟨⟨cs, elem, fr, q1, q2, q3, q4⟩, q5⟩⟩ := hR.heap.at_ (ψ b) _ g1
      refine ⟨⟨g3, hd⟩, ⟨⟨cs, elem, fr, q1, fun i v hv => ?_, q3, q4⟩, q5⟩⟩
      obtain ⟨u, hu, hr⟩ := q2 i (v.ren ψ) (by simp [Blk.ren, renL_eq, hv])
      exact ⟨u, hu, hr.unren v rfl (belL_spec g2 v (List.mem_of_getElem? hv))⟩
    · obtain ⟨g1, _, _⟩ := hW.heap b1 k1 h1
      obtain ⟨g2, _, _⟩ := hW.heap b2 k2 h2'
      exact hR.heap.sep (ψ b1) (ψ b2) _ _ (fun e => hne (hW.inj b1 b2 k1 k2 h1 h2' hk e)) g1 g2 hk
  refine ⟨⟨fun b hb => hb.1, fun t v hv => ?_, hheap, hR.size, hR.defers⟩, ⟨fun b hb => ?_, fun b hb => ?_, hheap, hS.frm, fun b k hb hk => ?_⟩⟩
  · obtain ⟨g1, g2⟩ := hW.env t v hv
    exact (hR.env t _ g1).unren v rfl g2
  · have := hn0 b hb
    exact ⟨Nat.lt_of_lt_of_le this hW.n0le, by rw [hW.fix b this]; exact hS.sub b hb⟩
  · have := hn0 b hb
    simp only [Phi.comp, hW.fix b this]
    exact hS.agree b hb
  · obtain ⟨g1, _, _⟩ := hW.heap b k hb
    exact hS.img (ψ b) _ g1 hk

theorem WP.weaken {P : Program} {N n0 : Nat} {c : Code} {K : Kont} {ψ : Nat → Nat} {e e2 : Env} {h h2 : Hp} {n n2 : Nat} (hW : Wk n0 ψ e h n e2 h2 n2) (hw : WP P N n0 c K e2 h2 n2) : WP P N n0 c K e h n :=
  fun D0 φ0 H0 w0 h1 h2 D φ a w hR hS =>
    let ⟨hR', hS'⟩ := Rel.weaken hW h1 hR hS
    hw D0 φ0 H0 w0 h1 hW.n0le _ _ a w hR' hS'

/-- A loop, by what holds at the head of each round (x: whatever that hangs on). -/
theorem Loop.inv {F : Fx} (hcx : Sound F.P F.cx) (hm : F.P.follows .mixedOrders = true) {c : ICode} {K : Kont} {X : Type} (I : X → Env × Hp × Nat) (μ : X → Nat) {e : Env} {h : Hp} {n : Nat} (x0 : X) (ψ0 : Nat → Nat)
    (h0 : Wk F.n0 ψ0 e h n (I x0).1 (I x0).2.1 (I x0).2.2)
    (round : ∀ x, iw F c (thenK K fun e' h' n' => ∃ x' ψ, Wk F.n0 ψ e' h' n' (I x').1 (I x').2.1 (I x').2.2 ∧ μ x' < μ x) (I x).1 (I x).2.1 (I x).2.2) :
    Loop F.P F.ct F.N F.n0 c K e h n := by
  intro c' hc'
  have hround : ∀ x, WP F.P F.N F.n0 c' (thenK K fun e' h' n' => ∃ x' ψ, Wk F.n0 ψ e' h' n' (I x').1 (I x').2.1 (I x').2.2 ∧ μ x' < μ x) (I x).1 (I x).2.1 (I x).2.2 := fun x =>
    iw_sound F hcx hm c' _ _ _ _ (by rw [hc']; exact round x)
  intro D0 φ0 H0 w0 h1 h2 D φ a w hR hS
  intro b k cs
  have key : ∀ m x, μ x = m → ∀ D φ a w, Rel D φ (I x).1 (I x).2.1 (I x).2.2 F.N a w → Stp D0 φ0 H0 w0 D φ (hget (I x).2.1) w → F.n0 ≤ (I x).2.2 →
      ∃ ex a' w', PostK F.N F.n0 D0 φ0 H0 w0 K ex a' w' ∧ Arrives F.P (lone (b.at a (.code c' :: .inLoop c' :: k)) cs w) b k cs ex a' w' := by
    intro m
    induction m using Nat.strongRecOn with
    | _ m ih =>
      intro x hx D φ a w hR hS hn
      obtain ⟨ex, a1, w1, hq, harr⟩ := hround x D0 φ0 H0 w0 h1 hn D φ a w hR hS b (.inLoop c' :: k) cs
      obtain ⟨D', φ', e', h', n', hk, hn', hR', hS'⟩ := hq
      cases ex with
      | normal =>
        obtain ⟨x', ψ, hW, hlt⟩ := hk
        obtain ⟨hR2, hS2⟩ := Rel.weaken hW h1 hR' hS'
        obtain ⟨e2, a2, w2, hq2, harr2⟩ := ih (μ x') (hx ▸ hlt) x' rfl _ _ a1 w1 hR2 hS2 hW.n0le
        exact ⟨e2, a2, w2, hq2, .of_steps (Steps.trans harr (.one step_inLoop)) harr2⟩
      | exit id => exact ⟨_, a1, w1, ⟨D', φ', e', h', n', hk, hn', hR', hS'⟩, .pass (x := .inLoop c') rfl (fun _ _ => .inl (by simp)) harr⟩
      | goto l => exact ⟨_, a1, w1, ⟨D', φ', e', h', n', hk, hn', hR', hS'⟩, .pass (x := .inLoop c') rfl (fun _ _ => .inl (by simp)) harr⟩
      | ret => exact ⟨_, a1, w1, ⟨D', φ', e', h', n', hk, hn', hR', hS'⟩, .pass (x := .inLoop c') rfl (fun _ _ => .inl (by simp)) harr⟩
      | panic ch => exact ⟨_, a1, w1, ⟨D', φ', e', h', n', hk, hn', hR', hS'⟩, .pass (x := .inLoop c') rfl (fun _ _ => .inl (by simp)) harr⟩
      | outgrown => exact ⟨_, a1, w1, ⟨D', φ', e', h', n', hk, hn', hR', hS'⟩, .pass (x := .inLoop c') rfl (fun _ _ => .inl (by simp)) harr⟩
  obtain ⟨hR', hS'⟩ := Rel.weaken h0 h1 hR hS
  obtain ⟨ex, a', w', hq, harr⟩ := key (μ x0) x0 rfl _ _ a w hR' hS' h0.n0le
  exact ⟨ex, a', w', hq, .of_steps (.one step_loop) harr⟩

end Go.Ab
