/- Texts laid as one: AbExec AbExec2 AbPure. -/
import Derived.Test.YtlokbfkdgnopeaaGreatDoorAbSimps
section
/- The abstract layer, part 23: running closed code by computation. -/
namespace Go.Ab
set_option linter.unusedVariables false
set_option linter.unusedSimpArgs false
inductive XE where
 | n
 | x (i : Nat)
 | r
def kdEq : IntKind → IntKind → Bool
 | .i8, .i8 => true
 | .i16, .i16 => true
 | .i32, .i32 => true
 | .i64, .i64 => true
 | .u8, .u8 => true
 | .u16, .u16 => true
 | .u32, .u32 => true
 | .u64, .u64 => true
 | _, _ => false
mutual
def AV.same : AV → AV → Bool
 | .b x, .b y => x == y
 | .i k x, .i j y => kdEq k j && x == y
 | .s x, .s y => x == y
 | .np, .np => true
 | .p b o, .p c q => Nat.beq b c && Nat.beq o q
 | .ns, .ns => true
 | .sl b o l c, .sl b' o' l' c' => Nat.beq b b' && Nat.beq o o' && Nat.beq l l' && Nat.beq c c'
 | .sg b o l, .sg b' o' l' => Nat.beq b b' && Nat.beq o o' && Nat.beq l l'
 | .fn f l, .fn g m => Nat.beq f g && sameL l m
 | .bm f l, .bm g m => Nat.beq f g && sameL l m
 | .nf, .nf => true
 | .ni, .ni => true
 | .agg l, .agg m => sameL l m
 | .tup l, .tup m => sameL l m
 | .fz l a, .fz m b => Nat.beq a b && sameL l m
 | .fp l a, .fp m b => Nat.beq a b && sameL l m
 | .ze, .ze => true
 | .en, .en => true
 | .any, .any => true
 | _, _ => false
def sameL : List AV → List AV → Bool
 | [], [] => true
 | x :: l, y :: m => x.same y && sameL l m
 | _, _ => false
end
def onEq : Option Nat → Option Nat → Bool
 | none, none => true
 | some a, some b => Nat.beq a b
 | _, _ => false
def roSame (h0 : Hp) (n0 b : Nat) (k : Blk) : Bool :=
 match k.ro with
 | false => true
 | true => Nat.blt b n0 && (match hget h0 b with
  | some j => j.ro && sameL j.cells k.cells && onEq j.gr k.gr && onEq j.gid k.gid
  | none => false)
def hOK (h0 : Hp) (n0 n : Nat) : Hp → Bool
 | [] => true
 | (b, k) :: r => Nat.blt b n && belL n k.cells && roSame h0 n0 b k && hOK h0 n0 n r
def iget : List (Nat × IFn) → Nat → Option IFn
 | [], _ => none
 | (g, I) :: r, f => bif Nat.beq g f then some I else iget r f
end Go.Ab
end
section
/- The abstract layer, part 24: running closed code by computation is sound. -/
namespace Go.Ab
set_option linter.unusedVariables false
set_option linter.unusedSimpArgs false
section
variable {P : Program} {N n0 : Nat}
theorem WP.seq {a b : Code} {K : Kont} {e : Env} {h : Hp} {n : Nat} (hw : WP P N n0 a (thenK K fun e h n => WP P N n0 b K e h n) e h n) : WP P N n0 (.seq a b) K e h n := by
 intro ro hro B D0 φ0 H0 w0 h1 h2 D φ a w hR hS
 refine wpIn_seq (wpIn_mono (hw ro (hro.imp _root_.id (fun h => by simp only [noRF, Bool.and_eq_true] at h; exact h.1)) B D0 φ0 H0 w0 h1 h2 D φ a w hR hS) (fun ex a' w' hp => ?_))
 obtain ⟨D', φ', e', h', n', hk, hn', hR', hS'⟩ := hp
 cases ex with
 | normal => exact hk ro (hro.imp _root_.id (fun h => by simp only [noRF, Bool.and_eq_true] at h; exact h.2)) B D0 φ0 H0 w0 h1 hn' D' φ' a' w' hR' hS'
 | exit id => exact ⟨D', φ', e', h', n', hk, hn', hR', hS'⟩
 | goto l => exact ⟨D', φ', e', h', n', hk, hn', hR', hS'⟩
 | ret => exact ⟨D', φ', e', h', n', hk, hn', hR', hS'⟩
 | panic ch => exact ⟨D', φ', e', h', n', hk, hn', hR', hS'⟩
 | outgrown => exact ⟨D', φ', e', h', n', hk, hn', hR', hS'⟩
theorem WP.scope {c : Code} {K : Kont} {e : Env} {h : Hp} {n : Nat} (hw : WP P N n0 c (scopeK K) e h n) : WP P N n0 (.scope c) K e h n := by
 intro ro hro B D0 φ0 H0 w0 h1 h2 D φ a w hR hS
 refine wpIn_scope_straight (wpIn_mono (hw ro hro B D0 φ0 H0 w0 h1 h2 D φ a w hR hS) (fun ex a' w' hp => ?_))
 obtain ⟨D', φ', e', h', n', hk, hn', hR', hS'⟩ := hp
 cases ex with
 | goto l => exact hk.elim
 | _ => exact ⟨D', φ', e', h', n', hk, hn', hR', hS'⟩
theorem WP.block {c : Code} {id : Nat} {K : Kont} {e : Env} {h : Hp} {n : Nat} (hw : WP P N n0 c (blockK id K) e h n) : WP P N n0 (.block id c) K e h n := by
 intro ro hro B D0 φ0 H0 w0 h1 h2 D φ a w hR hS
 refine wpIn_block (wpIn_mono (hw ro hro B D0 φ0 H0 w0 h1 h2 D φ a w hR hS) (fun ex a' w' hp => ?_))
 obtain ⟨D', φ', e', h', n', hk, hn', hR', hS'⟩ := hp
 cases ex with
 | exit i =>
  simp only [blockK] at hk
  simp only [Exit.inBlock]
  split
  · rename_i hid; rw [if_pos hid] at hk; exact ⟨D', φ', e', h', n', hk, hn', hR', hS'⟩
  · rename_i hid; rw [if_neg hid] at hk; exact ⟨D', φ', e', h', n', hk, hn', hR', hS'⟩
 | normal => exact ⟨D', φ', e', h', n', hk, hn', hR', hS'⟩
 | goto l => exact ⟨D', φ', e', h', n', hk, hn', hR', hS'⟩
 | ret => exact ⟨D', φ', e', h', n', hk, hn', hR', hS'⟩
 | panic ch => exact ⟨D', φ', e', h', n', hk, hn', hR', hS'⟩
 | outgrown => exact ⟨D', φ', e', h', n', hk, hn', hR', hS'⟩
theorem WP.cond {c : Operand} {x : Opd} {a b : Code} {K : Kont} {e : Env} {h : Hp} {n : Nat} {v : Bool} (hc : cO c = some x) (hg : ∀ g, x ≠ .g g) (hv : x.ev e h = some (.b v))
 (hw : match v with | true => WP P N n0 a K e h n | false => WP P N n0 b K e h n) : WP P N n0 (.cond c a b) K e h n := by
 intro ro hro B D0 φ0 H0 w0 h1 h2 D φ a w hR hS
 have hvr : VRel D φ (.b v) (a.eval c) := opd_rel (fun t v _ hv => hR.env t v hv) hc (fun g hgg => by subst hgg; simp only [cO, Option.some.injEq] at hc; exact hg g hc.symm) hv
 generalize hu : a.eval c = u at hvr
 cases hvr
 cases v
 · exact wpIn_cond_false hu (hw ro (hro.imp _root_.id (fun h => by simp only [noRF, Bool.and_eq_true] at h; exact h.2)) B D0 φ0 H0 w0 h1 h2 D φ a w hR hS)
 · exact wpIn_cond_true hu (hw ro (hro.imp _root_.id (fun h => by simp only [noRF, Bool.and_eq_true] at h; exact h.1)) B D0 φ0 H0 w0 h1 h2 D φ a w hR hS)
end
section
variable {P : Program} {ct : List Nat} {N : Nat}
theorem inv_seq {c : Code} {a b : ICode} (h : compC P ct N c = .seq a b) : ∃ a' b', c = .seq a' b' ∧ compC P ct N a' = a ∧ compC P ct N b' = b := by
 cases c with
 | seq a' b' => simp only [compC, ICode.seq.injEq] at h; exact ⟨a', b', rfl, h.1, h.2⟩
 | region id ops draw => simp only [compC] at h; split at h <;> (try split at h) <;> cases h
 | cond x y z => simp only [compC] at h; split at h <;> cases h
 | rangeFunc g ps x y => simp only [compC] at h; split at h <;> cases h
 | _ => simp [compC] at h
theorem inv_block {c : Code} {id : Nat} {a : ICode} (h : compC P ct N c = .block id a) : ∃ a', c = .block id a' ∧ compC P ct N a' = a := by
 cases c with
 | block i a' => simp only [compC, ICode.block.injEq] at h; obtain ⟨rfl, h⟩ := h; exact ⟨a', rfl, h⟩
 | region id ops draw => simp only [compC] at h; split at h <;> (try split at h) <;> cases h
 | cond x y z => simp only [compC] at h; split at h <;> cases h
 | rangeFunc g ps x y => simp only [compC] at h; split at h <;> cases h
 | _ => simp [compC] at h
theorem inv_loop {c : Code} {a : ICode} (h : compC P ct N c = .loop a) : ∃ a', c = .loop a' ∧ compC P ct N a' = a := by
 cases c with
 | loop a' => simp only [compC, ICode.loop.injEq] at h; exact ⟨a', rfl, h⟩
 | region id ops draw => simp only [compC] at h; split at h <;> (try split at h) <;> cases h
 | cond x y z => simp only [compC] at h; split at h <;> cases h
 | rangeFunc g ps x y => simp only [compC] at h; split at h <;> cases h
 | _ => simp [compC] at h
theorem inv_cond {c : Code} {x : Opd} {a b : ICode} (h : compC P ct N c = .cond x a b) : ∃ y a' b', c = .cond y a' b' ∧ cO y = some x ∧ (∀ g, x ≠ .g g) ∧ compC P ct N a' = a ∧ compC P ct N b' = b := by
 cases c with
 | cond y a' b' =>
  simp only [compC] at h
  split at h
  · cases h
  · rename_i x' hng hc
    simp only [ICode.cond.injEq] at h
    obtain ⟨rfl, h1, h2⟩ := h
    exact ⟨y, a', b', rfl, hc, fun g hg => hng g hg, h1, h2⟩
  · cases h
 | region id ops draw => simp only [compC] at h; split at h <;> (try split at h) <;> cases h
 | rangeFunc g ps x y => simp only [compC] at h; split at h <;> cases h
 | _ => simp [compC] at h
end
def Valid (P : Program) (T : List (Nat × IFn)) : Prop := ∀ f I, iget T f = some I → ∃ fn, P.funcs[f]? = some fn ∧ compF P fn = some I ∧ callable P f = true
theorem Valid.nil {P : Program} : Valid P [] := fun f I h => by cases h
theorem Valid.cons {P : Program} {T : List (Nat × IFn)} {f : Nat} {I : IFn} {fn : Func} (h1 : P.funcs[f]? = some fn) (h2 : compF P fn = some I) (h3 : callable P f = true) (h : Valid P T) : Valid P ((f, I) :: T) := fun g J hg => by
 simp only [iget] at hg
 cases hfg : Nat.beq f g
 · rw [hfg] at hg; exact h g J hg
 · rw [hfg] at hg
   have := Nat.eq_of_beq_eq_true hfg
   subst this
   simp only [cond_true, Option.some.injEq] at hg
   subst hg
   exact ⟨fn, h1, h2, h3⟩
end Go.Ab
end
section
/- The abstract layer, part 25: functions that hand out a plain value. -/
namespace Go.Ab
set_option linter.unusedVariables false
mutual
theorem AV.bel_mono0 {m : Nat} : ∀ v : AV, v.bel 0 = true → v.bel m = true
 | .p b o, h => by simp [AV.bel, Nat.blt] at h
 | .sl b o l c, h => by simp [AV.bel, Nat.blt] at h
 | .sg b o l, h => by simp [AV.bel, Nat.blt] at h
 | .fn f l, h => belL_mono0 l h
 | .bm f l, h => belL_mono0 l h
 | .agg l, h => belL_mono0 l h
 | .tup l, h => belL_mono0 l h
 | .b x, _ => rfl
 | .i k n, _ => rfl
 | .s l, _ => rfl
 | .np, _ => rfl
 | .ns, _ => rfl
 | .nf, _ => rfl
 | .ni, _ => rfl
 | .fz l _, h => belL_mono0 l h
 | .fp l _, h => belL_mono0 l h
 | .ze, _ => rfl
 | .en, _ => rfl
 | .any, _ => rfl
 | .k _ _, _ => rfl
 | .yl _ _ _ l, h => belL_mono0 l h
theorem belL_mono0 {m : Nat} : ∀ l : List AV, belL 0 l = true → belL m l = true
 | [], _ => rfl
 | v :: r, h => by
  simp only [belL, Bool.and_eq_true] at h ⊢
  exact ⟨AV.bel_mono0 v h.1, belL_mono0 r h.2⟩
end
end Go.Ab
end
