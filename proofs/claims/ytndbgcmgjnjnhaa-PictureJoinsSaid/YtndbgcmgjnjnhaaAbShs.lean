/- Texts laid as one: AbSh AbShC AbGen AbSh2 AbSh3 AbSh4 AbSh5 AbSh6 AbGq AbCut AbSeam AbForm. -/
import Derived.Test.YtndbgcmgjnjnhaaAbRead
import Derived.Test.YtndbgcmgjnjnhaaAbExecs
section
/- The abstract layer, part 41: slices of plain rows whose form is left open; calls and loops that hand them on. -/
namespace Go.Ab
set_option linter.unusedVariables false
set_option linter.unusedSimpArgs false
inductive Sh where
 | nil
 | sl (k : Blk) (o len cap : Nat)
 | sg (k : Blk) (o len : Nat)
def Sh.v : Sh → Nat → AV
 | .nil, _ => .ns
 | .sl _ o len cap, b => .sl b o len cap
 | .sg _ o len, b => .sg b o len
def Sh.h : Sh → Nat → Hp
 | .nil, _ => []
 | .sl k _ _ _, b => [(b, k)]
 | .sg k _ _, b => [(b, k)]
def Sh.bl : Sh → Nat → List Nat
 | .nil, _ => []
 | .sl _ _ _ _, b => [b]
 | .sg _ _ _, b => [b]
def Sh.len : Sh → Nat
 | .nil => 0
 | .sl _ _ len _ => len
 | .sg _ _ len => len
def Sh.cs (z : Nat) : Sh → List AV
 | .nil => []
 | .sl k o len _ => cellsAt k.cells o (len * z)
 | .sg k o len => cellsAt k.cells o (len * z)
def Sh.plain : Sh → Bool
 | .nil => true
 | .sl k _ _ _ => belL 0 k.cells
 | .sg k _ _ => belL 0 k.cells
structure Sh.is {α : Type} (f : α → List AV) (z : Nat) (s : Sh) (l : List α) : Prop where
 pl : s.plain = true
 ln : s.len = l.length
 cs : s.cs z = rows f l
def shAt : AV → Hp → Option Sh
 | .ns, _ => some .nil
 | .sl b o len cap, h => (hget h b).map fun k => .sl k o len cap
 | .sg b o len, h => (hget h b).map fun k => .sg k o len
 | _, _ => none
def shB : AV → Nat
 | .sl b _ _ _ => b
 | .sg b _ _ => b
 | _ => 0
def shR : AV → List Nat
 | .sl b _ _ _ => [b]
 | .sg b _ _ => [b]
 | _ => []
def shD : AV → AV → Bool
 | .sl b _ _ _, .sl c _ _ _ => !(Nat.beq b c)
 | .sl b _ _ _, .sg c _ _ => !(Nat.beq b c)
 | .sg b _ _, .sl c _ _ _ => !(Nat.beq b c)
 | .sg b _ _, .sg c _ _ => !(Nat.beq b c)
 | _, _ => true
section
variable {s t : Sh} {b c : Nat} {h r : Hp} {k : Blk}
theorem shAt_cons (hc : c ≠ b) : shAt (s.v b) ((c, k) :: r) = shAt (s.v b) r := by
 cases s <;> simp [Sh.v, shAt, hget_cons, hc]
theorem shAt_hit : shAt (s.v b) (s.h b ++ r) = some s := by
 cases s <;> simp [Sh.v, Sh.h, shAt, hget_cons]
theorem shAt_hit0 : shAt (s.v b) (s.h b) = some s := by
 cases s <;> simp [Sh.v, Sh.h, shAt, hget_cons]
theorem shAt_skip (hc : c ≠ b) : shAt (s.v b) (t.h c ++ r) = shAt (s.v b) r := by
 cases t <;> simp [Sh.h] <;> exact shAt_cons hc
theorem shAt_ns : shAt .ns h = some .nil := (rfl)
theorem shAt_sl {o len cap : Nat} : shAt (.sl b o len cap) h = (hget h b).bind fun k => some (.sl k o len cap) := by
 show (hget h b).map _ = _; cases hget h b <;> rfl
theorem shAt_sg {o len : Nat} : shAt (.sg b o len) h = (hget h b).bind fun k => some (.sg k o len) := by
 show (hget h b).map _ = _; cases hget h b <;> rfl
theorem hget_skip (hc : c ≠ b) : hget (t.h c ++ r) b = hget r b := by
 cases t <;> simp [Sh.h, hget_cons, hc]
theorem hget_skip0 (hc : c ≠ b) : hget (t.h c) b = none := by
 cases t <;> simp [Sh.h, hget_cons, hget_nil, hc]
theorem hset_skip (hc : c ≠ b) : hset (t.h c ++ r) b k = t.h c ++ hset r b k := by
 cases t <;> simp [Sh.h, hset_cons, hc]
theorem hdel_skip (hc : c ≠ b) : hdel (t.h c ++ r) b = t.h c ++ hdel r b := by
 cases t <;> simp [Sh.h, hdel_cons, hc]
theorem shR_v : shR (s.v b) = s.bl b := by cases s <;> rfl
theorem shD_v (hb : b ≠ c) : shD (s.v b) (t.v c) = true := by cases s <;> cases t <;> simp [Sh.v, shD, hb, nbeq]
theorem inl_bl (hb : b ≠ c) : inl (s.bl b) c = false := by cases s <;> simp [Sh.bl, inl_cons, inl, hb]
theorem inl_bl_app {l : List Nat} (hb : b ≠ c) : inl (s.bl b ++ l) c = inl l c := by cases s <;> simp [Sh.bl, inl_cons, hb]
theorem v_cells : (s.v b).cells = [s.v b] := by cases s <;> rfl
theorem v_one : (s.v b).one = true := by cases s <;> rfl
theorem v_ren {ψ : Nat → Nat} : (s.v b).ren ψ = s.v (ψ b) := by cases s <;> rfl
theorem v_bel {m : Nat} (hb : b < m) : (s.v b).bel m = true := by cases s <;> simp [Sh.v, AV.bel, nblt, hb]
theorem onF_v {α : Type} {kf : List AV → Nat → Option α} {kz : Option α} {k : AV → Option α} : onF (s.v b) kf kz k = k (s.v b) := by cases s <;> rfl
theorem onV_len {n : Nat} : onV (s.v b) (some (true, ({ v := .i .i64 0, n } : Eff))) (fun b o l c => some (true, { v := .i .i64 (l : Int), n })) (fun b o l => some (true, { v := .i .i64 (l : Int), n })) = some (true, { v := .i .i64 (s.len : Int), n }) := by
 cases s <;> rfl
theorem rngN_h {n m : Nat} {r : List (Nat × Blk)} (h1 : n ≤ b) (h2 : b < m) : rngN n m (s.h b ++ r) = rngN n m r := by
 cases s <;> simp [Sh.h, rngN, h1, h2]
theorem rngN_h0 {n m : Nat} (h1 : n ≤ b) (h2 : b < m) : rngN n m (s.h b) = true := by
 cases s <;> simp [Sh.h, rngN, h1, h2]
theorem djN_h {rd : List Nat} {r : List (Nat × Blk)} (h1 : inl rd b = false) : djN (s.h b ++ r) rd = djN r rd := by
 cases s <;> simp [Sh.h, djN, h1]
theorem djN_h0 {rd : List Nat} (h1 : inl rd b = false) : djN (s.h b) rd = true := by
 cases s <;> simp [Sh.h, djN, h1]
end
section
variable {P : Program}
theorem ren_plain {ψ : Nat → Nat} {k : Blk} (hk : belL 0 k.cells = true) : k.ren ψ = k := by simp only [Blk.ren, renL_fix0 _ hk]
end
end Go.Ab
end
section
/- The abstract layer, part 42: contracts, ends and loops over slices whose form is left open. -/
namespace Go.Ab
set_option linter.unusedVariables false
set_option linter.unusedSimpArgs false
section
variable {P : Program}
def Sh.fresh : Sh → Bool
 | .nil => true
 | .sl k _ _ _ => !k.ro
 | .sg k _ _ => !k.ro
end
def rn : List (Nat × Nat) → Nat → Nat
 | [], b => b
 | (c, d) :: r, b => if b = c then d else rn r b
theorem rn_nil {b : Nat} : rn [] b = b := (rfl)
theorem rn_cons {c d b : Nat} {r : List (Nat × Nat)} : rn ((c, d) :: r) b = if b = c then d else rn r b := (rfl)
def rnOK (m : List (Nat × Nat)) (n0 n2 : Nat) : Bool :=
 (List.range n0).all (fun b => rn m b == b) && (List.range n2).all fun b => (List.range n2).all fun c => !(rn m b == rn m c) || b == c
def EnvR (n : Nat) (m : List (Nat × Nat)) (e : Env) : Env → Prop
 | [] => True
 | (t, v) :: r => eget e t = some (v.ren (rn m)) ∧ v.bel n = true ∧ EnvR n m e r
def HpR (n : Nat) (m : List (Nat × Nat)) (h : Hp) : Hp → Prop
 | [] => True
 | (b, k) :: r => hget h (rn m b) = some (k.ren (rn m)) ∧ belL n k.cells = true ∧ b < n ∧ HpR n m h r
def hasS (h : Hp) (s : Sh) (c : Nat) : Prop := ∀ d kk, hget (s.h c) d = some kk → hget h d = some kk
section
variable {n : Nat} {m : List (Nat × Nat)} {e : Env} {h r : Hp} {s t : Sh} {b c d : Nat} {k : Blk}
theorem EnvR_nil : EnvR n m e [] = True := (rfl)
theorem EnvR_cons {v : AV} {r : Env} : EnvR n m e ((b, v) :: r) = (eget e b = some (v.ren (rn m)) ∧ v.bel n = true ∧ EnvR n m e r) := (rfl)
theorem HpR_nil : HpR n m h [] = True := (rfl)
theorem HpR_cons : HpR n m h ((b, k) :: r) = (hget h (rn m b) = some (k.ren (rn m)) ∧ belL n k.cells = true ∧ b < n ∧ HpR n m h r) := (rfl)
theorem hasS_hit : hasS (s.h c ++ r) s c = True := by
 refine eq_true fun d kk hh => ?_
 rw [hget_append, hh]
theorem hasS_hit0 : hasS (s.h c) s c = True := eq_true fun d kk hh => hh
theorem hasS_cons (hd : d ≠ c) : hasS ((d, k) :: r) s c = hasS r s c := by
 have key : ∀ i kk, hget (s.h c) i = some kk → i = c := fun i kk hh => by have := hget_mem hh; cases s <;> simp [Sh.h] at this <;> exact this.1
 refine propext ⟨fun hh i kk hi => ?_, fun hh i kk hi => ?_⟩
 · have := hh i kk hi; rw [hget_cons, if_neg (by rw [key i kk hi]; exact hd)] at this; exact this
 · rw [hget_cons, if_neg (by rw [key i kk hi]; exact hd)]; exact hh i kk hi
theorem hasS_skip (hd : d ≠ c) : hasS (t.h d ++ r) s c = hasS r s c := by
 cases t <;> simp only [Sh.h, List.nil_append, List.cons_append] <;> exact hasS_cons hd
theorem HpR_app (hp : s.plain = true) (hb : b < n) : HpR n m h (s.h b ++ r) = (hasS h s (rn m b) ∧ HpR n m h r) := by
 cases s with
 | nil => simp [Sh.h, hasS, hget]
 | sl k o l cc =>
  have hp' : belL 0 k.cells = true := hp
  simp only [Sh.h, List.cons_append, List.nil_append, HpR, hb, belL_mono0 _ hp', true_and, ren_plain hp']
  refine propext ⟨fun hh => ⟨fun i kk hi => ?_, hh.2⟩, fun hh => ⟨hh.1 _ _ (by simp [Sh.h, hget]), hh.2⟩⟩
  have := hget_mem hi
  simp [Sh.h] at this
  obtain ⟨rfl, rfl⟩ := this; exact hh.1
 | sg k o l =>
  have hp' : belL 0 k.cells = true := hp
  simp only [Sh.h, List.cons_append, List.nil_append, HpR, hb, belL_mono0 _ hp', true_and, ren_plain hp']
  refine propext ⟨fun hh => ⟨fun i kk hi => ?_, hh.2⟩, fun hh => ⟨hh.1 _ _ (by simp [Sh.h, hget]), hh.2⟩⟩
  have := hget_mem hi
  simp [Sh.h] at this
  obtain ⟨rfl, rfl⟩ := this; exact hh.1
theorem HpR_app0 (hp : s.plain = true) (hb : b < n) : HpR n m h (s.h b) = hasS h s (rn m b) := by
 have := HpR_app (m := m) (h := h) (r := []) hp hb
 simpa [HpR] using this
end
theorem EnvR.get {n : Nat} {m : List (Nat × Nat)} {e : Env} : ∀ {e2 : Env}, EnvR n m e e2 → ∀ t v, eget e2 t = some v → eget e t = some (v.ren (rn m)) ∧ v.bel n = true
 | [], _, t, v, h => by simp [eget] at h
 | (s, u) :: r, hi, t, v, h => by
  simp only [eget] at h
  by_cases hs : t = s
  · subst hs; simp at h; subst h; exact ⟨hi.1, hi.2.1⟩
  · rw [beq_ne hs] at h; exact EnvR.get hi.2.2 t v h
theorem HpR.get {n : Nat} {m : List (Nat × Nat)} {h : Hp} : ∀ {h2 : Hp}, HpR n m h h2 → ∀ b k, hget h2 b = some k → hget h (rn m b) = some (k.ren (rn m)) ∧ belL n k.cells = true ∧ b < n
 | [], _, t, v, h => by simp [hget] at h
 | (s, u) :: r, hi, t, v, h => by
  simp only [hget] at h
  by_cases hs : t = s
  · subst hs; simp at h; subst h; exact ⟨hi.1, hi.2.1, hi.2.2.1⟩
  · rw [beq_ne hs] at h; exact HpR.get hi.2.2.2 t v h
theorem Wk.ofR {n0 n n2 : Nat} {m : List (Nat × Nat)} {e e2 : Env} {h h2 : Hp} (hn : n0 ≤ n2) (hm : rnOK m n0 n2 = true) (he : EnvR n2 m e e2) (hh : HpR n2 m h h2) : Wk n0 (rn m) e h n e2 h2 n2 := by
 simp only [rnOK, Bool.and_eq_true, List.all_eq_true, List.mem_range, Bool.or_eq_true, Bool.not_eq_true', beq_iff_eq, beq_eq_false_iff_ne] at hm
 refine ⟨hn, fun b hb => hm.1 b hb, fun t v ht => he.get t v ht, fun b k hb => hh.get b k hb, fun b1 b2 k1 k2 h1 h2 _ hE => ?_⟩
 rcases hm.2 b1 (hh.get b1 k1 h1).2.2 b2 (hh.get b2 k2 h2).2.2 with h' | h'
 · exact absurd hE h'
 · exact h'
theorem Ends.R {n0 n n2 : Nat} (m : List (Nat × Nat)) {v v2 : AV} {h h2 : Hp} (hn : n0 ≤ n2) (hm : rnOK m n0 n2 = true) (hv : v = v2.ren (rn m)) (hb : v2.bel n2 = true) (hh : HpR n2 m h h2) : Ends n0 v h n v2 h2 n2 :=
 ⟨rn m, Wk.ofR hn hm ⟨by rw [← hv]; simp [eget], hb, trivial⟩ hh⟩
theorem Loop.stepR {F : Fx} (hcx : Sound F.P F.cx) (hm : F.P.follows .mixedOrders = true) {c : ICode} {K : Kont} {X : Type} (ok : X → Prop) (μ : X → Nat) (E : X → Env) (H : X → Hp) (n2 : Nat) (x0 : X) (nx : X → X) (m0 : List (Nat × Nat)) (m : X → List (Nat × Nat))
 {e : Env} {h : Hp} {n : Nat} (hn : F.n0 ≤ n2) (hm0 : rnOK m0 F.n0 n2 = true) (hm1 : ∀ x, rnOK (m x) F.n0 n2 = true) (h0 : ok x0) (he : EnvR n2 m0 e (E x0)) (hh : HpR n2 m0 h (H x0))
 (round : ∀ x, ok x → jw F c (thenK K fun e' h' n' => (ok (nx x) ∧ μ (nx x) < μ x) ∧ EnvR n2 (m x) e' (E (nx x)) ∧ HpR n2 (m x) h' (H (nx x))) (E x) (H x) n2) : Loop F.P F.ct F.N F.n0 c K e h n := by
 refine Loop.inv (F := F) hcx hm (X := { x : X // ok x }) (fun k => (E k.1, H k.1, n2)) (fun k => μ k.1) ⟨x0, h0⟩ (rn m0) (Wk.ofR hn hm0 he hh) (fun k => ?_)
 refine iw_mono (fun ex e' h' n' hx => ?_) (iw_of_jw (round k.1 k.2))
 cases ex with
 | normal =>
  obtain ⟨⟨h1, h2⟩, h3, h4⟩ := hx
  exact ⟨⟨nx k.1, h1⟩, rn (m k.1), Wk.ofR hn (hm1 k.1) h3 h4, h2⟩
 | _ => exact hx
attribute [go_sem] shAt_ns shAt_sl shAt_sg shAt_hit shAt_hit0 shAt_cons shAt_skip hget_skip hget_skip0 hset_skip hdel_skip shR_v shD_v inl_bl inl_bl_app v_cells v_one v_ren v_bel rngN_h rngN_h0 djN_h djN_h0 rn_nil rn_cons EnvR_nil EnvR_cons HpR_nil HpR_cons HpR_app HpR_app0 hasS_hit hasS_hit0 hasS_cons hasS_skip
attribute [go_sem ↓] onV_len onF_v
end Go.Ab
end
section
/- The abstract layer, part 43: a contract from a function given outright, its effect computed from the two heaps. -/
namespace Go.Ab
set_option linter.unusedVariables false
set_option linter.unusedSimpArgs false
section
variable {P : Program}
end
end Go.Ab
end
section
/- The abstract layer, part 44: rows of open slices; or. -/
namespace Go.Ab
set_option linter.unusedVariables false
set_option linter.unusedSimpArgs false
section
variable {α : Type} {f : α → List AV} {z : Nat}
end
end Go.Ab
namespace Go.Ab
def Sh.o : Sh → Nat
 | .nil => 0
 | .sl _ o _ _ => o
 | .sg _ o _ => o
def Sh.blk : Sh → Blk
 | .nil => { cells := [] }
 | .sl k _ _ _ => k
 | .sg k _ _ => k
section
variable {s t : Sh} {b c : Nat} {h r : Hp}
theorem Sh.is.cells {α : Type} {f : α → List AV} {z : Nat} {l : List α} (hs : s.is f z l) (hne : s ≠ .nil) : cellsAt s.blk.cells s.o (l.length * z) = rows f l ∧ belL 0 s.blk.cells = true := by
 obtain ⟨h1, h2, h3⟩ := hs
 rw [← h2]
 cases s with
 | nil => exact absurd rfl hne
 | sl k o l c => exact ⟨h3, h1⟩
 | sg k o l => exact ⟨h3, h1⟩
end
end Go.Ab
namespace Go.Ab
end Go.Ab
namespace Go.Ab
theorem sv_lenV2 {cx : Cx} {e : Env} {h : Hp} {n : Nat} {x : Opd} : stepC cx (.lenV x) e h n = (x.ev e h).bind fun v => onF v (fun l m => some (true, { v := .i .i64 (m : Int), n })) (some (true, { v := .i .i64 0, n })) fun v => onV v (some (true, { v := .i .i64 0, n })) (fun b o l c => some (true, { v := .i .i64 (l : Int), n })) (fun b o l => some (true, { v := .i .i64 (l : Int), n })) := sv_lenV
attribute [go_sem ↓ high] sv_lenV2
end Go.Ab
namespace Go.Ab
attribute [go_sem] ne_eq not_false_eq_true
end Go.Ab
namespace Go.Ab
theorem v_cells2 {s : Sh} {b : Nat} : (s.v b).cells = [s.v b] := v_cells
theorem v_one2 {s : Sh} {b : Nat} : (s.v b).one = true := v_one
attribute [go_sem ↓ high] v_cells2 v_one2
end Go.Ab
end
section
/- The abstract layer, part 45: calls that look at open slices, at boxes that hold them. -/
namespace Go.Ab
set_option linter.unusedVariables false
set_option linter.unusedSimpArgs false
end Go.Ab
end
section
/- The abstract layer, part 46: calls that look at a structure's block that holds an open slice, and may change it. -/
namespace Go.Ab
set_option linter.unusedVariables false
set_option linter.unusedSimpArgs false
end Go.Ab
end
section
/- The abstract layer, part 47: calls that change a structure's block and put a new slice in place of its slice. -/
namespace Go.Ab
set_option linter.unusedVariables false
set_option linter.unusedSimpArgs false
def noneL : List Nat → List (Nat × Option Blk)
 | [] => []
 | b :: r => (b, none) :: noneL r
end Go.Ab
namespace Go.Ab
end Go.Ab
namespace Go.Ab
section
variable {v : AV} {n b c : Nat} {rd : List Nat} {s : Sh} {h : Hp} {k : Blk} {md : List (Nat × Option Blk)}
theorem appL_h {pn : Option Value} : (Eff.mk v n rd [] (s.h b) pn).appL h = s.h b ++ h := (rfl)
theorem appL_mh {pn : Option Value} {x : Nat × Option Blk} : (Eff.mk v n rd (x :: md) (s.h b) pn).appL h = hmods (s.h b ++ h) (x :: md) := (rfl)
theorem hmods_nil : hmods h [] = h := (rfl)
theorem hmods_some : hmods h ((b, some k) :: md) = hset (hmods h md) b k := (rfl)
theorem hmods_none : hmods h ((b, none) :: md) = hdel (hmods h md) b := (rfl)
end
attribute [go_sem ↓] appL_h appL_mh hmods_nil hmods_some hmods_none
end Go.Ab
namespace Go.Ab
theorem hdel_skip0 {t : Sh} {b c : Nat} (hc : c ≠ b) : hdel (t.h c) b = t.h c := by
 cases t <;> simp [Sh.h, hdel_cons, hdel_nil, hc]
attribute [go_sem] hdel_skip0
end Go.Ab
namespace Go.Ab
section
variable {n b : Nat} {s : Sh} {h r : Hp}
theorem HpIn_app (hp : s.plain = true) (hb : b < n) : HpIn n h (s.h b ++ r) = (hasS h s b ∧ HpIn n h r) := by
 cases s with
 | nil => simp [Sh.h, hasS, hget]
 | sl k o l cc =>
  have hp' : belL 0 k.cells = true := hp
  simp only [Sh.h, List.cons_append, List.nil_append, HpIn, hb, belL_mono0 _ hp', true_and]
  refine propext ⟨fun hh => ⟨fun i kk hi => ?_, hh.2⟩, fun hh => ⟨hh.1 _ _ (by simp [Sh.h, hget]), hh.2⟩⟩
  have := hget_mem hi
  simp [Sh.h] at this
  obtain ⟨rfl, rfl⟩ := this; exact hh.1
 | sg k o l =>
  have hp' : belL 0 k.cells = true := hp
  simp only [Sh.h, List.cons_append, List.nil_append, HpIn, hb, belL_mono0 _ hp', true_and]
  refine propext ⟨fun hh => ⟨fun i kk hi => ?_, hh.2⟩, fun hh => ⟨hh.1 _ _ (by simp [Sh.h, hget]), hh.2⟩⟩
  have := hget_mem hi
  simp [Sh.h] at this
  obtain ⟨rfl, rfl⟩ := this; exact hh.1
theorem HpIn_app0 (hp : s.plain = true) (hb : b < n) : HpIn n h (s.h b) = hasS h s b := by
 have := HpIn_app (h := h) (r := []) hp hb
 simpa [HpIn] using this
end
attribute [go_sem] HpIn_app HpIn_app0
end Go.Ab
end
section
/- The abstract layer, part 48: calls that hand out two new slices. -/
namespace Go.Ab
set_option linter.unusedVariables false
set_option linter.unusedSimpArgs false
section
variable {v : AV} {n b c : Nat} {rd : List Nat} {s t : Sh} {h : Hp}
theorem appL_hh {pn : Option Value} : (Eff.mk v n rd [] (s.h b ++ t.h c) pn).appL h = s.h b ++ (t.h c ++ h) := by
 show (s.h b ++ t.h c) ++ h = _
 rw [List.append_assoc]
end
attribute [go_sem ↓] appL_hh
end Go.Ab
namespace Go.Ab
theorem okAll_push {un : List Nat} {E E' : Eff} {i : Nat} {dn : List (Nat × Eff)} : okAll un E (pushD i E' dn) = ((!(inl un i) || okPair E E') && okAll un E dn) := by
 have hn : ∀ md : List (Nat × Option Blk), djM md [] = true := by
  intro md
  induction md with
  | nil => rfl
  | cons x r ih => simp [djM, inl, ih]
 unfold pushD
 split
 · rename_i h1 h2 h3
   have : okPair E E' = true := by simp [okPair, h1, h2, h3, djM, djN, hn]
   simp [this]
 · rfl
attribute [go_sem] okAll_push
end Go.Ab
end
section
/- The abstract layer, part 49: slices put together by appends of single elements. -/
namespace Go.Ab
set_option linter.unusedVariables false
set_option linter.unusedSimpArgs false
def appV (z bytes n : Nat) (h : Hp) (r0 : List Nat) (m : Nat) (cs : List AV) (ok : Bool) (s : AV) : Option (Bool × Eff) :=
 onF s (fun l len => iteD (decide (m = 0)) (some (ok, { v := .fz l len, n, rd := r0 })) none) (iteD (decide (m = 0)) (some (ok, { v := .ze, n, rd := r0 })) (some (ok && decide (bytes * m ≤ growMax), { v := .sg n 0 m, n := n + 1, rd := r0, nw := [(n, { cells := cs, gr := some z })] }))) fun s => onV s
  (iteD (decide (m = 0)) (some (ok, { v := .ns, n, rd := r0 })) (some (ok && decide (bytes * m ≤ growMax), { v := .sg n 0 m, n := n + 1, rd := r0, nw := [(n, { cells := cs, gr := some z })] })))
  (fun b o len cap => iteD (decide (m = 0)) (some (ok && decide (len ≤ cap), { v := .sl b o len cap, n, rd := r0 }))
    ((hget h b).bind fun k => iteD (decide (len + m ≤ cap))
      (roK k.ro (some (ok && decide (o + len * z + cs.length ≤ k.cells.length) && oneAll cs, { v := .sl b o (len + m) cap, n, rd := b :: r0, md := [(b, some { k with cells := splice k.cells (o + len * z) cs })] })))
      (some (ok && decide (bytes * (len + m) ≤ growMax) && decide ((cellsAt k.cells o (len * z)).length = len * z) && decide (len ≤ cap), { v := .sg n 0 (len + m), n := n + 1, rd := b :: r0, nw := [(n, { cells := cellsAt k.cells o (len * z) ++ cs, gr := some z })] }))))
  (fun b o len => iteD (decide (m = 0)) (some (ok, { v := .sg b o len, n, rd := r0 }))
    ((hget h b).bind fun k => grK k.gr fun z' => some (ok && decide (bytes * (len + m) ≤ growMax) && Nat.beq z z' && decide (k.cells.length = o + len * z) && oneAll cs, { v := .sg n 0 (len + m), n := n + 1, rd := b :: r0, md := [(b, none)], nw := [(n, { cells := k.cells.drop o ++ cs, gr := some z })] })))
@[congr] theorem appV_congr {z bytes n m : Nat} {h : Hp} {r0 : List Nat} {cs cs' : List AV} {ok ok' : Bool} {s s' : AV} (h1 : cs = cs') (h2 : ok = ok') (h3 : s = s') : appV z bytes n h r0 m cs ok s = appV z bytes n h r0 m cs' ok' s' := by rw [h1, h2, h3]
section
variable {cx : Cx} {e : Env} {h : Hp} {n z bytes : Nat} {r0 : List Nat} {m : Nat} {cs : List AV} {ok : Bool}
theorem sv_app2 {zs : List AV} {s x : Opd} : stepC cx (.app z bytes zs s x) e h n = (s.ev e h).bind fun s => (x.ev e h).bind fun x => srcK h z x fun r0 m cs ok => appV z bytes n h r0 m cs ok s := sv_app
theorem appV_f {l : List AV} {len : Nat} : appV z bytes n h r0 m cs ok (.fz l len) = iteD (decide (m = 0)) (some (ok, { v := .fz l len, n, rd := r0 })) none := (rfl)
theorem appV_z : appV z bytes n h r0 m cs ok .ze = (iteD (decide (m = 0)) (some (ok, { v := .ze, n, rd := r0 })) (some (ok && decide (bytes * m ≤ growMax), { v := .sg n 0 m, n := n + 1, rd := r0, nw := [(n, { cells := cs, gr := some z })] }))) := (rfl)
theorem appV_n : appV z bytes n h r0 m cs ok .ns = (iteD (decide (m = 0)) (some (ok, { v := .ns, n, rd := r0 })) (some (ok && decide (bytes * m ≤ growMax), { v := .sg n 0 m, n := n + 1, rd := r0, nw := [(n, { cells := cs, gr := some z })] }))) := (rfl)
theorem appV_s {b o len cap : Nat} : appV z bytes n h r0 m cs ok (.sl b o len cap) = (iteD (decide (m = 0)) (some (ok && decide (len ≤ cap), { v := .sl b o len cap, n, rd := r0 }))
 ((hget h b).bind fun k => iteD (decide (len + m ≤ cap))
   (roK k.ro (some (ok && decide (o + len * z + cs.length ≤ k.cells.length) && oneAll cs, { v := .sl b o (len + m) cap, n, rd := b :: r0, md := [(b, some { k with cells := splice k.cells (o + len * z) cs })] })))
   (some (ok && decide (bytes * (len + m) ≤ growMax) && decide ((cellsAt k.cells o (len * z)).length = len * z) && decide (len ≤ cap), { v := .sg n 0 (len + m), n := n + 1, rd := b :: r0, nw := [(n, { cells := cellsAt k.cells o (len * z) ++ cs, gr := some z })] })))) := (rfl)
theorem appV_g {b len : Nat} : appV z bytes n h r0 m cs ok (.sg b 0 len) = (iteD (decide (m = 0)) (some (ok, { v := .sg b 0 len, n, rd := r0 }))
 ((hget h b).bind fun k => grK k.gr fun z' => some (ok && decide (bytes * (len + m) ≤ growMax) && Nat.beq z z' && decide (k.cells.length = len * z) && oneAll cs, { v := .sg n 0 (len + m), n := n + 1, rd := b :: r0, md := [(b, none)], nw := [(n, { cells := k.cells ++ cs, gr := some z })] }))) := by
 have e : appV z bytes n h r0 m cs ok (.sg b 0 len) = (iteD (decide (m = 0)) (some (ok, { v := .sg b 0 len, n, rd := r0 }))
  ((hget h b).bind fun k => grK k.gr fun z' => some (ok && decide (bytes * (len + m) ≤ growMax) && Nat.beq z z' && decide (k.cells.length = 0 + len * z) && oneAll cs, { v := .sg n 0 (len + m), n := n + 1, rd := b :: r0, md := [(b, none)], nw := [(n, { cells := k.cells.drop 0 ++ cs, gr := some z })] }))) := rfl
 rw [e]
 simp only [List.drop_zero, Nat.zero_add]
theorem appV_gs {b o len : Nat} : appV z bytes n h r0 m cs ok (.sg b (o + 1) len) = (iteD (decide (m = 0)) (some (ok, { v := .sg b (o + 1) len, n, rd := r0 }))
 ((hget h b).bind fun k => grK k.gr fun z' => some (ok && decide (bytes * (len + m) ≤ growMax) && Nat.beq z z' && decide (k.cells.length = o + 1 + len * z) && oneAll cs, { v := .sg n 0 (len + m), n := n + 1, rd := b :: r0, md := [(b, none)], nw := [(n, { cells := k.cells.drop (o + 1) ++ cs, gr := some z })] }))) := (rfl)
end
attribute [go_sem ↓ high] sv_app2
attribute [go_sem ↓] appV_n appV_s appV_g appV_gs appV_f appV_z
def gQ {α : Type} (f : α → List AV) (z : Nat) (l : List α) : Sh := if l.length = 0 then .nil else .sg { cells := rows f l, gr := some z } 0 l.length
def gS {α : Type} (f : α → List AV) (z : Nat) (l : List α) (cs : List AV) : Sh := .sg { cells := rows f l ++ cs, gr := some z } 0 (l.length + 1)
section
variable {α : Type} {f : α → List AV} {z : Nat} {l : List α}
theorem gQ_snoc {a : α} : gQ f z (l ++ [a]) = gS f z l (f a) := by
 unfold gQ gS
 rw [if_neg (by simp), rows_append, List.length_append]
 simp [rows]
theorem gQ_is (hb : ∀ a, belL 0 (f a) = true) (hf : ∀ a, (f a).length = z) (l : List α) : (gQ f z l).is f z l := by
 unfold gQ
 split
 · rename_i h
   have : l = [] := List.eq_nil_of_length_eq_zero h
   subst this; exact ⟨rfl, rfl, rfl⟩
 · exact ⟨rows_bel hb, rfl, by show cellsAt _ 0 _ = _; unfold cellsAt; rw [List.drop_zero, ← rows_len (f := f) (z := z) hf, List.take_length]⟩
theorem gQ_fresh (l : List α) : (gQ f z l).fresh = true := by unfold gQ; split <;> rfl
end
def hdels (s : Sh) (b : Nat) (h : Hp) : Hp := hmods h (noneL (s.bl b))
section
variable {s t : Sh} {b c : Nat} {h r : Hp} {k : Blk}
theorem hdels_nil : hdels s b [] = [] := by cases s <;> rfl
theorem hdels_cons (hc : c ≠ b) : hdels s b ((c, k) :: r) = (c, k) :: hdels s b r := by
 cases s with
 | nil => rfl
 | sl k o l cc => exact (hdel_cons (c := c)).trans (if_neg hc)
 | sg k o l => exact (hdel_cons (c := c)).trans (if_neg hc)
theorem hdels_hit : hdels s b (s.h b ++ r) = hdels s b r := by
 cases s with
 | nil => rfl
 | sl k o l cc => exact (hdel_cons (c := b)).trans (if_pos rfl)
 | sg k o l => exact (hdel_cons (c := b)).trans (if_pos rfl)
theorem hdels_hit0 : hdels s b (s.h b) = [] := by
 have := hdels_hit (s := s) (b := b) (r := [])
 rw [List.append_nil] at this
 rw [this, hdels_nil]
theorem hdels_skip (hc : c ≠ b) : hdels s b (t.h c ++ r) = t.h c ++ hdels s b r := by
 cases t with
 | nil => rfl
 | sl k o l cc => exact hdels_cons hc
 | sg k o l => exact hdels_cons hc
theorem hdels_skip0 (hc : c ≠ b) : hdels s b (t.h c) = t.h c := by
 have := hdels_skip (s := s) (t := t) (r := []) hc
 rw [List.append_nil, hdels_nil, List.append_nil] at this
 exact this
end
theorem appL_gq {pn : Option Value} {v : AV} {n b c : Nat} {rd : List Nat} {s t : Sh} {h : Hp} : (Eff.mk v n rd (noneL (s.bl b)) (t.h c) pn).appL h = hdels s b (t.h c ++ h) := (rfl)
section
variable {α : Type} {f : α → List AV} {z bytes n b : Nat} {l : List α} {h : Hp} {r0 : List Nat} {cs : List AV} {ok : Bool}
theorem appV_q (hh : hasS h (gQ f z l) b) (ho : oneAll cs = true) (hf : (rows f l).length = l.length * z) : appV z bytes n h r0 1 cs ok ((gQ f z l).v b) =
 some (ok && decide (bytes * (l.length + 1) ≤ growMax), { v := (gS f z l cs).v n, n := n + 1, rd := (gQ f z l).bl b ++ r0, md := noneL ((gQ f z l).bl b), nw := (gS f z l cs).h n }) := by
 revert hh
 unfold gQ
 split
 · rename_i hl
   have : l = [] := List.eq_nil_of_length_eq_zero hl
   subst this
   intro _
   rfl
 · intro hh
   have := hh b { cells := rows f l, gr := some z } (by simp [Sh.h, hget])
   show appV z bytes n h r0 1 cs ok (.sg b 0 l.length) = _
   rw [appV_g, this, decide_eq_false (by decide : ¬ (1 : Nat) = 0), iteD_f, bind_some']
   simp only [grK_s, ho, hf, Bool.and_true, decide_true, nbeq]
   rfl
end
attribute [go_sem ↓] appL_gq
attribute [go_sem] appV_q hdels_nil hdels_cons hdels_hit hdels_hit0 hdels_skip hdels_skip0
end Go.Ab
end
section
/- The abstract layer, part 50: open slices, cut short. -/
namespace Go.Ab
set_option linter.unusedVariables false
set_option linter.unusedSimpArgs false
def cutV (z n : Nat) (h : Hp) (m : Int) (v : AV) : Option (Bool × Eff) := onF v (fun l len => some ((sbound len len none (some m) none).1, { v := .fz (l.drop ((sbound len len none (some m) none).2.1 * z)) ((sbound len len none (some m) none).2.2.1 - (sbound len len none (some m) none).2.1), n }))
 (some ((sbound 0 0 none (some m) none).1, { v := .ze, n })) fun v => onV v
 (some ((sbound 0 0 none (some m) none).1, { v := .ns, n }))
 (fun b o len cap => some ((sbound len cap none (some m) none).1, { v := .sl b (if (sbound len cap none (some m) none).2.2.2 = (sbound len cap none (some m) none).2.1 then o else o + (sbound len cap none (some m) none).2.1 * z) ((sbound len cap none (some m) none).2.2.1 - (sbound len cap none (some m) none).2.1) ((sbound len cap none (some m) none).2.2.2 - (sbound len cap none (some m) none).2.1), n }))
 (fun b o len => (hget h b).bind fun k => grK k.gr fun z' =>
   iteD (decide ((sbound len len none (some m) none).2.1 = 0 ∨ (sbound len len none (some m) none).2.1 < len)) (some ((sbound len len none (some m) none).1 && Nat.beq z z', { v := .sg b (o + (sbound len len none (some m) none).2.1 * z) ((sbound len len none (some m) none).2.2.1 - (sbound len len none (some m) none).2.1), n, rd := [b] })) (some ((sbound len len none (some m) none).1 && Nat.beq z z', { v := .en, n, rd := [b] })))
@[congr] theorem cutV_congr {z n : Nat} {h : Hp} {m m' : Int} {v v' : AV} (h1 : m = m') (h2 : v = v') : cutV z n h m v = cutV z n h m' v' := by rw [h1, h2]
section
variable {cx : Cx} {e : Env} {h : Hp} {n z : Nat} {m : Int}
theorem sv_cut {x hi : Opd} : stepC cx (.slV z x none (some hi) none) e h n = (x.ev e h).bind fun v => (hi.ev e h).bind fun w => (asJ w).bind fun m => cutV z n h m v := by
 rw [sv_slV]
 cases hx : x.ev e h with
 | none => rfl
 | some v =>
  simp only [Option.bind_some, obind_none, obind_some]
  cases hhi : hi.ev e h with
  | none =>
   simp only [Option.bind_none]
   cases v <;> try rfl
   · simp only [onF_g, onV_g]; cases hget h _ <;> rfl
  | some w =>
   simp only [Option.bind_some]
   cases asJ w with
   | none =>
    simp only [Option.bind_none]
    cases v <;> try rfl
    · simp only [onF_g, onV_g]; cases hget h _ <;> rfl
   | some m => rfl
theorem cutV_f {l : List AV} {len : Nat} : cutV z n h m (.fz l len) = some (decide (0 ≤ m ∧ m ≤ (len : Int)), { v := .fz l m.toNat, n }) := by
 show some (_, _) = some (_, _)
 refine congrArg some (Prod.ext (decide_eq_decide.2 ?_) ?_)
 · simp only [Option.getD_some, Option.getD_none]; omega
 · simp [sbound]
theorem cutV_z : cutV z n h m .ze = some (decide (0 ≤ m ∧ m ≤ 0), { v := .ze, n }) := by
 show some (_, _) = some (_, _)
 refine congrArg some (Prod.ext (decide_eq_decide.2 ?_) rfl)
 simp only [Option.getD_some, Option.getD_none]
 omega
theorem cutV_n : cutV z n h m .ns = some (decide (0 ≤ m ∧ 0 ≤ m ∧ m ≤ 0), { v := .ns, n }) := by
 show some (_, _) = some (_, _)
 refine congrArg some (Prod.ext (decide_eq_decide.2 ?_) rfl)
 simp only [Option.getD_some, Option.getD_none]
 omega
theorem cutV_s {b o len cap : Nat} : cutV z n h m (.sl b o len cap) = some (decide (0 ≤ m ∧ m ≤ (cap : Int)), { v := .sl b o m.toNat cap, n }) := by
 show some (_, _) = some (_, _)
 refine congrArg some (Prod.ext (decide_eq_decide.2 ?_) ?_)
 · simp only [Option.getD_some, Option.getD_none]; omega
 · simp [sbound]
theorem cutV_g {b o len : Nat} : cutV z n h m (.sg b o len) = (hget h b).bind fun k => grK k.gr fun z' => some (decide (0 ≤ m ∧ m ≤ (len : Int)) && Nat.beq z z', { v := .sg b o m.toNat, n, rd := [b] }) := by
 show (hget h b).bind _ = (hget h b).bind _
 congr 1; funext k; congr 1; funext z'
 refine congrArg some (Prod.ext ?_ ?_)
 · show (_ && _) = (_ && _)
   congr 1
   refine decide_eq_decide.2 ?_
   simp only [Option.getD_some, Option.getD_none]; omega
 · simp [sbound]
end
def Sh.cut (s : Sh) (m : Nat) : Sh := match s with
 | .nil => .nil
 | .sl k o _ cap => .sl k o m cap
 | .sg k o _ => .sg k o m
def Sh.sane (z : Nat) : Sh → Bool
 | .nil => true
 | .sl _ _ len cap => decide (len ≤ cap)
 | .sg k _ _ => match k.gr with
  | some z' => Nat.beq z z'
  | none => false
def Sh.bg : Sh → Nat → List Nat
 | .sg _ _ _, b => [b]
 | _, _ => []
section
variable {s : Sh} {b c z n : Nat} {h r : Hp} {m : Int}
theorem cutV_v (hh : hasS h s b) (hs : s.sane z = true) (h0 : decide (0 ≤ m ∧ m ≤ (s.len : Int)) = true) : cutV z n h m (s.v b) = some (true, { v := (s.cut m.toNat).v b, n, rd := s.bg b }) := by
 have h0 := of_decide_eq_true h0
 cases s with
 | nil =>
  show cutV z n h m .ns = _
  simp only [Sh.len] at h0
  rw [cutV_n, decide_eq_true (by omega)]; rfl
 | sl k o len cap =>
  simp only [Sh.sane, decide_eq_true_eq] at hs
  simp only [Sh.len] at h0
  show cutV z n h m (.sl b o len cap) = _
  rw [cutV_s, decide_eq_true (by omega)]; rfl
 | sg k o len =>
  simp only [Sh.len] at h0
  have := hh b k (by simp [Sh.h, hget])
  show cutV z n h m (.sg b o len) = _
  rw [cutV_g, this]
  simp only [Sh.sane] at hs
  cases hg : k.gr with
  | none => rw [hg] at hs; cases hs
  | some z' =>
   rw [hg] at hs
   simp only at hs
   rw [bind_some', hg, grK_s, hs, decide_eq_true h0]; rfl
theorem cut_len {k : Nat} (hk : k ≤ s.len) : (s.cut k).len = k := by cases s <;> simp_all [Sh.cut, Sh.len]
theorem cut_plain {k : Nat} : (s.cut k).plain = s.plain := by cases s <;> rfl
theorem cut_h {k : Nat} : (s.cut k).h b = s.h b := by cases s <;> rfl
theorem hasS_cut {k : Nat} : hasS h (s.cut k) b = hasS h s b := by simp only [hasS, cut_h]
theorem Sh.is.cut {α : Type} {f : α → List AV} {l : List α} (hf : ∀ a, (f a).length = z) (hs : s.is f z l) {k : Nat} (hk : k ≤ l.length) : (s.cut k).is f z (l.take k) := by
 have hln := hs.ln
 refine ⟨by rw [cut_plain]; exact hs.pl, by rw [cut_len (by omega), List.length_take]; omega, ?_⟩
 have hc := hs.cs
 have key : ∀ (c : List AV) (o : Nat), cellsAt c o (l.length * z) = rows f l → cellsAt c o (k * z) = rows f (l.take k) := by
  intro c o hco
  rw [← rows_take hf, ← hco]
  unfold cellsAt
  rw [List.take_take]
  congr 1
  have := Nat.mul_le_mul_right z hk
  omega
 cases s with
 | nil =>
  simp only [Sh.len] at hln
  have : l = [] := List.eq_nil_of_length_eq_zero hln.symm
  subst this; simp [Sh.cut, Sh.cs, rows]
 | sl q o len cap =>
  simp only [Sh.len] at hln
  simp only [Sh.cs, hln] at hc
  exact key _ _ hc
 | sg q o len =>
  simp only [Sh.len] at hln
  simp only [Sh.cs, hln] at hc
  exact key _ _ hc
end
attribute [go_sem ↓ high] sv_cut
attribute [go_sem ↓] cutV_n cutV_s cutV_g cutV_f cutV_z
attribute [go_sem] cutV_v cut_plain cut_h hasS_cut
end Go.Ab
end
section
/- The abstract layer, part 51: a body cut in two, the state renamed at the seam; appends of whole open slices; one row changed. -/
namespace Go.Ab
set_option linter.unusedVariables false
set_option linter.unusedSimpArgs false
def Seam (F : Fx) (c : ICode) (K : Kont) (e : Env) (h : Hp) (n : Nat) : Prop := ∀ c', compC F.P F.ct F.N c' = c → WP F.P F.N F.n0 c' K e h n
section
variable {F : Fx} {a b c : ICode} {K : Kont} {e : Env} {h : Hp} {n : Nat}
theorem Seam.run (hcx : Sound F.P F.cx) (hm : F.P.follows .mixedOrders = true) (hi : jw F c K e h n) : Seam F c K e h n := fun c' hc' => iw_sound F hcx hm c' _ _ _ _ (by rw [hc']; exact iw_of_jw hi)
theorem Seam.seq (hi : Seam F a (thenK K (Seam F b K)) e h n) : Seam F (.seq a b) K e h n := fun c' hc' => by
 obtain ⟨x, y, rfl, hx, hy⟩ := inv_seq hc'
 intro ro hro B D0 φ0 H0 w0 h1 h2 D φ a w hR hS
 refine wpIn_seq (wpIn_mono (hi x hx ro (hro.imp _root_.id (fun h => by simp only [noRF, Bool.and_eq_true] at h; exact h.1)) B D0 φ0 H0 w0 h1 h2 D φ a w hR hS) (fun ex a' w' hp => ?_))
 obtain ⟨D', φ', e', h', n', hk, hn', hR', hS'⟩ := hp
 cases ex with
 | normal => exact hk y hy ro (hro.imp _root_.id (fun h => by simp only [noRF, Bool.and_eq_true] at h; exact h.2)) B D0 φ0 H0 w0 h1 hn' D' φ' a' w' hR' hS'
 | exit id => exact ⟨D', φ', e', h', n', hk, hn', hR', hS'⟩
 | goto l => exact ⟨D', φ', e', h', n', hk, hn', hR', hS'⟩
 | ret => exact ⟨D', φ', e', h', n', hk, hn', hR', hS'⟩
 | panic ch => exact ⟨D', φ', e', h', n', hk, hn', hR', hS'⟩
 | outgrown => exact ⟨D', φ', e', h', n', hk, hn', hR', hS'⟩
theorem Seam.part (hcx : Sound F.P F.cx) (hm : F.P.follows .mixedOrders = true) (hi : jw F a (thenK K (Seam F b K)) e h n) : Seam F (.seq a b) K e h n := Seam.seq (Seam.run hcx hm hi)
theorem Seam.block {id : Nat} (hi : Seam F a (blockK id K) e h n) : Seam F (.block id a) K e h n := fun c' hc' => by
 obtain ⟨x, rfl, hx⟩ := inv_block hc'
 intro ro hro B D0 φ0 H0 w0 h1 h2 D φ a w hR hS
 refine wpIn_block (wpIn_mono (hi x hx ro hro B D0 φ0 H0 w0 h1 h2 D φ a w hR hS) (fun ex a' w' hp => ?_))
 obtain ⟨D', φ', e', h', n', hk, hn', hR', hS'⟩ := hp
 cases ex with
 | exit i =>
  simp only [blockK] at hk
  simp only [Exit.inBlock]
  split
  · rename_i hid; rw [if_pos hid] at hk; exact ⟨D', φ', e', h', n', hk, hn', hR', hS'⟩
  · rename_i hid; rw [if_neg hid] at hk; exact ⟨D', φ', e', h', n', hk, hn', hR', hS'⟩
 | normal => exact ⟨D', φ', e', h', n', hk, hn', hR', hS'⟩
 | goto l => exact ⟨D', φ', e', h', n', hk, hn', hR', hS'⟩
 | ret => exact ⟨D', φ', e', h', n', hk, hn', hR', hS'⟩
 | panic ch => exact ⟨D', φ', e', h', n', hk, hn', hR', hS'⟩
 | outgrown => exact ⟨D', φ', e', h', n', hk, hn', hR', hS'⟩
theorem Seam.ren {e2 : Env} {h2 : Hp} {n2 : Nat} (m : List (Nat × Nat)) (hs : Seam F c K e2 h2 n2) (hn : F.n0 ≤ n2) (hm : rnOK m F.n0 n2 = true) (he : EnvR n2 m e e2) (hh : HpR n2 m h h2) : Seam F c K e h n :=
 fun c' hc' => WP.weaken (Wk.ofR hn hm he hh) (hs c' hc')
end
theorem FTL.of_seam {P : Program} {f : FuncId} {fn : Func} {I : IFn} {cx : Cx} {args : List AV} {h : Hp} {n : Nat} {v2 : AV} {h2 : Hp} {n2 : Nat} (hf : P.funcs[f]? = some fn) (hI : compF P fn = some I) (hnp : args.length ≤ I.N)
 (hi : Seam ⟨P, cx, I.ct, I.N, n⟩ I.code (retK I.res fun v h' n' => Ends n v h' n' v2 h2 n2) (argEnv 0 args) h n) : FTL P f args h n v2 h2 n2 :=
 FTL.of_wp hf hI hnp (fun c hc => hi c hc)
section
variable {α : Type} {f : α → List AV} {z : Nat} {l : List α} {s : Sh} {b : Nat} {h : Hp}
theorem oneAll_append {x y : List AV} : oneAll (x ++ y) = (oneAll x && oneAll y) := by
 induction x with
 | nil => rfl
 | cons a x ih => simp only [List.cons_append, oneAll, ih, Bool.and_assoc]
theorem rows_one1 (h1 : ∀ a, oneAll (f a) = true) : ∀ l : List α, oneAll (rows f l) = true
 | [] => rfl
 | a :: l => by rw [rows_cons, oneAll_append, h1, rows_one1 h1 l]; rfl
theorem splice_row (hf : ∀ a, (f a).length = z) {i j : Nat} {a a' : α} {v : AV} (hi : l[i]? = some a) (hj : j < z) (ha : f a' = splice (f a) j [v]) : splice (rows f l) (i * z + j) [v] = rows f (l.set i a') := by
 induction l generalizing i with
 | nil => simp at hi
 | cons x l ih =>
  cases i with
  | zero =>
   simp at hi
   subst hi
   rw [List.set_cons_zero, rows_cons, rows_cons, ha, Nat.zero_mul, Nat.zero_add]
   unfold splice
   rw [List.take_append_of_le_length (by rw [hf]; omega), List.drop_append_of_le_length (by rw [hf]; simp; omega)]
   simp
  | succ i =>
   simp at hi
   have := ih hi
   rw [List.set_cons_succ, rows_cons, rows_cons, ← this]
   unfold splice
   rw [show (i + 1) * z + j = z + (i * z + j) by rw [Nat.add_mul]; omega]
   have e1 : List.take (z + (i * z + j)) (f x ++ rows f l) = f x ++ List.take (i * z + j) (rows f l) := by
    rw [List.take_append, hf, List.take_of_length_le (by rw [hf]; omega)]
    congr 2; omega
   have e2 : List.drop (z + (i * z + j) + [v].length) (f x ++ rows f l) = List.drop (i * z + j + [v].length) (rows f l) := by
    rw [List.drop_append, hf, List.drop_of_length_le (by rw [hf]; simp; omega), List.nil_append]
    congr 1; simp; omega
   rw [e1, e2]; simp
end
end Go.Ab
end
section
/- The abstract layer, part 52: open slices whose form is known. -/
namespace Go.Ab
section
variable {k : Blk} {o l c b : Nat} {h : Hp}
theorem fv_n : Sh.nil.v b = .ns := (rfl)
theorem fv_sl : (Sh.sl k o l c).v b = .sl b o l c := (rfl)
theorem fv_sg : (Sh.sg k o l).v b = .sg b o l := (rfl)
theorem fh_n : Sh.nil.h b = [] := (rfl)
theorem fh_sl : (Sh.sl k o l c).h b = [(b, k)] := (rfl)
theorem fh_sg : (Sh.sg k o l).h b = [(b, k)] := (rfl)
end
attribute [go_sem] fv_n fv_sl fv_sg fh_n fh_sl fh_sg
end Go.Ab
end
