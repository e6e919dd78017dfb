/- The abstract layer, part 15: code: regions in the text's order, control, loops. -/
import Derived.Test.YtiacdfhaopnekaaAbRun
namespace Go.Ab
set_option linter.unusedVariables false
set_option linter.unusedSimpArgs false

inductive ICode where
  | skip
  | reg (ops : List IOper)
  | dreg (ops : List (IOper × List Nat))
  | seq (a b : ICode)
  | cond (c : Opd) (a b : ICode)
  | block (id : Nat) (c : ICode)
  | loop (c : ICode)
  | scope (c : ICode)
  | exit (id : Nat)
  | ret
  | bad

def compOper (P : Program) (ops : List Oper) (sp : List Nat) (o : Oper) : IOper :=
  match o.guard with
  | none => { dst := o.dst, op := compOp P o.op, guard := none, spl := match o.dst with | some d => inl sp d | none => false }
  | some (j, b) => match (ops[j]?).bind (·.dst) with
    | some d => { dst := o.dst, op := compOp P o.op, guard := some (d, b), spl := match o.dst with | some d => inl sp d | none => false }
    | none => { dst := o.dst, op := .bad, guard := none, spl := false }

def guardTmps (ops : List Oper) : List Nat := ops.filterMap fun o => match o.guard with
  | some (j, _) => (ops[j]?).bind (·.dst)
  | none => none

def eput (d : Option Nat) (v : AV) (e : Env) : Env :=
  match d with
  | some t => (t, v) :: e
  | none => e

/-- Both ways of a test. -/
def spB (c : Bool) (a b : Prop) : Prop := (c = true → a) ∧ (c = false → b)

/-- The value handed on; a flagged test parts the way. -/
def fin1 (s : Bool) (v : AV) (k : AV → Prop) : Prop :=
  match s, v with
  | true, .b c => spB c (k (.b true)) (k (.b false))
  | _, v => k v

theorem fin1_elim {s : Bool} {v : AV} {k : AV → Prop} (h : fin1 s v k) : k v := by
  unfold fin1 at h
  split at h
  · rename_i c
    cases c
    · exact h.2 rfl
    · exact h.1 rfl
  · exact h

def wantedI (e : Env) : Option (Nat × Bool) → Option Bool
  | none => some true
  | some (t, b) => match eget e t with
    | some (.b c) => some (c == b)
    | some (.tup []) => some false
    | _ => none

/-- A value that must be there. -/
def gd {α : Type} (x : Option α) (k : α → Prop) : Prop :=
  match x with
  | some a => k a
  | none => False

theorem gd_elim {α : Type} {x : Option α} {k : α → Prop} (h : gd x k) : ∃ a, x = some a ∧ k a := by
  cases x with
  | none => exact h.elim
  | some a => exact ⟨a, rfl, h⟩

def runOps (cx : Cx) : List IOper → Env → Hp → Nat → (Env → Hp → Nat → Prop) → Prop
  | [], e, h, n, K => K e h n
  | o :: os, e, h, n, K => gd (wantedI e o.guard) fun b => match b with
    | true => gd (stepC cx o.op e h n) fun r => r.1 = true ∧ fin1 o.spl r.2.v fun v => runOps cx os (eput o.dst v e) (r.2.appL h) r.2.n K
    | false => runOps cx os (eput o.dst (.tup []) e) h n K

structure Rel (D : Nat → Prop) (φ : Phi) (e : Env) (h : Hp) (n N : Nat) (a : Act) (w : World) : Prop where
  lt : ∀ b, D b → b < n
  env : ∀ t v, eget e t = some v → VRel D φ v (a.tmps.getD t undef)
  heap : HR D φ (hget h) w
  size : a.tmps.size = N
  defers : a.defers = []

abbrev Kont := Exit → Env → Hp → Nat → Prop

def PostK (N n0 : Nat) (D0 : Nat → Prop) (φ0 : Phi) (H0 : Hf) (w0 : World) (K : Kont) (ex : Exit) (a : Act) (w : World) : Prop :=
  ∃ D φ e h n, K ex e h n ∧ n0 ≤ n ∧ Rel D φ e h n N a w ∧ Stp D0 φ0 H0 w0 D φ (hget h) w

def WP (P : Program) (N n0 : Nat) (c : Code) (K : Kont) (e : Env) (h : Hp) (n : Nat) : Prop :=
  ∀ D0 φ0 H0 w0, (∀ b, D0 b → b < n0) → n0 ≤ n → ∀ D φ a w, Rel D φ e h n N a w → Stp D0 φ0 H0 w0 D φ (hget h) w →
    c.wp P (fun ex a' w' => PostK N n0 D0 φ0 H0 w0 K ex a' w') a w

theorem hglob_spec {h : Hp} {g : Nat} {v : AV} (hv : hglob h g = some v) : ∃ c k, v = .p c 0 ∧ (c, k) ∈ h ∧ k.gid = some g := by
  induction h with
  | nil => simp [hglob] at hv
  | cons x h ih =>
    obtain ⟨c, k⟩ := x
    simp only [hglob] at hv
    split at hv
    · rename_i g' hg'
      cases hb : Nat.beq g' g
      · rw [hb] at hv
        obtain ⟨c', k', h1, h2, h3⟩ := ih hv
        exact ⟨c', k', h1, List.mem_cons_of_mem _ h2, h3⟩
      · rw [hb] at hv
        have := Nat.eq_of_beq_eq_true hb
        subst this
        simp at hv
        exact ⟨c, k, hv.symm, List.mem_cons_self, hg'⟩
    · obtain ⟨c', k', h1, h2, h3⟩ := ih hv
      exact ⟨c', k', h1, List.mem_cons_of_mem _ h2, h3⟩

section
variable {P : Program} {D : Nat → Prop} {φ : Phi} {w : World} {n N n0 : Nat} {e : Env} {h : Hp} {E : Eff} {cx : Cx} {a : Act}

/-- Globals name blocks that are looked up by the first entry: the list bears no name twice where a global's is concerned. -/
def gOK (h : Hp) : Prop := ∀ g v, hglob h g = some v → ∃ c k, v = .p c 0 ∧ hget h c = some k ∧ k.gid = some g

theorem hglobC_spec {h : Hp} {g : Nat} {v : AV} (hv : hglobC h g = some v) : ∃ c k, v = .p c 0 ∧ hget h c = some k ∧ k.gid = some g := by
  unfold hglobC at hv
  simp only [Option.bind_eq_some_iff] at hv
  obtain ⟨u, _, hv⟩ := hv
  cases u with
  | p c o =>
    simp only [Option.bind_eq_some_iff] at hv
    obtain ⟨k, hk, hv⟩ := hv
    cases hg : k.gid with
    | none => rw [hg] at hv; cases hv
    | some g' =>
      rw [hg] at hv
      simp only at hv
      cases hb : Nat.beq g' g
      · rw [hb] at hv; simp at hv
      · rw [hb] at hv
        simp only [cond_true, Option.some.injEq] at hv
        have := Nat.eq_of_beq_eq_true hb
        subst this
        exact ⟨c, k, hv.symm, hk, hg⟩
  | _ => cases hv

theorem opd_relG {D : Nat → Prop} {φ : Phi} {e : Env} {h : Hp} {a : Act} {w : World} {y : Operand} {x : Opd} {v : AV} (hR : ∀ t v, y = .tmp t → eget e t = some v → VRel D φ v (a.tmps.getD t undef)) (hc : cO y = some x) (hH : HR D φ (hget h) w) (hv : x.ev e h = some v) : VRel D φ v (a.eval y) := by
  cases y with
  | tmp t =>
    simp only [cO, Option.some.injEq] at hc; subst hc
    exact hR t v rfl hv
  | const u =>
    simp only [cO] at hc
    obtain ⟨q, hq, rfl⟩ := Option.map_eq_some_iff.1 hc
    simp only [Opd.ev, Option.some.injEq] at hv; subst hv
    exact avOf_rel hq
  | global g =>
    simp only [cO, Option.some.injEq] at hc; subst hc
    obtain ⟨c, k, rfl, hk, hg⟩ := hglobC_spec hv
    obtain ⟨hd, hb⟩ := hH.at_ c k hk
    obtain ⟨h1, h2⟩ := hb.gid g hg
    have := VRel.p (D := D) (φ := φ) c 0 hd
    rw [h1, h2] at this
    exact this
  | func f =>
    simp only [cO, Option.some.injEq] at hc; subst hc
    simp only [Opd.ev, Option.some.injEq] at hv; subst hv
    exact VRel.fn' .nil

theorem opd_rel {y : Operand} {x : Opd} {v : AV} (hR : ∀ t v, y = .tmp t → eget e t = some v → VRel D φ v (a.tmps.getD t undef)) (hc : cO y = some x) (hg : ∀ g, y ≠ .global g) (hv : x.ev e h = some v) : VRel D φ v (a.eval y) := by
  cases y with
  | tmp t =>
    simp only [cO, Option.some.injEq] at hc; subst hc
    exact hR t v rfl hv
  | const u =>
    simp only [cO] at hc
    obtain ⟨q, hq, rfl⟩ := Option.map_eq_some_iff.1 hc
    simp only [Opd.ev, Option.some.injEq] at hv; subst hv
    exact avOf_rel hq
  | global g => exact absurd rfl (hg g)
  | func f =>
    simp only [cO, Option.some.injEq] at hc; subst hc
    simp only [Opd.ev, Option.some.injEq] at hv; subst hv
    exact VRel.fn' .nil

theorem eget_eput {d : Option Nat} {v : AV} {t : Nat} {u : AV} (h : eget (eput d v e) t = some u) : (d = some t ∧ u = v) ∨ (d ≠ some t ∧ eget e t = some u) := by
  cases d with
  | none => exact .inr ⟨by simp, h⟩
  | some s =>
    simp only [eput, eget] at h
    by_cases hs : t = s
    · subst hs; simp at h; exact .inl ⟨rfl, h.symm⟩
    · rw [beq_ne hs] at h; exact .inr ⟨by simp; exact fun e => hs e.symm, h⟩

theorem put_getD {a : Act} {d : Option Nat} {u : Value} {t : Nat} (hd : d ≠ some t) : (a.put d u).tmps.getD t undef = a.tmps.getD t undef := by
  cases d with
  | none => rfl
  | some s =>
    have : s ≠ t := fun e => hd (by rw [e])
    simp [Act.put, Array.getD_eq_getD_getElem?, Array.getElem?_setIfInBounds_ne this]

theorem put_getD_self {a : Act} {t : Nat} {u : Value} (ht : t < a.tmps.size) : (a.put (some t) u).tmps.getD t undef = u := by
  simp [Act.put, ht]

theorem put_size {a : Act} {d : Option Nat} {u : Value} : (a.put d u).tmps.size = a.tmps.size := by
  cases d <;> simp [Act.put]

theorem put_defers {a : Act} {d : Option Nat} {u : Value} : (a.put d u).defers = a.defers := by
  cases d <;> rfl

/-- What a list of operations may name: no package variables. -/
def noGlob (o : Op) : Prop := ∀ y ∈ o.operands.toList, ∀ g, y ≠ .global g

theorem und_rel : VRel D φ (.tup []) undef := VRel.tup [] #[] rfl (fun i a u ha => by simp at ha)

theorem Rel.put {d : Option Nat} {v : AV} {u : Value} {D' : Nat → Prop} {φ' : Phi} {h' : Hp} {n' : Nat} {w' : World} (hR : Rel D φ e h n N a w) (hd : ∀ t, d = some t → t < N) (hsub : ∀ b, D b → D' b) (hag : Agree D φ φ')
    (hlt : ∀ b, D' b → b < n') (hv : VRel D' φ' v u) (hh : HR D' φ' (hget h') w') : Rel D' φ' (eput d v e) h' n' N (a.put d u) w' := by
  refine ⟨hlt, fun t x hx => ?_, hh, by rw [put_size]; exact hR.size, by rw [put_defers]; exact hR.defers⟩
  rcases eget_eput hx with ⟨rfl, rfl⟩ | ⟨hne, hx⟩
  · rw [put_getD_self (by rw [hR.size]; exact hd t rfl)]; exact hv
  · rw [put_getD hne]; exact (hR.env t x hx).mono hsub hag

theorem wanted_rel {ops : Array Oper} {o : Oper} {io : IOper} {b : Bool} (hR : ∀ d c v, io.guard = some (d, c) → eget e d = some v → VRel D φ v (a.tmps.getD d undef)) (hio : io.guard = (compOper P ops.toList [] o).guard) (hg : ∀ j c, o.guard = some (j, c) → ((ops.toList[j]?).bind (·.dst)).isSome = true)
    (hw : wantedI e io.guard = some b) : Region.wanted o (yielded ops a.tmps) = b := by
  have hR' := hR
  rw [hio] at hw hR'
  cases hog : o.guard with
  | none => simp [compOper, hog, wantedI] at hw; subst hw; simp [Region.wanted, hog]
  | some q =>
    obtain ⟨j, c⟩ := q
    obtain ⟨d, hd⟩ := Option.isSome_iff_exists.1 (hg j c hog)
    simp only [compOper, hog, hd, wantedI] at hw
    have hR' := fun v => hR' d c v (by simp only [compOper, hog, hd])
    simp only [Region.wanted, hog, yielded]
    have hd' : (ops[j]?).bind (·.dst) = some d := by rw [← hd]; simp
    rw [hd']
    split at hw
    · rename_i x hx
      cases hw
      have := hR' _ hx
      generalize hu : a.tmps.getD d undef = u at this
      cases this
      have hlt : d < a.tmps.size := by
        rcases Nat.lt_or_ge d a.tmps.size with h' | h'
        · exact h'
        · simp [Array.getD_eq_getD_getElem?, Array.getElem?_eq_none h', undef] at hu
      have hg' : a.tmps[d]? = some (.bool x) := by
        rw [Array.getElem?_eq_getElem hlt]
        simp [Array.getD, hlt] at hu
        rw [hu]
      simp [hg']
    · rename_i hx
      cases hw
      have := hR' _ hx
      obtain ⟨m, hm, hl⟩ := this.tup_inv
      have := hl.unnil
      subst this
      cases hg' : a.tmps[d]? with
      | none => simp only [Option.bind_some, hg']; cases c <;> rfl
      | some u =>
        have : u = .tuple #[] := by
          simp [Array.getD_eq_getD_getElem?, hg'] at hm; exact hm
        subst this
        simp only [Option.bind_some, hg']; cases c <;> rfl
    · cases hw

def dstOK (N : Nat) (ops : List Oper) : Bool := ops.all fun o => match o.dst with | some d => decide (d < N) | none => true

def guardOK (ops : List Oper) : Bool := ops.all fun o => match o.guard with
  | some (j, _) => ((ops[j]?).bind (·.dst)).isSome
  | none => true

def globOK (ops : List Oper) : Bool := ops.all fun o => o.op.operands.all fun y => match y with | .global _ => false | _ => true

theorem runOps_sound (hcx : Sound P cx) {K : Kont} {D0 : Nat → Prop} {φ0 : Phi} {H0 : Hf} {w0 : World} {ops : Array Oper} {sp : List Nat} (hn0 : ∀ b, D0 b → b < n0) (hgu : guardOK ops.toList = true) :
    ∀ (l : List Oper), (∀ o ∈ l, o ∈ ops.toList) → dstOK N l = true → ∀ (e : Env) (h : Hp) (n : Nat) (D : Nat → Prop) (φ : Phi) (a : Act) (w : World), n0 ≤ n →
      runOps cx (l.map (compOper P ops.toList sp)) e h n (fun e h n => K .normal e h n) → Rel D φ e h n N a w → Stp D0 φ0 H0 w0 D φ (hget h) w →
      wpList P ops (fun ex a' w' => PostK N n0 D0 φ0 H0 w0 K ex a' w') l a w
  | [], _, _, e, h, n, D, φ, a, w, hn, hrun, hR, hS => ⟨D, φ, e, h, n, hrun, hn, hR, hS⟩
  | o :: l, hmem, hdst, e, h, n, D, φ, a, w, hn, hrun, hR, hS => by
    simp only [List.map_cons, runOps] at hrun
    obtain ⟨b, hb, hrun⟩ := gd_elim hrun
    simp only [dstOK, List.all_cons, Bool.and_eq_true] at hdst
    have hog : ∀ j c, o.guard = some (j, c) → ((ops.toList[j]?).bind (·.dst)).isSome = true := fun j c hg => by
      have := List.all_eq_true.1 hgu o (hmem o (List.mem_cons_self))
      simpa [hg] using this
    have hgeq : (compOper P ops.toList sp o).guard = (compOper P ops.toList [] o).guard := by
      unfold compOper; split
      · rfl
      · split <;> rfl
    have hdeq : (compOper P ops.toList sp o).dst = o.dst := by
      unfold compOper; split
      · rfl
      · split <;> rfl
    have hopeq : (compOper P ops.toList sp o).op = compOp P o.op := by
      unfold compOper; split
      · rfl
      · rename_i j c hg
        obtain ⟨d, hd⟩ := Option.isSome_iff_exists.1 (hog j c hg)
        rw [hd]
    have hdN : ∀ t, o.dst = some t → t < N := fun t ht => by
      have := hdst.1; rw [ht] at this; exact of_decide_eq_true this
    have hw := wanted_rel (P := P) (o := o) (D := D) (φ := φ) (a := a) (fun d c v _ hv => hR.env d v hv) hgeq hog hb
    have ih := fun e h n D φ a w => runOps_sound hcx (K := K) (sp := sp) (D0 := D0) (φ0 := φ0) (H0 := H0) (w0 := w0) hn0 hgu l (fun o ho => hmem o (List.mem_cons_of_mem _ ho)) hdst.2 e h n D φ a w
    unfold wpList
    rw [hw]
    cases b
    · simp only [Bool.false_eq_true, if_false]
      simp only at hrun
      rw [hdeq] at hrun
      exact ih _ h n D φ _ w hn hrun (hR.put hdN (fun _ h => h) (Agree.refl _ _) hR.lt und_rel hR.heap) hS
    · simp only [if_true]
      left
      simp only at hrun
      obtain ⟨r, hr, hrun⟩ := gd_elim hrun
      obtain ⟨c, E⟩ := r
      obtain ⟨hc, hrun⟩ := hrun
      simp only at hc hrun
      subst hc
      have hrun := fin1_elim hrun
      rw [hopeq] at hr
      rw [hdeq] at hrun
      have hfresh : ∀ b, n ≤ b → b < E.n → ¬ D b := fun b hb _ hD => by have := hR.lt b hD; omega
      have hH0 : HR D φ (only (hget h) E.rd) w := by
        refine ⟨fun b k hb => hR.heap.at_ b k ?_, fun b1 b2 k1 k2 hne h1 h2 hk => hR.heap.sep b1 b2 k1 k2 hne ?_ ?_ hk⟩
        · unfold only at hb; cases hi : inl E.rd b <;> simp [hi] at hb; exact hb
        · unfold only at h1; cases hi : inl E.rd b1 <;> simp [hi] at h1; exact h1
        · unfold only at h2; cases hi : inl E.rd b2 <;> simp [hi] at h2; exact h2
      refine op_wp hcx hr hfresh (fun y hy x hx v hv => opd_relG (fun t v _ hv => hR.env t v hv) hx hR.heap hv) hH0 (fun φ' u w' hle hv hst hro hmd hnw => ?_)
      · have hfull := lift_frame hR.heap (fun b k hb => by unfold only at hb; cases hi : inl E.rd b <;> simp [hi] at hb; exact hb) hmd hst hro (fun _ _ _ _ _ => .inr trivial)
        rw [← appL_app] at hfull
        have hlt : ∀ b, Dn D n E.n b → b < E.n := fun b hb => hb.elim (fun h => by have := hR.lt b h; omega) (fun h => h.2)
        exact ih _ _ _ _ φ' _ w' (by omega) hrun (hR.put hdN hfull.sub hfull.agree hlt hv hfull.hr) (hS.trans hfull)

end
end Go.Ab
