/- Texts laid as one: AbDfr AbDfr2 AbDfr3. -/
import Derived.Test.YtlokbfkdgnopeaaGreatDoorAbFzs
import Derived.RecoverIn
section
/- The abstract layer, part 75: functions that begin with a deferred closure; the closure may recover. -/
namespace Go.Ab
set_option linter.unusedVariables false
set_option linter.unusedSimpArgs false
def cx0 : Cx := fun _ _ _ _ => none
theorem cx0_sound {P : Program} : Sound P cx0 := fun f args h n c E hc _ => by cases hc
def rcvK (m : FrameMode) (k : FrameMode → AV → Prop) : Prop :=
 match m with
 | .returning => k .returning .ni
 | .panicking [{ v := .iface t u, recovered := false, goexit := false }] => k (.panicking [{ v := .iface t u, recovered := true }]) (.k t u)
 | _ => False
theorem rcvK_r {k : FrameMode → AV → Prop} : rcvK .returning k = k .returning .ni := (rfl)
theorem rcvK_p {t : TypeId} {u : Value} {k : FrameMode → AV → Prop} : rcvK (.panicking [{ v := .iface t u, recovered := false }]) k = k (.panicking [{ v := .iface t u, recovered := true }]) (.k t u) := (rfl)
def isRcv : IOp → Bool
 | .rcv => true
 | _ => false
abbrev SKont := FrameMode → Exit → Env → Hp → Nat → Prop
def runS : List IOper → FrameMode → Env → Hp → Nat → SKont → Prop
 | [], m, e, h, n, K => K m .normal e h n
 | ⟨d, o, none, s⟩ :: os, m, e, h, n, K => match isRcv o with
  | true => rcvK m fun m v => runS os m (eput d v e) h n K
  | false => gd4 (stepD cx0 o e h n) fun c p v h n => andB c (p = none ∧ fin1 s v fun v => runS os m (eput d v e) h n K)
 | _ :: _, _, _, _, _, _ => False
def iwS : ICode → FrameMode → SKont → Env → Hp → Nat → Prop
 | .skip, m, K, e, h, n => K m .normal e h n
 | .reg ops, m, K, e, h, n => runS ops m e h n K
 | .seq a b, m, K, e, h, n => iwS a m (fun m ex e h n => match ex with | .normal => iwS b m K e h n | ex => K m ex e h n) e h n
 | .cond c a b, m, K, e, h, n => gd (c.ev e h) fun v => match v with
  | .b x => spB x (iwS a m K e h n) (iwS b m K e h n)
  | _ => False
 | .ret, m, K, e, h, n => K m .ret e h n
 | .dreg ops, m, K, e, h, n => rD cx0 ops 0 [] e h n (fun ex e h n => K m ex e h n)
 | _, _, _, _, _, _ => False
/-! ### the model's recover -/
def notRcv (x : IOp) : Bool := !isRcv x
def NR (x : Option IOp) : Prop := ∀ y, x = some y → notRcv y = true
theorem NR.bind {α : Type} {x : Option α} {f : α → Option IOp} (h : ∀ a, NR (f a)) : NR (x.bind f) := fun y hy => by
 simp only [Option.bind_eq_some_iff] at hy; obtain ⟨a, _, hy⟩ := hy; exact h a y hy
theorem NR.map {α : Type} {x : Option α} {f : α → IOp} (h : ∀ a, notRcv (f a) = true) : NR (x.map f) := fun y hy => by
 obtain ⟨a, _, rfl⟩ := Option.map_eq_some_iff.1 hy; exact h a
theorem NR.none : NR none := fun y hy => by cases hy
theorem NR.ite {c : Prop} [Decidable c] {x y : Option IOp} (h1 : NR x) (h2 : NR y) : NR (if c then x else y) := by split <;> assumption
theorem NR.orBad {x : Option IOp} (h : NR x) : notRcv (orBad x) = true := by
 cases x with
 | none => rfl
 | some y => exact h y rfl
theorem compOp_notRcv {P : Program} {o : Op} (ho : ∀ args tys, o ≠ .call ⟨.builtin .recover, args, tys⟩) : notRcv (compOp P o) = true := by
 cases o <;> simp only [compOp]
 case call c =>
  obtain ⟨callee, args, tys⟩ := c
  cases callee with
  | value f => exact NR.orBad (NR.bind fun _ => NR.map fun _ => rfl)
  | invoke r m => rfl
  | builtin b =>
   simp only
   repeat' split
   all_goals first
    | rfl
    | exact absurd rfl (ho _ _)
    | (refine NR.orBad ?_; repeat (first | (refine NR.bind (fun _ => ?_)) | exact NR.map (fun _ => rfl) | exact NR.none | refine NR.ite ?_ ?_))
 case makeFunc fn first caps =>
  cases fn with
  | func f => simp only; repeat' split
              all_goals first | rfl | exact NR.orBad (NR.map (fun _ => rfl))
  | _ => rfl
 all_goals (repeat' split)
 all_goals first
  | rfl
  | (refine NR.orBad ?_; repeat (first | (refine NR.bind (fun _ => ?_)) | exact NR.map (fun _ => rfl) | exact NR.none | refine NR.ite ?_ ?_))
theorem run_rcv {P : Program} {ρ : Operand → Value} {o : Oper} {w : World} (h : isRcv (compOp P o.op) = true) : (execOp ρ o).run P w = .ok .recover w := by
 cases ho : o.op with
 | call c =>
  obtain ⟨callee, args, tys⟩ := c
  rw [ho] at h
  by_cases hb : callee = .builtin .recover
  · subst hb
    simp only [execOp, ho, resolve, invoke, Sem.run_bind, Sem.run_pure, Result.andThen_ok, builtin]
  · have := compOp_notRcv (P := P) (o := .call ⟨callee, args, tys⟩) (fun a t e => hb (by cases e; rfl))
    simp [notRcv, h] at this
 | _ =>
  rw [ho] at h
  have := compOp_notRcv (P := P) (o := o.op) (by rw [ho]; simp)
  rw [ho] at this
  simp [notRcv, h] at this
def isDfr : IOp → Bool
 | .dfr _ _ => true
 | _ => false
def notDfr (x : IOp) : Bool := !isDfr x
theorem notDfr_ne {y : IOp} {x : Opd} {l : List Opd} (h : notDfr y = true) (e : y = .dfr x l) : False := by rw [e] at h; cases h
def ND (x : Option IOp) : Prop := ∀ y, x = some y → notDfr y = true
theorem ND.bind {α : Type} {x : Option α} {f : α → Option IOp} (h : ∀ a, ND (f a)) : ND (x.bind f) := fun y hy => by
 simp only [Option.bind_eq_some_iff] at hy; obtain ⟨a, _, hy⟩ := hy; exact h a y hy
theorem ND.map {α : Type} {x : Option α} {f : α → IOp} (h : ∀ a, notDfr (f a) = true) : ND (x.map f) := fun y hy => by
 obtain ⟨a, _, rfl⟩ := Option.map_eq_some_iff.1 hy; exact h a
theorem ND.none : ND none := fun y hy => by cases hy
theorem ND.ite {c : Prop} [Decidable c] {x y : Option IOp} (h1 : ND x) (h2 : ND y) : ND (if c then x else y) := by split <;> assumption
theorem ND.orBad {x : Option IOp} (h : ND x) : notDfr (orBad x) = true := by
 cases x with
 | none => rfl
 | some y => exact h y rfl
theorem compOp_notDfr {P : Program} {o : Op} (ho : ∀ c, o ≠ .defer c) : notDfr (compOp P o) = true := by
 cases o <;> simp only [compOp]
 case defer c => exact absurd rfl (ho c)
 case call c =>
  obtain ⟨callee, args, tys⟩ := c
  cases callee with
  | value f => exact ND.orBad (ND.bind fun _ => ND.map fun _ => rfl)
  | invoke r m => rfl
  | builtin b =>
   simp only
   repeat' split
   all_goals first
    | rfl
    | (refine ND.orBad ?_; repeat (first | (refine ND.bind (fun _ => ?_)) | exact ND.map (fun _ => rfl) | exact ND.none | refine ND.ite ?_ ?_))
 case makeFunc fn first caps =>
  cases fn with
  | func f => simp only; repeat' split
              all_goals first | rfl | exact ND.orBad (ND.map (fun _ => rfl))
  | _ => rfl
 all_goals (repeat' split)
 all_goals first
  | rfl
  | (refine ND.orBad ?_; repeat (first | (refine ND.bind (fun _ => ?_)) | exact ND.map (fun _ => rfl) | exact ND.none | refine ND.ite ?_ ?_))
/-! ### soundness -/
section
variable {P : Program} {N n0 : Nat}
def PostS (N n0 : Nat) (c0 : Frame) (cs : List Frame) (D0 : Nat → Prop) (φ0 : Phi) (H0 : Hf) (w0 : World) (K : SKont) (ex : Exit) (a : Act) (cs' : List Frame) (w : World) : Prop :=
 ∃ m D φ e h n, K m ex e h n ∧ n0 ≤ n ∧ cs' = { c0 with mode := m } :: cs ∧ a.defers = [] ∧ Rel D φ e h n N (w0.heap.size, []) a w ∧ Stp D0 φ0 H0 w0 D φ (hget h) w
theorem runS_sound {c0 : Frame} {cs : List Frame} {K : SKont} {D0 : Nat → Prop} {φ0 : Phi} {H0 : Hf} {w0 : World} {ops : Array Oper} {sp : List Nat} (hn0 : ∀ b, D0 b → b < n0) (hgu : guardOK ops.toList = true) :
 ∀ (l : List Oper) (i : Nat), (∀ j, l[j]? = ops[i + j]?) → dstOK N l = true → ∀ (m : FrameMode) (e : Env) (h : Hp) (n : Nat) (D : Nat → Prop) (φ : Phi) (a : Act) (w : World), n0 ≤ n → a.defers = [] →
  runS (l.map (compOper P ops.toList sp)) m e h n K → Rel D φ e h n N (w0.heap.size, []) a w → Stp D0 φ0 H0 w0 D φ (hget h) w →
  wpOpsSIn (Fw none) (0 - 1) P ops (PostS N n0 c0 cs D0 φ0 H0 w0 K) (List.range' i l.length) a ({ c0 with mode := m } :: cs) w
 | [], i, _, _, m, e, h, n, D, φ, a, w, hn, hd0, hrun, hR, hS => ⟨m, D, φ, e, h, n, hrun, hn, rfl, hd0, hR, hS⟩
 | o :: l, i, hl, hdst, m, e, h, n, D, φ, a, w, hn, hd0, hrun, hR, hS => by
  have ho : ops[i]? = some o := by simpa using (hl 0).symm
  have hl' : ∀ j, l[j]? = ops[(i + 1) + j]? := fun j => by have := hl (j + 1); simpa [Nat.add_assoc, Nat.add_comm 1 j] using this
  simp only [dstOK, List.all_cons, Bool.and_eq_true] at hdst
  have hom : o ∈ ops.toList := List.mem_of_getElem? (i := i) (by simpa using ho)
  have hdN : ∀ t, o.dst = some t → t < N := fun t ht => by
   have := hdst.1; rw [ht] at this; exact of_decide_eq_true this
  simp only [List.length_cons, List.range'_succ, wpOpsSIn, ho]
  refine ⟨fun _ _ => trivial, ?_⟩
  cases hog : o.guard with
  | some q =>
   obtain ⟨j, b⟩ := q
   have h1 : (ops.toList[j]?.bind (·.dst)).isSome = true := by
    have := List.all_eq_true.1 hgu o hom; simpa [hog] using this
   obtain ⟨d, hd⟩ := Option.isSome_iff_exists.1 h1
   simp only [List.map_cons] at hrun
   obtain ⟨s0, hs0⟩ : ∃ s0, compOper P ops.toList sp o = ⟨o.dst, compOp P o.op, some (d, b), s0⟩ := by
    simp only [compOper, hog, hd]; exact ⟨_, rfl⟩
   rw [hs0] at hrun
   exact hrun.elim
  | none =>
   have hw : Region.wanted o (yielded ops a.tmps) = true := by simp [Region.wanted, hog]
   rw [hw]
   simp only [if_true]
   simp only [List.map_cons] at hrun
   obtain ⟨s0, hs0⟩ : ∃ s0, compOper P ops.toList sp o = ⟨o.dst, compOp P o.op, none, s0⟩ := by
    simp only [compOper, hog]; exact ⟨_, rfl⟩
   rw [hs0] at hrun
   simp only [runS] at hrun
   cases hr : isRcv (compOp P o.op) with
   | true =>
    rw [hr] at hrun
    simp only at hrun
    rw [run_rcv hr]
    simp only
    unfold rcvK at hrun
    split at hrun
    · -- nothing to recover
      simp only [recoverD]
      refine runS_sound hn0 hgu l (i + 1) hl' hdst.2 _ _ h n D φ _ w hn (by rw [put_defers]; exact hd0) hrun ?_ hS
      exact hR.put hR.defers hdN (fun _ h => h) (Agree.refl _ _) hR.lt .ni hR.heap
    · rename_i t u
      simp only [recoverD]
      refine runS_sound hn0 hgu l (i + 1) hl' hdst.2 _ _ h n D φ _ w hn (by rw [put_defers]; exact hd0) hrun ?_ hS
      exact hR.put hR.defers hdN (fun _ h => h) (Agree.refl _ _) hR.lt (.k t u) hR.heap
    · exact hrun.elim
   | false =>
    rw [hr] at hrun
    simp only at hrun
    unfold stepD at hrun
    cases hst : stepC cx0 (compOp P o.op) e h n with
    | none => rw [hst] at hrun; exact hrun.elim
    | some r =>
     obtain ⟨c, E⟩ := r
     rw [hst] at hrun
     obtain ⟨hc, hp, hrun⟩ := hrun
     simp only at hc hp
     subst hc
     have hrun : runS (l.map (compOper P ops.toList sp)) m (eput o.dst E.v e) (E.appL h) E.n K := fin1_elim (k := fun v => runS (l.map (compOper P ops.toList sp)) m (eput o.dst v e) (E.appL h) E.n K) hrun
     have hst' : step (compOp P o.op) e h n = some (true, E) := by
      unfold stepC at hst
      split at hst
      · simp only [Option.bind_eq_some_iff] at hst
        obtain ⟨v, _, hst⟩ := hst
        split at hst <;> first | (simp only [Option.bind_eq_some_iff] at hst; obtain ⟨l, _, hst⟩ := hst; cases hst) | cases hst
      · simp only [Option.bind_eq_some_iff] at hst
        obtain ⟨v, _, hst⟩ := hst
        split at hst
        · simp only [Option.some.injEq, Prod.mk.injEq, true_and] at hst; subst hst; cases hp
        · cases hst
      · exact hst
     have hfresh : ∀ b, n ≤ b → b < E.n → ¬ D b := fun b hb _ hD => by have := hR.lt b hD; omega
     have hH0 : HR D φ (only (hget h) E.rd) w := hR.heap.sub (fun b k hb => by
      unfold only at hb; cases hi : inl E.rd b <;> simp [hi] at hb; exact hb)
     obtain ⟨φ', u, nx, w', hrr, hnx, hle, hv, hst2, hro, hmd, hnw⟩ := step_sound (P := P) (ρ := a.eval) (w := w) (o := o) hst' rfl (fun hlt => hfresh n (Nat.le_refl _) hlt) (fun y hy x hx v hv => opd_relG (fun t v _ hv => hR.env t v hv) hx hR.heap hv) hH0
     have hfull := lift_frame hR.heap (fun b k hb => by unfold only at hb; cases hi : inl E.rd b <;> simp [hi] at hb; exact hb) hmd hst2 hro (fun _ _ _ _ _ => .inr trivial)
     rw [← appL_app] at hfull
     have hlt : ∀ b, Dn D n E.n b → b < E.n := fun b hb => hb.elim (fun h => by have := hR.lt b h; omega) (fun h => h.2)
     have fin : wpOpsSIn (Fw none) (0 - 1) P ops (PostS N n0 c0 cs D0 φ0 H0 w0 K) (List.range' (i + 1) l.length) (a.put o.dst u) ({ c0 with mode := m } :: cs) w' :=
      runS_sound hn0 hgu l (i + 1) hl' hdst.2 _ _ _ _ _ φ' _ w' (by omega) (by rw [put_defers]; exact hd0) hrun
       (hR.put (hR.defers.stays hR.heap hfull.frm) hdN hfull.sub hfull.agree hlt hv hfull.hr) (hS.trans hfull)
     rw [hrr]
     rcases hnx with rfl | ⟨rfl, rfl⟩
     · exact fin
     · exact fin
theorem iwS_sound {c0 : Frame} {cs : List Frame} {ct : List Nat} {D0 : Nat → Prop} {φ0 : Phi} {H0 : Hf} {w0 : World} (hm : P.follows .mixedOrders = true) (hn0 : ∀ b, D0 b → b < n0) :
 ∀ (c : Code) (K : SKont) (m : FrameMode) (e : Env) (h : Hp) (n : Nat), iwS (compC P ct N c) m K e h n → ∀ (D : Nat → Prop) (φ : Phi) (a : Act) (w : World), n0 ≤ n → a.defers = [] → Rel D φ e h n N (w0.heap.size, []) a w → Stp D0 φ0 H0 w0 D φ (hget h) w →
  c.wpSIn (Fw none) (0 - 1) P (PostS N n0 c0 cs D0 φ0 H0 w0 K) a ({ c0 with mode := m } :: cs) w := by
 intro c
 induction c with
 | skip =>
  intro K m e h n hi D φ a w hn hd hR hS
  exact wpSIn_of_wpIn rfl (wpIn_skip ⟨m, D, φ, e, h, n, hi, hn, rfl, hd, hR, hS⟩)
 | region id ops draw =>
  intro K m e h n hi D φ a w hn hd hR hS
  simp only [compC] at hi
  split at hi
  · rename_i hc
    simp only [Bool.and_eq_true, Bool.or_eq_true, Bool.not_eq_true'] at hc
    obtain ⟨⟨hc1, hc2⟩, hc4⟩ := hc
    cases draw
    · simp only [Bool.false_eq_true, if_false, iwS] at hi
      refine wpSIn_region ?_
      have := runS_sound (P := P) (N := N) (n0 := n0) (c0 := c0) (cs := cs) (K := K) (D0 := D0) (φ0 := φ0) (H0 := H0) (w0 := w0) (ops := ops) hn0 hc2 ops.toList 0 (by simp) hc1 m e h n D φ a w hn hd hi hR hS
      rw [List.range_eq_range']
      simpa using this
    · simp only [if_true, iwS] at hi
      refine wpSIn_of_wpIn rfl (wpIn_mono (runD_soundD (ro := none) (cx := cx0) cx0_sound hm hn0 hc2 hc1 (hc4.resolve_left (by simp)).1 (hc4.resolve_left (by simp)).2 hn (runD_of_rD hi) hR hS) (fun ex a' w' hp => ?_))
      obtain ⟨⟨D', φ', e', h', n', hk, hn', hR', hS'⟩, hdf⟩ := hp
      exact ⟨m, D', φ', e', h', n', hk, hn', rfl, hdf.trans hd, hR', hS'⟩
  · exact hi.elim
 | seq x y ihx ihy =>
  intro K m e h n hi D φ a w hn hd hR hS
  simp only [compC, iwS] at hi
  refine wpSIn_seq ?_
  intro b k hb hro hF hroom
  obtain ⟨ex, a', cs', w', hl, hp, harr⟩ := ihx _ m e h n hi D φ a w hn hd hR hS b k hb hro hF hroom
  refine ⟨ex, a', cs', w', hl, ?_, harr⟩
  obtain ⟨m', D', φ', e', h', n', hk, hn', rfl, hd', hR', hS'⟩ := hp
  cases ex with
  | normal => exact ihy K m' e' h' n' hk D' φ' a' w' hn' hd' hR' hS'
  | exit id => exact ⟨m', D', φ', e', h', n', hk, hn', rfl, hd', hR', hS'⟩
  | goto l => exact ⟨m', D', φ', e', h', n', hk, hn', rfl, hd', hR', hS'⟩
  | ret => exact ⟨m', D', φ', e', h', n', hk, hn', rfl, hd', hR', hS'⟩
  | panic ch => exact ⟨m', D', φ', e', h', n', hk, hn', rfl, hd', hR', hS'⟩
  | outgrown => exact ⟨m', D', φ', e', h', n', hk, hn', rfl, hd', hR', hS'⟩
 | cond c x y ihx ihy =>
  intro K m e h n hi D φ a w hn hd hR hS
  simp only [compC] at hi
  split at hi
  · exact hi.elim
  · rename_i x' hng hc
    simp only [iwS] at hi
    obtain ⟨v, hv, hi⟩ := gd_elim hi
    split at hi
    · rename_i b
      have hvr : VRel D φ (.b b) (a.eval c) := opd_rel (fun t v _ hv => hR.env t v hv) hc (fun g hg => by subst hg; simp only [cO, Option.some.injEq] at hc; exact hng g hc.symm) hv
      generalize hu : a.eval c = u at hvr
      cases hvr
      refine wpSIn_cond hu ?_
      cases b
      · exact ihy K m e h n (hi.2 rfl) D φ a w hn hd hR hS
      · exact ihx K m e h n (hi.1 rfl) D φ a w hn hd hR hS
    · exact hi.elim
  · exact hi.elim
 | ret =>
  intro K m e h n hi D φ a w hn hd hR hS
  exact wpSIn_of_wpIn rfl (wpIn_ret ⟨m, D, φ, e, h, n, hi, hn, rfl, hd, hR, hS⟩)
 | label l =>
  intro K m e h n hi D φ a w hn hd hR hS
  exact wpSIn_of_wpIn rfl (wpIn_label ⟨m, D, φ, e, h, n, hi, hn, rfl, hd, hR, hS⟩)
 | rangeFunc g ps x y ihx ihy =>
  intro K m e h n hi
  simp only [compC] at hi
  split at hi <;> exact hi.elim
 | _ => intro K m e h n hi; exact hi.elim
/-! ### the function -/
def capsG (h : Hp) : List Nat → Option (List AV)
 | [] => some []
 | G :: r => (hglobC h G).bind fun v => (capsG h r).bind fun vs => some (v :: vs)
def endS (m : FrameMode) (ex : Exit) (k : Prop) : Prop :=
 match m, ex with
 | .returning, .normal => k
 | .returning, .ret => k
 | .panicking [{ v := _, recovered := true, goexit := false }], .normal => k
 | .panicking [{ v := _, recovered := true, goexit := false }], .ret => k
 | _, _ => False
def dfrE (rs : List IRes) (Ic : ICode) (Gs : List Nat) (Q : Option Value → AV → Hp → Nat → Prop) (m : FrameMode) (e : Env) (h : Hp) (n : Nat) : Prop :=
 gd (capsG h Gs) fun caps => iwS Ic m (fun m' ex' e' h' n' => endS m' ex' (gd (retV rs e h') fun r => r.1 = true ∧ Q none r.2 h' n')) (argEnv 0 caps) h n
def retDK (rs : List IRes) (Ic : ICode) (Gs : List Nat) (Q : Option Value → AV → Hp → Nat → Prop) : Kont := fun ex e h n =>
 match ex with
 | .normal => dfrE rs Ic Gs Q .returning e h n
 | .ret => dfrE rs Ic Gs Q .returning e h n
 | .panic ch => dfrE rs Ic Gs Q (.panicking ch) e h n
 | _ => False
def ptrs (h : Hp) : List AV → Option (List Nat)
 | [] => some []
 | .p b 0 :: r => (hget h b).bind fun k => match k.ro, k.gr, k.gid with
  | false, none, none => (ptrs h r).bind fun bs => some (b :: bs)
  | _, _, _ => none
 | _ => none
def setG (h : Hp) : List Nat → List Nat → Hp
 | b :: bs, G :: Gs => match hget h b with
  | some k => hset (setG h bs Gs) b { k with gid := some G }
  | none => setG h bs Gs
 | _, _ => h
def fnK (v : AV) (k : FuncId → List AV → Prop) : Prop := match v with
 | .fn g caps => k g caps
 | _ => False
theorem fnK_elim {v : AV} {k : FuncId → List AV → Prop} (h : fnK v k) : ∃ g caps, v = .fn g caps ∧ k g caps := by
 cases v with
 | fn g caps => exact ⟨g, caps, rfl, h⟩
 | _ => exact h.elim
def dfrK (x : Opd) (g : FuncId) (k : List Nat → Env → Hp → Nat → Prop) : Kont := fun ex e h n =>
 match ex with
 | .normal => gd (x.ev e h) fun v => fnK v fun g' caps => g' = g ∧ gd (ptrs h caps) fun bs => bs.Nodup ∧ ∀ Gs : List Nat, Gs.length = bs.length → Gs.Nodup → k Gs e (setG h bs Gs) n
 | _ => False
theorem ptrs_spec {h : Hp} : ∀ {caps : List AV} {bs : List Nat}, ptrs h caps = some bs → caps = bs.map (fun b => .p b 0) ∧ ∀ b ∈ bs, ∃ k, hget h b = some k ∧ k.ro = false ∧ k.gr = none ∧ k.gid = none
 | [], bs, hp => by simp [ptrs] at hp; subst hp; exact ⟨rfl, fun b hb => by cases hb⟩
 | v :: r, bs, hp => by
  unfold ptrs at hp
  split at hp
  · rename_i he; cases he
  · rename_i b r' he
    cases he
    simp only [Option.bind_eq_some_iff] at hp
    obtain ⟨k, hk, hp⟩ := hp
    split at hp
    · rename_i h1 h2 h3
      simp only [Option.bind_eq_some_iff, Option.some.injEq] at hp
      obtain ⟨bs', hb, rfl⟩ := hp
      obtain ⟨g1, g2⟩ := ptrs_spec hb
      refine ⟨by rw [g1]; rfl, fun c hc => ?_⟩
      rcases List.mem_cons.1 hc with rfl | hc
      · exact ⟨k, hk, h1, h2, h3⟩
      · exact g2 c hc
    · cases hp
  · cases hp
theorem setG_get {h : Hp} : ∀ {bs Gs : List Nat}, bs.Nodup → Gs.length = bs.length → (∀ b ∈ bs, ∃ k, hget h b = some k) → ∀ c, hget (setG h bs Gs) c = (match (bs.zip Gs).find? (fun q => q.1 == c) with | some q => (hget h c).map fun k => { k with gid := some q.2 } | none => hget h c)
 | [], Gs, _, _, _, c => by cases Gs <;> rfl
 | b :: bs, [], _, hl, _, c => by simp at hl
 | b :: bs, G :: Gs, hn, hl, hh, c => by
  obtain ⟨k, hk⟩ := hh b List.mem_cons_self
  have ih := setG_get (h := h) (List.nodup_cons.1 hn).2 (Gs := Gs) (by simpa using hl) (fun b' hb' => hh b' (List.mem_cons_of_mem _ hb')) c
  simp only [setG, hk, hget_hset, List.zip_cons_cons, List.find?_cons]
  by_cases hcb : c = b
  · subst hcb; simp [hk]
  · have : (b == c) = false := by simp; exact fun e => hcb e.symm
    rw [this, if_neg hcb, ih]
theorem capsG_rel {D : Nat → Prop} {φ : Phi} {h : Hp} {w : World} (hH : HR D φ (hget h) w) : ∀ {Gs : List Nat} {caps : List AV}, capsG h Gs = some caps → All2 D φ caps (Gs.map fun G => .pointer (some ⟨G, 0, none⟩))
 | [], caps, hc => by simp [capsG] at hc; subst hc; exact .nil
 | G :: Gs, caps, hc => by
  simp only [capsG, Option.bind_eq_some_iff, Option.some.injEq] at hc
  obtain ⟨v, hv, vs, hvs, rfl⟩ := hc
  refine .cons ?_ (capsG_rel hH hvs)
  obtain ⟨c, k, rfl, hk, hg⟩ := hglobC_spec hv
  obtain ⟨hd, hb⟩ := hH.at_ c k hk
  obtain ⟨h1, h2⟩ := hb.gid G hg
  have := VRel.p (D := D) (φ := φ) c 0 hd
  rw [h1, h2] at this
  exact this
theorem endS_inv {m : FrameMode} {ex : Exit} {k : Prop} (h : endS m ex k) : k ∧ settle m = .returning ∧ (ex = .normal ∨ ex = .ret) := by
 unfold endS at h
 split at h
 · exact ⟨h, rfl, .inl rfl⟩
 · exact ⟨h, rfl, .inr rfl⟩
 · exact ⟨h, rfl, .inl rfl⟩
 · exact ⟨h, rfl, .inr rfl⟩
 · exact h.elim
theorem runOps_pre {cx : Cx} (hcx : Sound P cx) {M : Nat × List Deferred} {K : Kont} {D0 : Nat → Prop} {φ0 : Phi} {H0 : Hf} {w0 : World} {ops : Array Oper} {sp : List Nat} {Q : Exit → Act → World → Prop} {l2 : List Oper} (hn0 : ∀ b, D0 b → b < n0) (hgu : guardOK ops.toList = true) :
 ∀ (l : List Oper), (∀ o ∈ l, o ∈ ops.toList) → dstOK N l = true → ∀ (e : Env) (h : Hp) (n : Nat) (D : Nat → Prop) (φ : Phi) (a : Act) (w : World), n0 ≤ n →
  runOps cx (l.map (compOper P ops.toList sp)) e h n K → Rel D φ e h n N M a w → Stp D0 φ0 H0 w0 D φ (hget h) w →
  (∀ D φ e h n a' w', K .normal e h n → n0 ≤ n → a'.defers = a.defers → Rel D φ e h n N M a' w' → Stp D0 φ0 H0 w0 D φ (hget h) w' → wpListIn (Fw none) 0 P ops Q l2 a' w') →
  (∀ ch e h n, ¬ K (.panic ch) e h n) →
  wpListIn (Fw none) 0 P ops Q (l ++ l2) a w
 | [], _, _, e, h, n, D, φ, a, w, hn, hrun, hR, hS, hK, _ => hK D φ e h n a w hrun hn rfl hR hS
 | o :: l, hmem, hdst, e, h, n, D, φ, a, w, hn, hrun, hR, hS, hK, hP => by
  simp only [List.map_cons, runOps] at hrun
  obtain ⟨b, hb, hrun⟩ := gd_elim hrun
  simp only [dstOK, List.all_cons, Bool.and_eq_true] at hdst
  have hog : ∀ j c, o.guard = some (j, c) → ((ops.toList[j]?).bind (·.dst)).isSome = true := fun j c hg => by
   have := List.all_eq_true.1 hgu o (hmem o (List.mem_cons_self))
   simpa [hg] using this
  have hgeq : (compOper P ops.toList sp o).guard = (compOper P ops.toList [] o).guard := by
   unfold compOper; split
   · rfl
   · split <;> rfl
  have hdeq : (compOper P ops.toList sp o).dst = o.dst := by
   unfold compOper; split
   · rfl
   · split <;> rfl
  have hopeq : (compOper P ops.toList sp o).op = compOp P o.op := by
   unfold compOper; split
   · rfl
   · rename_i j c hg
     obtain ⟨d, hd⟩ := Option.isSome_iff_exists.1 (hog j c hg)
     rw [hd]
  have hdN : ∀ t, o.dst = some t → t < N := fun t ht => by
   have := hdst.1; rw [ht] at this; exact of_decide_eq_true this
  have hw := wanted_rel (P := P) (o := o) (D := D) (φ := φ) (a := a) (fun d c v _ hv => hR.env d v hv) hgeq hog hb
  have ih := fun e h n D φ a w => runOps_pre hcx (M := M) (K := K) (sp := sp) (D0 := D0) (φ0 := φ0) (H0 := H0) (w0 := w0) (Q := Q) (l2 := l2) hn0 hgu l (fun o ho => hmem o (List.mem_cons_of_mem _ ho)) hdst.2 e h n D φ a w
  show wpListIn _ _ _ _ _ (o :: (l ++ l2)) _ _
  unfold wpListIn
  rw [hw]
  cases b
  · simp only [Bool.false_eq_true, if_false]
    simp only at hrun
    rw [hdeq] at hrun
    exact ⟨fun _ _ => trivial, ih _ h n D φ _ w hn hrun (hR.put hR.defers hdN (fun _ h => h) (Agree.refl _ _) hR.lt und_rel hR.heap) hS (fun D φ e h n a' w' h1 h2 h3 => hK D φ e h n a' w' h1 h2 (by rw [h3, put_defers])) hP⟩
  · simp only [if_true]
    simp only at hrun
    obtain ⟨r, hr, hrun⟩ := gd_elim hrun
    obtain ⟨c, E⟩ := r
    obtain ⟨hc, hrun⟩ := hrun
    simp only at hc hrun
    subst hc
    rw [hopeq] at hr
    rw [hdeq] at hrun
    have hfresh : ∀ b, n ≤ b → b < E.n → ¬ D b := fun b hb _ hD => by have := hR.lt b hD; omega
    have hH0 : HR D φ (only (hget h) E.rd) w := hR.heap.sub (fun b k hb => by
     unfold only at hb; cases hi : inl E.rd b <;> simp [hi] at hb; exact hb)
    refine op_wp hcx hr hfresh (fun y hy x hx v hv => opd_relG (fun t v _ hv => hR.env t v hv) hx hR.heap hv) hH0 (fun φ' u w' hle hv hst hro hmd hnw => ?_)
    have hfull := lift_frame hR.heap (fun b k hb => by unfold only at hb; cases hi : inl E.rd b <;> simp [hi] at hb; exact hb) hmd hst hro (fun _ _ _ _ _ => .inr trivial)
    rw [← appL_app] at hfull
    have hlt : ∀ b, Dn D n E.n b → b < E.n := fun b hb => hb.elim (fun h => by have := hR.lt b h; omega) (fun h => h.2)
    unfold pnK at hrun
    cases hp : E.pn with
    | none =>
     rw [hp] at hrun
     exact ih _ _ _ _ φ' _ w' (by omega) (fin1_elim hrun) (hR.put (hR.defers.stays hR.heap hfull.frm) hdN hfull.sub hfull.agree hlt hv hfull.hr) (hS.trans hfull) (fun D φ e h n a' w' h1 h2 h3 => hK D φ e h n a' w' h1 h2 (by rw [h3, put_defers])) hP
    | some p =>
     rw [hp] at hrun
     exact (hP _ _ _ _ hrun).elim
theorem argRel {N n : Nat} {D : Nat → Prop} {φ : Phi} {h : Hp} {w : World} {args : List AV} {us : Array Value} {m : Nat × List Deferred} (hD : ∀ b, D b → b < n) (hH : HR D φ (hget h) w) (hargs : All2 D φ args us.toList) (hle : args.length ≤ N) (hm : m.2 = []) :
 Rel D φ (argEnv 0 args) h n N m { tmps := us ++ Array.replicate (N - us.size) undef, defers := [] } w := by
 obtain ⟨m1, m2⟩ := m
 simp only at hm; subst hm
 refine ⟨hD, fun t v hv => ?_, hH, by have := hargs.1; simp at this ⊢; omega, Mk.nil⟩
 obtain ⟨_, hv'⟩ := argEnv_get hv
 obtain ⟨u, hu, hr⟩ := hargs.get hv'
 have hlt : t < us.size := by
  rcases Nat.lt_or_ge t us.size with h' | h'
  · exact h'
  · rw [Nat.sub_zero, List.getElem?_eq_none (by simpa using h')] at hu; cases hu
 have : (us ++ Array.replicate (N - us.size) undef).getD t undef = u := by
  rw [Array.getD_eq_getD_getElem?, Array.getElem?_append_left hlt]
  simp at hu ⊢
  simp [hu]
 rw [this]; exact hr
theorem leave_dfr {fn gn : Func} {g : FuncId} {Ig : IFn} {rs : List IRes} {R : Ending → World → Prop} {Q : Option Value → AV → Hp → Nat → Prop} {Gs : List Nat} {m0 : FrameMode} {N0 n' : Nat} {e' : Env} {h' : Hp} {D D' : Nat → Prop} {φ φ' : Phi} {H : Hf} {a' : Act} {w w' : World}
 (hm : P.follows .mixedOrders = true) (hcal : callable P g = true) (hg : P.funcs[g]? = some gn) (hIg : compF P gn = some Ig) (hgr : Ig.res = []) (hgN : Gs.length ≤ Ig.N) (hrs : compRes P fn.results.toList = some rs) (hm0 : m0 ≠ .run)
 (hk : dfrE rs Ig.code Gs Q m0 e' h' n')
 (hR : Rel D' φ' e' h' n' N0 (w.heap.size, [{ target := .fn (.func g) (Gs.map fun G => Value.pointer (some ⟨G, 0, none⟩)).toArray, args := #[] }]) a' w') (hS : Stp D φ H w D' φ' (hget h') w')
 (fin : ∀ D3 φ3 v3 h3 n3 u w3, Q none v3 h3 n3 → (∀ b, D3 b → b < n3) → VRel D3 φ3 v3 u → HR D3 φ3 (hget h3) w3 → Stp D φ H w D3 φ3 (hget h3) w3 → R (.returned u) w3) :
 LeavesInM (Fw none) 0 P fn a'.tmps R a'.defers m0 w' := by
 refine leaves_rel hm0 hR hS (fun w1 hR1 hS1 => ?_)
 simp only [compF, Option.bind_eq_some_iff] at hIg
 obtain ⟨cg, hcg, rg, hrg, hIg⟩ := hIg
 split at hIg
 · rename_i hle
   rw [Bool.and_eq_true] at hle
   have hgy : g ≠ YB := ne_YB hg hle.2
   simp only [Option.some.injEq] at hIg
   subst hIg
   simp only at hgr hgN hk
   subst hgr
   obtain ⟨caps, hcaps, hk⟩ := gd_elim hk
   have hA := capsG_rel hR1.heap hcaps
   have hlen : caps.length = Gs.length := by have := hA.1; simpa using this
   refine ⟨hm0, .inr ⟨fun hd => (by cases hd), .func g, (Gs.map fun G => Value.pointer (some ⟨G, 0, none⟩)).toArray, g, (Gs.map fun G => Value.pointer (some ⟨G, 0, none⟩)).toArray, rfl, ?_, fun _ _ => trivial, ?_⟩⟩
   · simp only [invoke, Array.empty_append]
     rw [callFunc_run hgy hcal (ext_false hg hcg)]
   · refine callsDIn_of_wpSIn hg hcg trivial (fun c0 cs hmode => ?_)
     intro b k hb hro hF hroom
     have hc0 : ({ c0 with mode := m0 } : Frame) = c0 := by subst hmode; rfl
     have hRg := argRel (N := gn.ntmps) (m := (w1.heap.size, [])) hR1.lt hR1.heap (us := (Gs.map fun G => Value.pointer (some ⟨G, 0, none⟩)).toArray) (args := caps) (by simpa using hA) (by omega) rfl
     obtain ⟨ex, a3, cs3, w3, hl, hp, harr⟩ := iwS_sound (P := P) (N := gn.ntmps) (n0 := n') (c0 := c0) (cs := cs) (ct := condTmps cg) (D0 := D') (φ0 := φ') (H0 := hget h') (w0 := w1) hm hR1.lt cg _ m0 _ h' n' hk D' φ' _ w1 (Nat.le_refl _) rfl hRg (Stp.refl hR1.heap) b k hb hro hF (by simpa using hroom)
     rw [hc0] at harr
     refine ⟨ex, a3, cs3, w3, by simpa using hl, ?_, harr⟩
     obtain ⟨m3, D3, φ3, e3, h3, n3, hk3, hn3, rfl, hd3, hR3, hS3⟩ := hp
     obtain ⟨hk3, hset, hex⟩ := endS_inv hk3
     obtain ⟨r, hr, hrc, hQ⟩ := gd_elim hk3
     have hRc : Rel D3 φ3 e' h3 n3 N0 (w.heap.size, []) { a' with defers := [] } w3 := ⟨hR3.lt, fun t v hv => (hR1.env t v hv).mono hS3.sub hS3.agree, hR3.heap, hR1.size, Mk.nil⟩
     obtain ⟨u, hres, hvr⟩ := res_run (fn := fn) (a' := { a' with defers := [] }) hRc hrs hr hrc
     obtain ⟨ug, hgres, _⟩ := res_run (fn := gn) (rs := []) (q := (true, .tup [])) hR3 hrg rfl rfl
     have hfin : ∃ v, (results fn a'.tmps).run P w3 = .ok v w3 ∧ R (.returned v) w3 := ⟨u, hres, fin D3 φ3 r.2 h3 n3 u w3 hQ hR3.lt hvr hR3.heap (hS1.trans hS3)⟩
     have hpost : a3.defers = [] ∧ ∃ u', ({ c0 with mode := m3 } :: cs) = { c0 with mode := u' } :: cs ∧ ∃ v, (results gn a3.tmps).run P w3 = .ok v w3 ∧ LeavesInM (Fw none) 0 P fn a'.tmps R [] (settle u') w3 :=
      ⟨hd3, m3, rfl, ug, hgres, by rw [hset]; exact hfin⟩
     rcases hex with rfl | rfl
     · exact hpost
     · exact hpost
 · cases hIg
theorem setG_rel {h : Hp} {D : Nat → Prop} {φ : Phi} {w : World} {bs : List Nat} (hn : bs.Nodup) (hh : ∀ b ∈ bs, ∃ k, hget h b = some k ∧ k.ro = false ∧ k.gr = none ∧ k.gid = none) (hH : HR D φ (hget h) w) :
 HR D φ (hget (setG h bs (bs.map φ.blk))) w ∧ (∀ b k, hget (setG h bs (bs.map φ.blk)) b = some k → ∃ k0, hget h b = some k0 ∧ k0.ro = k.ro) := by
 have hget' := setG_get (h := h) (Gs := bs.map φ.blk) hn (by simp) (fun b hb => let ⟨k, hk, _⟩ := hh b hb; ⟨k, hk⟩)
 have key : ∀ b k, hget (setG h bs (bs.map φ.blk)) b = some k → ∃ k0, hget h b = some k0 ∧ (k = k0 ∨ (b ∈ bs ∧ k = { k0 with gid := some (φ.blk b) })) := fun b k hb => by
  rw [hget'] at hb
  split at hb
  · rename_i q hq
    obtain ⟨k0, hk0, rfl⟩ := Option.map_eq_some_iff.1 hb
    refine ⟨k0, hk0, .inr ?_⟩
    have h1 := List.mem_of_find?_eq_some hq
    have h2 := List.find?_some hq
    simp only [beq_iff_eq] at h2
    have hz : ∀ l : List Nat, l.zip (l.map φ.blk) = l.map (fun b => (b, φ.blk b)) := fun l => by
     induction l with
     | nil => rfl
     | cons x l ih => simp [ih]
    have h3 : q ∈ bs.map (fun b => (b, φ.blk b)) := by rw [hz] at h1; exact h1
    obtain ⟨b', hb', rfl⟩ := List.mem_map.1 h3
    simp only at h2; subst h2
    exact ⟨hb', rfl⟩
  · exact ⟨k, hb, .inl rfl⟩
 refine ⟨⟨⟨fun b k hb => ?_, fun b1 b2 k1 k2 hne h1 h2 hro => ?_⟩, hH.fz, hH.lp, fun b k B vs hb hk hB => ?_⟩, fun b k hb => ?_⟩
 · obtain ⟨k0, hk0, hkk⟩ := key b k hb
   obtain ⟨hd, hb0⟩ := hH.at_ b k0 hk0
   rcases hkk with rfl | ⟨hbs, rfl⟩
   · exact ⟨hd, hb0⟩
   · obtain ⟨k1, hk1, g1, g2, g3⟩ := hh b hbs
     rw [hk0] at hk1; cases hk1
     refine ⟨hd, ⟨hb0.ex, fun g hg => ?_⟩⟩
     simp only [Option.some.injEq] at hg
     obtain ⟨cs, elem, fr, q1, q2, q3, q4⟩ := hb0.ex
     exact ⟨hg, (q3 g1).1 g2⟩
 · obtain ⟨k10, hk1, hkk1⟩ := key b1 k1 h1
   obtain ⟨k20, hk2, hkk2⟩ := key b2 k2 h2
   exact hH.sep b1 b2 k10 k20 hne hk1 hk2 (by rcases hkk1 with rfl | ⟨_, rfl⟩ <;> exact hro)
 · obtain ⟨k0, hk0, hkk⟩ := key b k hb
   exact hH.fsep b k0 B vs hk0 (by rcases hkk with rfl | ⟨_, rfl⟩ <;> exact hk) hB
 · obtain ⟨k0, hk0, hkk⟩ := key b k hb
   exact ⟨k0, hk0, by rcases hkk with rfl | ⟨_, rfl⟩ <;> rfl⟩
theorem caps_val {h : Hp} {D : Nat → Prop} {φ : Phi} {w : World} (hH : HR D φ (hget h) w) : ∀ {bs : List Nat} {us : List Value}, (∀ b ∈ bs, ∃ k, hget h b = some k ∧ k.ro = false ∧ k.gr = none ∧ k.gid = none) → All2 D φ (bs.map fun b => .p b 0) us → us = (bs.map φ.blk).map fun G => Value.pointer (some ⟨G, 0, none⟩)
 | [], us, _, hA => by simpa using hA.unnil
 | b :: bs, us, hbk, hA => by
  obtain ⟨u, m', rfl, g1, g2⟩ := hA.uncons
  have := caps_val hH (fun b' hb' => hbk b' (List.mem_cons_of_mem _ hb')) g2
  subst this
  obtain ⟨k, hk, k1, k2, _⟩ := hbk b List.mem_cons_self
  obtain ⟨_, ⟨⟨cs, elem, fr, q1, q2, q3, q4⟩, q5⟩⟩ := hH.at_ b k hk
  have hoff := (q3 k1).1 k2
  cases g1
  simp [hoff]
theorem gs_nodup {h : Hp} {D : Nat → Prop} {φ : Phi} {w : World} (hH : HR D φ (hget h) w) : ∀ {bs : List Nat}, bs.Nodup → (∀ b ∈ bs, ∃ k, hget h b = some k ∧ k.ro = false ∧ k.gr = none ∧ k.gid = none) → (bs.map φ.blk).Nodup
 | [], _, _ => List.nodup_nil
 | b :: bs, hnd, hbk => by
  have hh := List.nodup_cons.1 hnd
  refine List.nodup_cons.2 ⟨fun hin => ?_, gs_nodup hH hh.2 (fun b' hb' => hbk b' (List.mem_cons_of_mem _ hb'))⟩
  obtain ⟨b', hb', he⟩ := List.mem_map.1 hin
  obtain ⟨k, hk, k1, _⟩ := hbk b List.mem_cons_self
  obtain ⟨k', hk', _⟩ := hbk b' (List.mem_cons_of_mem _ hb')
  exact hH.sep b b' k k' (fun e => hh.1 (e ▸ hb')) hk hk' k1 he.symm
end
end Go.Ab
end
section
/- The abstract layer, part 76: deferred closures, run by simp. -/
namespace Go.Ab
set_option linter.unusedVariables false
set_option linter.unusedSimpArgs false
theorem dfrK_mono {x : Opd} {g : FuncId} {k k' : List Nat → Env → Hp → Nat → Prop} (hk : ∀ Gs e h n, k Gs e h n → k' Gs e h n) (ex : Exit) (e : Env) (h : Hp) (n : Nat) (hd : dfrK x g k ex e h n) : dfrK x g k' ex e h n := by
 cases ex with
 | normal =>
  refine gd_mono (fun v hv => ?_) hd
  obtain ⟨g', caps, rfl, h1, h2⟩ := fnK_elim hv
  exact ⟨h1, gd_mono (fun bs hb => ⟨hb.1, fun Gs g1 g2 => hk _ _ _ _ (hb.2 Gs g1 g2)⟩) h2⟩
 | _ => exact hd.elim
theorem dfrK_intro {x : Opd} {g : FuncId} {k : List Nat → Env → Hp → Nat → Prop} {e : Env} {h : Hp} {n : Nat} {caps : List AV} {bs : List Nat} (h1 : x.ev e h = some (.fn g caps)) (h2 : ptrs h caps = some bs) (h3 : bs.Nodup) (h4 : ∀ Gs : List Nat, Gs.length = bs.length → Gs.Nodup → k Gs e (setG h bs Gs) n) : dfrK x g k .normal e h n := by
 show gd _ _
 rw [h1]
 refine ⟨rfl, ?_⟩
 rw [h2]
 exact ⟨h3, h4⟩
def noneK (p : Option Value) (k : Prop) : Prop := p = none ∧ k
@[congr] theorem noneK_congr {p p' : Option Value} {k : Prop} (h : p = p') : noneK p k = noneK p' k := by rw [h]
theorem noneK_n {k : Prop} : noneK none k = k := by simp [noneK]
def rsK (b : Bool) (x y : Prop) : Prop := match b with
 | true => x
 | false => y
@[congr] theorem rsK_congr {b b' : Bool} {x y : Prop} (h : b = b') : rsK b x y = rsK b' x y := by rw [h]
theorem rsK_t {x y : Prop} : rsK true x y = x := (rfl)
theorem rsK_f {x y : Prop} : rsK false x y = y := (rfl)
section
variable {x y : Prop}
theorem rsK_mv {a0 : _} : rsK (isRcv (.mv a0)) x y = y := (rfl)
theorem rsK_pick {a0 : _} {a1 : _} {a2 : _} : rsK (isRcv (.pick a0 a1 a2)) x y = y := (rfl)
theorem rsK_new {a0 : _} : rsK (isRcv (.new a0)) x y = y := (rfl)
theorem rsK_box {a0 : _} : rsK (isRcv (.box a0)) x y = y := (rfl)
theorem rsK_build {a0 : _} {a1 : _} : rsK (isRcv (.build a0 a1)) x y = y := (rfl)
theorem rsK_bsl {a0 : _} {a1 : _} {a2 : _} : rsK (isRcv (.bsl a0 a1 a2)) x y = y := (rfl)
theorem rsK_ld {a0 : _} {a1 : _} {a2 : _} : rsK (isRcv (.ld a0 a1 a2)) x y = y := (rfl)
theorem rsK_st {a0 : _} {a1 : _} {a2 : _} : rsK (isRcv (.st a0 a1 a2)) x y = y := (rfl)
theorem rsK_nck {a0 : _} : rsK (isRcv (.nck a0)) x y = y := (rfl)
theorem rsK_bin {a0 : _} {a1 : _} {a2 : _} : rsK (isRcv (.bin a0 a1 a2)) x y = y := (rfl)
theorem rsK_eqk {a0 : _} {a1 : _} {a2 : _} {a3 : _} {a4 : _} : rsK (isRcv (.eqk a0 a1 a2 a3 a4)) x y = y := (rfl)
theorem rsK_eqn {a0 : _} {a1 : _} {a2 : _} {a3 : _} : rsK (isRcv (.eqn a0 a1 a2 a3)) x y = y := (rfl)
theorem rsK_not {a0 : _} : rsK (isRcv (.not a0)) x y = y := (rfl)
theorem rsK_neg {a0 : _} : rsK (isRcv (.neg a0)) x y = y := (rfl)
theorem rsK_i2i {a0 : _} {a1 : _} : rsK (isRcv (.i2i a0 a1)) x y = y := (rfl)
theorem rsK_s2b {a0 : _} : rsK (isRcv (.s2b a0)) x y = y := (rfl)
theorem rsK_b2s {a0 : _} : rsK (isRcv (.b2s a0)) x y = y := (rfl)
theorem rsK_idc {a0 : _} : rsK (isRcv (.idc a0)) x y = y := (rfl)
theorem rsK_mkf {a0 : _} {a1 : _} : rsK (isRcv (.mkf a0 a1)) x y = y := (rfl)
theorem rsK_mkm {a0 : _} {a1 : _} : rsK (isRcv (.mkm a0 a1)) x y = y := (rfl)
theorem rsK_slS {a0 : _} {a1 : _} {a2 : _} : rsK (isRcv (.slS a0 a1 a2)) x y = y := (rfl)
theorem rsK_slV {a0 : _} {a1 : _} {a2 : _} {a3 : _} {a4 : _} : rsK (isRcv (.slV a0 a1 a2 a3 a4)) x y = y := (rfl)
theorem rsK_slA {a0 : _} {a1 : _} {a2 : _} {a3 : _} {a4 : _} {a5 : _} : rsK (isRcv (.slA a0 a1 a2 a3 a4 a5)) x y = y := (rfl)
theorem rsK_fa {a0 : _} {a1 : _} : rsK (isRcv (.fa a0 a1)) x y = y := (rfl)
theorem rsK_fld {a0 : _} {a1 : _} {a2 : _} {a3 : _} : rsK (isRcv (.fld a0 a1 a2 a3)) x y = y := (rfl)
theorem rsK_ixaA {a0 : _} {a1 : _} {a2 : _} {a3 : _} : rsK (isRcv (.ixaA a0 a1 a2 a3)) x y = y := (rfl)
theorem rsK_ixaV {a0 : _} {a1 : _} {a2 : _} : rsK (isRcv (.ixaV a0 a1 a2)) x y = y := (rfl)
theorem rsK_ixA {a0 : _} {a1 : _} {a2 : _} {a3 : _} {a4 : _} : rsK (isRcv (.ixA a0 a1 a2 a3 a4)) x y = y := (rfl)
theorem rsK_ixS {a0 : _} {a1 : _} : rsK (isRcv (.ixS a0 a1)) x y = y := (rfl)
theorem rsK_ext {a0 : _} {a1 : _} : rsK (isRcv (.ext a0 a1)) x y = y := (rfl)
theorem rsK_lenS {a0 : _} : rsK (isRcv (.lenS a0)) x y = y := (rfl)
theorem rsK_lenV {a0 : _} : rsK (isRcv (.lenV a0)) x y = y := (rfl)
theorem rsK_lenC {a0 : _} : rsK (isRcv (.lenC a0)) x y = y := (rfl)
theorem rsK_capV {a0 : _} : rsK (isRcv (.capV a0)) x y = y := (rfl)
theorem rsK_mn {a0 : _} {a1 : _} : rsK (isRcv (.mn a0 a1)) x y = y := (rfl)
theorem rsK_mx {a0 : _} {a1 : _} : rsK (isRcv (.mx a0 a1)) x y = y := (rfl)
theorem rsK_mks {a0 : _} {a1 : _} {a2 : _} {a3 : _} {a4 : _} : rsK (isRcv (.mks a0 a1 a2 a3 a4)) x y = y := (rfl)
theorem rsK_app {a0 : _} {a1 : _} {a2 : _} {a3 : _} {a4 : _} : rsK (isRcv (.app a0 a1 a2 a3 a4)) x y = y := (rfl)
theorem rsK_apz {a0 : _} {a1 : _} {a2 : _} {a3 : _} {a4 : _} : rsK (isRcv (.apz a0 a1 a2 a3 a4)) x y = y := (rfl)
theorem rsK_cpy {a0 : _} {a1 : _} {a2 : _} : rsK (isRcv (.cpy a0 a1 a2)) x y = y := (rfl)
theorem rsK_clr {a0 : _} {a1 : _} {a2 : _} : rsK (isRcv (.clr a0 a1 a2)) x y = y := (rfl)
theorem rsK_mki {a0 : _} {a1 : _} : rsK (isRcv (.mki a0 a1)) x y = y := (rfl)
theorem rsK_tas {a0 : _} {a1 : _} {a2 : _} : rsK (isRcv (.tas a0 a1 a2)) x y = y := (rfl)
theorem rsK_eqi {a0 : _} {a1 : _} : rsK (isRcv (.eqi a0 a1)) x y = y := (rfl)
theorem rsK_pan {a0 : _} : rsK (isRcv (.pan a0)) x y = y := (rfl)
theorem rsK_rcv  : rsK (isRcv (.rcv)) x y = x := (rfl)
theorem rsK_dfr {a0 : _} {a1 : _} : rsK (isRcv (.dfr a0 a1)) x y = y := (rfl)
theorem rsK_call {a0 : _} {a1 : _} : rsK (isRcv (.call a0 a1)) x y = y := (rfl)
theorem rsK_bad  : rsK (isRcv (.bad)) x y = y := (rfl)
end
attribute [go_sem ↓] rsK_mv rsK_pick rsK_new rsK_box rsK_build rsK_bsl rsK_ld rsK_st rsK_nck rsK_bin rsK_eqk rsK_eqn rsK_not rsK_neg rsK_i2i rsK_s2b rsK_b2s rsK_idc rsK_mkf rsK_mkm rsK_slS rsK_slV rsK_slA rsK_fa rsK_fld rsK_ixaA rsK_ixaV rsK_ixA rsK_ixS rsK_ext rsK_lenS rsK_lenV rsK_lenC rsK_capV rsK_mn rsK_mx rsK_mks rsK_app rsK_apz rsK_cpy rsK_clr rsK_mki rsK_tas rsK_eqi rsK_pan rsK_rcv rsK_dfr rsK_call rsK_bad
section
variable {m : FrameMode} {d : Nat} {o : IOp} {s : Bool} {os : List IOper} {e : Env} {h : Hp} {n : Nat} {K : SKont}
theorem runS_nil : runS [] m e h n K = K m .normal e h n := (rfl)
theorem runS_s : runS (⟨some d, o, none, s⟩ :: os) m e h n K = rsK (isRcv o) (rcvK m fun m v => runS os m ((d, v) :: e) h n K) (gd4 (stepD cx0 o e h n) fun c p v h n => andB c (noneK p (fin1 s v fun v => runS os m ((d, v) :: e) h n K))) := by
 simp only [runS, rsK, noneK, eput]
 try (cases isRcv o <;> rfl)
theorem runS_n : runS (⟨none, o, none, s⟩ :: os) m e h n K = rsK (isRcv o) (rcvK m fun m v => runS os m e h n K) (gd4 (stepD cx0 o e h n) fun c p v h n => andB c (noneK p (fin1 s v fun v => runS os m e h n K))) := by
 simp only [runS, rsK, noneK, eput]
 try (cases isRcv o <;> rfl)
@[congr] theorem rcvK_congr {m m' : FrameMode} {k : FrameMode → AV → Prop} (h : m = m') : rcvK m k = rcvK m' k := by rw [h]
def thenS (K : SKont) (k : FrameMode → Env → Hp → Nat → Prop) : SKont := fun m ex e h n => match ex with
 | .normal => k m e h n
 | ex => K m ex e h n
theorem thenS_n {k : FrameMode → Env → Hp → Nat → Prop} : thenS K k m .normal e h n = k m e h n := (rfl)
theorem thenS_r {k : FrameMode → Env → Hp → Nat → Prop} : thenS K k m .ret e h n = K m .ret e h n := (rfl)
theorem iwS_skip : iwS .skip m K e h n = K m .normal e h n := (rfl)
theorem iwS_ret : iwS .ret m K e h n = K m .ret e h n := (rfl)
theorem iwS_reg {ops : List IOper} : iwS (.reg ops) m K e h n = runS ops m e h n K := (rfl)
theorem iwS_dreg {ops : List (IOper × List Nat)} : iwS (.dreg ops) m K e h n = rD cx0 ops 0 [] e h n (fun ex e h n => K m ex e h n) := (rfl)
theorem iwS_seq {a b : ICode} : iwS (.seq a b) m K e h n = iwS a m (thenS K fun m e h n => iwS b m K e h n) e h n := (rfl)
theorem iwS_cond {c : Opd} {a b : ICode} : iwS (.cond c a b) m K e h n = gd (c.ev e h) fun v => condB v (iwS a m K e h n) (iwS b m K e h n) := by
 simp only [iwS]
 cases c.ev e h with
 | none => rfl
 | some v => cases v with
  | b x => cases x <;> simp [gd, condB, spB]
  | _ => rfl
theorem endS_rn {k : Prop} : endS .returning .normal k = k := (rfl)
theorem endS_rr {k : Prop} : endS .returning .ret k = k := (rfl)
theorem endS_pn {u : Value} {k : Prop} : endS (.panicking [{ v := u, recovered := true }]) .normal k = k := (rfl)
theorem endS_pr {u : Value} {k : Prop} : endS (.panicking [{ v := u, recovered := true }]) .ret k = k := (rfl)
end
section
variable {rs : List IRes} {Ic : ICode} {Gs : List Nat} {Q : Option Value → AV → Hp → Nat → Prop} {m : FrameMode} {e : Env} {h : Hp} {n : Nat}
theorem retDK_n : retDK rs Ic Gs Q .normal e h n = dfrE rs Ic Gs Q .returning e h n := (rfl)
theorem retDK_r : retDK rs Ic Gs Q .ret e h n = dfrE rs Ic Gs Q .returning e h n := (rfl)
theorem retDK_p {ch : List PanicEntry} : retDK rs Ic Gs Q (.panic ch) e h n = dfrE rs Ic Gs Q (.panicking ch) e h n := (rfl)
theorem dfrE_eq : dfrE rs Ic Gs Q m e h n = gd (capsG h Gs) fun caps => iwS Ic m (fun m' ex' e' h' n' => endS m' ex' (gd2 (retV rs e h') fun c v => andB c (Q none v h' n'))) (argEnv 0 caps) h n := by
 unfold dfrE
 congr 1
 funext caps
 congr 1
 funext m' ex' e' h' n'
 congr 1
 exact gd2_eq (Q := fun v => Q none v h' n')
theorem capsG_nil : capsG h [] = some [] := (rfl)
theorem capsG_cons {G : Nat} {r : List Nat} : capsG h (G :: r) = (hglobC h G).bind fun v => (capsG h r).bind fun vs => some (v :: vs) := (rfl)
end
attribute [go_sem ↓] noneK_n rsK_t rsK_f runS_nil runS_s runS_n rcvK_r rcvK_p thenS_n thenS_r iwS_skip iwS_ret iwS_reg iwS_dreg iwS_seq iwS_cond endS_rn endS_rr endS_pn endS_pr retDK_n retDK_r retDK_p dfrE_eq capsG_nil capsG_cons
theorem avOf_agg0 : avOf (.agg #[]) = some (.agg []) := (rfl)
attribute [go_sem ↓] avOf_agg0
attribute [go_sem] isRcv
end Go.Ab
end
section
/- The abstract layer, part 79: functions with a region ahead of the deferred closure. -/
namespace Go.Ab
set_option linter.unusedVariables false
set_option linter.unusedSimpArgs false
def thenR (cx : Cx) (ops : List IOper) (K : Kont) : Kont := fun ex e h n => match ex with
 | .normal => runOps cx ops e h n K
 | _ => False
theorem reg_of {P : Program} {ct : List Nat} {N : Nat} {c : Code} {os : List IOper} (h1 : compC P ct N c = .reg os) : ∃ id rops, c = .region id rops false ∧ (dstOK N rops.toList = true ∧ guardOK rops.toList = true) ∧ rops.toList.map (compOper P rops.toList (guardTmps rops.toList ++ ct)) = os := by
 cases c with
 | seq _ _ => simp [compC] at h1
 | region id ops draw =>
  simp only [compC] at h1
  split at h1
  · rename_i hcnd
    cases draw
    · simp only [Bool.false_eq_true, if_false, ICode.reg.injEq] at h1
      simp only [Bool.and_eq_true] at hcnd
      exact ⟨id, ops, rfl, hcnd.1, h1⟩
    · simp at h1
  · cases h1
 | cond x y z => simp only [compC] at h1; split at h1 <;> cases h1
 | rangeFunc g' ps' A' B' => simp only [compC] at h1; split at h1 <;> cases h1
 | _ => simp [compC] at h1
section
variable {P : Program}
theorem FTLx.of_dfr0 {C : Nat → AV → Hp → Nat → AV → Hp → Nat → Prop} (hC : Cov C) {f g : FuncId} {fn gn : Func} {I Ig : IFn} {cx : Cx} {args : List AV} {pn : Option Value} {n : Nat} {h : Hp} {v2 : AV} {h2 : Hp} {n2 : Nat} {pre ops : List IOper} {x : Opd} {s : Bool} {rest : ICode}
 (hcx : Sound P cx) (hm : P.follows .mixedOrders = true) (hf : P.funcs[f]? = some fn) (hI : compF P fn = some I) (hnp : args.length ≤ I.N) (hcode : I.code = .seq (.reg pre) (.seq (.reg (ops ++ [⟨none, .dfr x [], none, s⟩])) rest))
 (hcal : callable P g = true) (hg : P.funcs[g]? = some gn) (hIg : compF P gn = some Ig) (hgr : Ig.res = [])
 (hi : runOps cx pre (argEnv 0 args) h n (thenR cx ops (dfrK x g fun Gs e h' n' => Gs.length ≤ Ig.N ∧ Seam ⟨P, cx, I.ct, I.N, n⟩ rest (retDK I.res Ig.code Gs fun p v h' n' => p = pn ∧ C n v h' n' v2 h2 n2) e h' n'))) : FTLx P f args h n pn v2 h2 n2 := by
 intro D φ w us hD0 hH hargs
 have hD : ∀ b, (fun b => b < n) b → b < n := fun b hb => hb
 have hH : HR (fun b => b < n) φ (hget h) w := hH.grow hD0
 have hargs : All2 (fun b => b < n) φ args us := hargs.mono hD0 (Agree.refl _ _)
 have hout : ∀ D' φ' H' w', Stp (fun b => b < n) φ (hget h) w D' φ' H' w' → Stp D φ (hget h) w D' φ' H' w' := fun D' φ' H' w' hs => ⟨fun b hb => hs.sub b (hD0 b hb), ⟨fun b hb => hs.agree b (hD0 b hb), hs.agree.fz, hs.agree.lp⟩, hs.hr, hs.frm, hs.img, hs.fnew⟩
 simp only [compF, Option.bind_eq_some_iff] at hI
 obtain ⟨c, hc, rs, hrs, hI⟩ := hI
 split at hI
 · rename_i hle
   rw [Bool.and_eq_true] at hle
   have hfy : f ≠ YB := ne_YB hf hle.2
   have hle := of_decide_eq_true hle.1
   simp only [Option.some.injEq] at hI
   subst hI
   simp only at hi hnp hcode
   refine Ans.of (calls_marks hf hc ?_) hfy (ext_false hf hc)
   -- the code
   obtain ⟨c0, c1, c2, rfl, q0, q1, q2⟩ : ∃ c0 c1 c2, c = .seq c0 (.seq c1 c2) ∧ compC P (condTmps c) fn.ntmps c0 = .reg pre ∧ compC P (condTmps c) fn.ntmps c1 = .reg (ops ++ [⟨none, .dfr x [], none, s⟩]) ∧ compC P (condTmps c) fn.ntmps c2 = rest := by
    revert hcode
    generalize condTmps c = ct
    intro hcode
    cases c with
    | seq c0 c3 =>
     simp only [compC, ICode.seq.injEq] at hcode
     obtain ⟨h0, hcode⟩ := hcode
     cases c3 with
     | seq c1 c2 => simp only [compC, ICode.seq.injEq] at hcode; exact ⟨c0, c1, c2, rfl, h0, hcode.1, hcode.2⟩
     | region id ops draw => simp only [compC] at hcode; split at hcode <;> (try split at hcode) <;> cases hcode
     | cond x y z => simp only [compC] at hcode; split at hcode <;> cases hcode
     | rangeFunc g' ps' A' B' => simp only [compC] at hcode; split at hcode <;> cases hcode
     | _ => simp [compC] at hcode
    | region id ops draw => simp only [compC] at hcode; split at hcode <;> (try split at hcode) <;> cases hcode
    | cond x y z => simp only [compC] at hcode; split at hcode <;> cases hcode
    | rangeFunc g' ps' A' B' => simp only [compC] at hcode; split at hcode <;> cases hcode
    | _ => simp [compC] at hcode
   generalize hct : condTmps (.seq c0 (.seq c1 c2)) = ct at q0 q1 q2
   obtain ⟨id0, rops0, rfl, hok0, hmap0⟩ := reg_of q0
   obtain ⟨id, rops, rfl, hok, hmap⟩ := reg_of q1
   generalize guardTmps rops0.toList ++ ct = sp0 at hmap0
   generalize guardTmps rops.toList ++ ct = sp at hmap
   obtain ⟨l, od, hsplit, hmapl, hod⟩ : ∃ l od, rops.toList = l ++ [od] ∧ l.map (compOper P rops.toList sp) = ops ∧ compOper P rops.toList sp od = ⟨none, .dfr x [], none, s⟩ := by
    obtain ⟨l1, l2, e1, e2, e3⟩ := List.map_eq_append_iff.1 hmap
    cases l2 with
    | nil => simp at e3
    | cons od l3 =>
     cases l3 with
     | nil => simp at e3; exact ⟨l1, od, e1, e2, e3⟩
     | cons _ _ => simp at e3
   -- the statement 'defer'
   obtain ⟨hog, hodst, cd, fo, hop, hcf, hfo, hca⟩ : od.guard = none ∧ od.dst = none ∧ ∃ cd fo, od.op = .defer cd ∧ cd.callee = .value fo ∧ cO fo = some x ∧ cd.args = #[] := by
    unfold compOper at hod
    split at hod
    · rename_i hg0
      simp only [IOper.mk.injEq] at hod
      obtain ⟨g1, g2, _⟩ := hod
      refine ⟨hg0, g1, ?_⟩
      have h0 : ∀ o : Op, compOp P o = .dfr x [] → ∃ cd fo, o = .defer cd ∧ cd.callee = .value fo ∧ cO fo = some x ∧ cd.args = #[] := fun o ho => by
       cases o with
       | defer cd =>
        simp only [compOp] at ho
        split at ho
        · rename_i fo hfo
          cases hx : cO fo with
          | none => simp [hx, orBad] at ho
          | some x' =>
           cases hl : cOs cd.args.toList with
           | none => simp [hx, hl, orBad] at ho
           | some l' =>
            simp only [hx, hl, Option.bind_some, Option.map_some, orBad, Option.getD_some, IOp.dfr.injEq] at ho
            obtain ⟨rfl, rfl⟩ := ho
            refine ⟨cd, fo, rfl, hfo, hx, ?_⟩
            cases hal : cd.args.toList with
            | nil => exact Array.toList_inj.1 (by simpa using hal)
            | cons y r =>
             rw [hal] at hl
             simp only [cOs, Option.bind_eq_some_iff] at hl
             obtain ⟨_, _, _, _, hl⟩ := hl
             cases hl
        · cases ho
       | _ =>
        exfalso
        exact notDfr_ne (compOp_notDfr (by simp)) ho
      exact h0 _ g2
    · split at hod <;> simp at hod
   have hR := argRel (N := fn.ntmps) (m := (w.heap.size, [])) hD hH (us := us.toArray) (args := args) (by simpa using hargs) hnp rfl
   refine wpIn_seq (wpIn_region_list ?_)
   rw [show rops0.toList = rops0.toList ++ [] from (List.append_nil _).symm]
   refine runOps_pre (n0 := n) hcx (M := (w.heap.size, [])) (sp := sp0) hD hok0.2 rops0.toList (fun o ho => ho) hok0.1 (argEnv 0 args) h n _ φ _ w (Nat.le_refl _) (by rw [hmap0]; exact hi) hR (Stp.refl hH) (fun D2 φ2 e2' h2' n2' a2 w2 hK hn2 hd2 hR2' hS2' => ?_) (fun ch e h n hk => hk)
   unfold wpListIn
   show Code.wpIn _ _ _ _ _ _ _
   refine wpIn_seq (wpIn_region_list ?_)
   rw [hsplit]
   have hmem : ∀ o ∈ l, o ∈ rops.toList := fun o ho => by rw [hsplit]; exact List.mem_append_left _ ho
   have hdl : dstOK fn.ntmps l = true := by
    have := hok.1; rw [hsplit] at this; simp only [dstOK, List.all_append, Bool.and_eq_true] at this; exact this.1
   refine runOps_pre (n0 := n) hcx (M := (w.heap.size, [])) (sp := sp) hD hok.2 l hmem hdl e2' h2' n2' D2 φ2 a2 w2 hn2 (by rw [hmapl]; exact hK) hR2' hS2' (fun D1 φ1 e1 h1 n1 a1 w1 hK hn1 hd1' hR1 hS1 => ?_) (fun ch e h n hk => hk)
   have hd1 : a1.defers = [] := hd1'.trans hd2
   -- at the statement
   obtain ⟨v, hv, hK1⟩ := gd_elim hK
   obtain ⟨g', caps, hvg, hgg, hK2⟩ := fnK_elim hK1
   clear hK1 hK
   subst hvg; subst hgg
   obtain ⟨bs, hbs, hnd, hK⟩ := gd_elim hK2
   clear hK2
   · obtain ⟨rfl, hbk⟩ := ptrs_spec hbs
     have hvr := opd_relG (fun t v _ hv => hR1.env t v hv) hfo hR1.heap hv
     obtain ⟨hgy, capsV, hev, hcv⟩ := hvr.fn_inv
     have hcapsV := caps_val hR1.heap hbk hcv
     obtain ⟨hHG, hkG⟩ := setG_rel hnd hbk hR1.heap
     have hGnd := gs_nodup hR1.heap hnd hbk
     obtain ⟨hGN, hseam⟩ := hK (bs.map φ1.blk) (by simp) hGnd
     -- the step
     unfold wpListIn
     have hwant : Region.wanted od (yielded rops a1.tmps) = true := by simp [Region.wanted, hog]
     rw [hwant]
     simp only [if_true]
     refine ⟨fun _ _ => trivial, ?_⟩
     show od.uponIn (Fw none) 0 P a1 _ _ ((od.semAt none a1.eval).run P w1)
     rw [Oper.semAt_none]
     have hrun : (execOp a1.eval od).run P w1 = .ok (.defer { target := .fn (.func g') capsV.toArray, args := #[] }) w1 := by
      obtain ⟨callee, cargs, ctys⟩ := cd
      simp only at hcf hca
      subst hcf; subst hca
      simp only [execOp, hop, resolve, Sem.run_bind, hev, Deferred.ofValue, Sem.run_pure, Result.andThen_ok]
      simp
     rw [hrun, Oper.uponIn_defer, hd1, hodst]
     unfold wpListIn
     show Code.wpIn _ _ _ _ _ _ _
     have hS2 : Stp (fun b => b < n) φ (hget h) w D1 φ1 (hget (setG h1 bs (bs.map φ1.blk))) w1 :=
      ⟨hS1.sub, hS1.agree, hHG, hS1.frm, fun b k hb hk => by
        obtain ⟨k0, hk0, hro⟩ := hkG b k hb
        exact hS1.img b k0 hk0 (by rw [hro]; exact hk), hS1.fnew⟩
     have hR2 : Rel D1 φ1 e1 (setG h1 bs (bs.map φ1.blk)) n1 fn.ntmps (w.heap.size, [{ target := .fn (.func g') capsV.toArray, args := #[] }]) ({ a1 with defers := [{ target := .fn (.func g') capsV.toArray, args := #[] }] }.put none undef) w1 :=
      ⟨hR1.lt, hR1.env, hHG, hR1.size, Mk.nil⟩
     have hw := hseam c2 (by show compC P (condTmps _) _ c2 = rest; rw [hct]; exact q2) none (.inl rfl) [{ target := .fn (.func g') capsV.toArray, args := #[] }] _ φ (hget h) w hD hn1 D1 φ1 _ w1 hR2 hS2
     refine wpIn_mono hw (fun ex a' w' hp => ?_)
     obtain ⟨D', φ', e', h', n', hk, hn', hR', hS'⟩ := hp
     rw [hcapsV] at hR'
     have leave : ∀ m0 : FrameMode, m0 ≠ .run → dfrE rs Ig.code (bs.map φ1.blk) (fun p v h' n' => p = pn ∧ C n v h' n' v2 h2 n2) m0 e' h' n' →
      LeavesInM (Fw none) 0 P fn a'.tmps (fun e w' => ∃ D' φ' u, e = endP pn u ∧ (∀ b, D' b → b < n2) ∧ VRel D' φ' v2 u ∧ Stp D φ (hget h) w D' φ' (hget h2) w') a'.defers m0 w' := fun m0 hm0 hk => by
      refine leave_dfr hm hcal hg hIg hgr hGN hrs hm0 hk hR' hS' (fun D3 φ3 v3 h3 n3 u w3 hQ hlt3 hv3 hH3 hS3 => ?_)
      obtain ⟨hpn, hW⟩ := hQ
      subst hpn
      obtain ⟨D4, φ4, k1, k2, k3⟩ := hC _ _ _ _ _ _ _ hW D3 φ3 w3 _ φ _ w u hD hlt3 hv3 hH3 hS3
      exact ⟨_, _, _, rfl, k1, k2, hout _ _ _ _ k3⟩
     cases ex with
     | normal => exact leave .returning (by simp) hk
     | ret => exact leave .returning (by simp) hk
     | panic ch => exact leave (.panicking ch) (by simp) hk
     | _ => exact hk.elim
 · cases hI
def thenRJ (cx : Cx) (ops : List IOper) (K : Kont) : Kont := fun ex e h n => match ex with
 | .normal => rOps cx ops e h n K
 | _ => False
theorem FTLx.of_dfrJ0 {C : Nat → AV → Hp → Nat → AV → Hp → Nat → Prop} (hC : Cov C) {f g : FuncId} {fn gn : Func} {I Ig : IFn} {cx : Cx} {args : List AV} {pn : Option Value} {n : Nat} {h : Hp} {v2 : AV} {h2 : Hp} {n2 : Nat} {pre ops : List IOper} {x : Opd} {s : Bool} {rest : ICode}
 (hcx : Sound P cx) (hm : P.follows .mixedOrders = true) (hf : P.funcs[f]? = some fn) (hI : compF P fn = some I) (hnp : args.length ≤ I.N) (hcode : I.code = .seq (.reg pre) (.seq (.reg (ops ++ [⟨none, .dfr x [], none, s⟩])) rest))
 (hcal : callable P g = true) (hg : P.funcs[g]? = some gn) (hIg : compF P gn = some Ig) (hgr : Ig.res = [])
 (hi : rOps cx pre (argEnv 0 args) h n (thenRJ cx ops (dfrK x g fun Gs e h' n' => Gs.length ≤ Ig.N ∧ jw ⟨P, cx, I.ct, I.N, n⟩ rest (retDK I.res Ig.code Gs fun p v h' n' => p = pn ∧ C n v h' n' v2 h2 n2) e h' n'))) : FTLx P f args h n pn v2 h2 n2 :=
 FTLx.of_dfr0 hC hcx hm hf hI hnp hcode hcal hg hIg hgr (runOps_mono (fun ex e h n hk => by
  cases ex with
  | normal => exact runOps_mono (dfrK_mono fun Gs e h n hk => ⟨hk.1, fun c' hc' => iw_sound ⟨P, cx, I.ct, I.N, _⟩ hcx hm c' _ _ _ _ (by rw [hc']; exact iw_of_jw hk.2)⟩) (runOps_of_rOps hk)
  | _ => exact hk) (runOps_of_rOps hi))
end
end Go.Ab
end
