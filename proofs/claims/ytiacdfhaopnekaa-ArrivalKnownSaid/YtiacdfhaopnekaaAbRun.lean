/- The abstract layer, part 14: contracts; an operation's wp; the heap as a list. -/
import Derived.Test.YtiacdfhaopnekaaAbStep7
namespace Go.Ab
set_option linter.unusedVariables false
set_option linter.unusedSimpArgs false

/-- Contracts: what a call does (the side condition, the effect). -/
abbrev Cx := FuncId → List AV → Hp → Nat → Option (Bool × Eff)

def callable (P : Program) (f : FuncId) : Bool :=
  match P.funcs[f]? with
  | some fn => fn.body.isSome && !(fn.name == "runtime.NumGoroutine")
  | none => false

structure CallOK (P : Program) (f : FuncId) (args : List AV) (h : Hp) (n : Nat) (E : Eff) : Prop where
  callable : callable P f = true
  le : n ≤ E.n
  md : ∀ b r, mget E.md b = some r → inl E.rd b = true
  nw : ∀ b k, hget E.nw b = some k → n ≤ b ∧ b < E.n
  run : ∀ (D : Nat → Prop) (φ : Phi) (w : World) (us : List Value), (∀ b, n ≤ b → b < E.n → ¬ D b) → HR D φ (only (hget h) E.rd) w → All2 D φ args us →
    Calls P f us.toArray w fun e w' => ∃ u φ', e = .returned u ∧ VRel (Dn D n E.n) φ' E.v u ∧ Stp D φ (only (hget h) E.rd) w (Dn D n E.n) φ' (E.app (only (hget h) E.rd)) w' ∧
      (∀ b k, E.app (only (hget h) E.rd) b = some k → k.ro = true → only (hget h) E.rd b = some k)

def Sound (P : Program) (cx : Cx) : Prop := ∀ f args h n c E, cx f args h n = some (c, E) → c = true → CallOK P f args h n E

def stepC (cx : Cx) (o : IOp) (e : Env) (h : Hp) (n : Nat) : Option (Bool × Eff) :=
  match o with
  | .call f args => (f.ev e h).bind fun v => match v with
    | .fn g caps => (evs e h args).bind fun l => cx g (l ++ caps) h n
    | _ => none
  | o => step o e h n

theorem hget_append (a b : Hp) (c : Nat) : hget (a ++ b) c = match hget a c with | some k => some k | none => hget b c := by
  induction a with
  | nil => rfl
  | cons x a ih =>
    obtain ⟨d, k⟩ := x
    simp only [List.cons_append, hget]
    cases Nat.beq d c <;> simp [ih]

theorem hget_hset (h : Hp) (b : Nat) (k : Blk) (c : Nat) : hget (hset h b k) c = if c = b then some k else hget h c := by
  induction h with
  | nil =>
    simp only [hset, hget]
    by_cases hc : c = b
    · subst hc; simp
    · simp [beq_ne hc, hc]
  | cons x h ih =>
    obtain ⟨d, j⟩ := x
    simp only [hset, hget]
    by_cases hd : Nat.beq d b = true
    · have := Nat.eq_of_beq_eq_true hd
      subst this
      simp only [hd, cond_true, hget]
      by_cases hc : c = d
      · subst hc; simp
      · simp [beq_ne hc, hc]
    · rw [Bool.not_eq_true] at hd
      simp only [hd, cond_false, hget]
      by_cases hc : Nat.beq d c = true
      · have := Nat.eq_of_beq_eq_true hc
        subst this
        have hdb : ¬ d = b := fun e => by rw [e] at hd; simp at hd
        simp [hdb]
      · rw [Bool.not_eq_true] at hc
        simp [hc, ih]

theorem hget_hdel (h : Hp) (b : Nat) (c : Nat) : hget (hdel h b) c = if c = b then none else hget h c := by
  induction h with
  | nil => simp [hdel, hget]
  | cons x h ih =>
    obtain ⟨d, j⟩ := x
    simp only [hdel, hget]
    by_cases hd : Nat.beq d b = true
    · have := Nat.eq_of_beq_eq_true hd
      subst this
      simp only [hd, cond_true, ih]
      by_cases hc : c = d
      · simp [hc]
      · simp [hc, beq_ne hc]
    · rw [Bool.not_eq_true] at hd
      simp only [hd, cond_false, hget]
      by_cases hc : Nat.beq d c = true
      · have := Nat.eq_of_beq_eq_true hc
        subst this
        have hdb : ¬ d = b := fun e => by rw [e] at hd; simp at hd
        simp [hdb]
      · rw [Bool.not_eq_true] at hc
        simp [hc, ih]

theorem hget_hmods (h : Hp) : ∀ (md : List (Nat × Option Blk)) (c : Nat), hget (hmods h md) c = match mget md c with | some r => r | none => hget h c
  | [], c => rfl
  | (b, some k) :: r, c => by
    simp only [hmods, mget, hget_hset]
    by_cases hc : c = b
    · subst hc; simp
    · simp [hc, beq_ne hc, hget_hmods h r c]
  | (b, none) :: r, c => by
    simp only [hmods, mget, hget_hdel]
    by_cases hc : c = b
    · subst hc; simp
    · simp [hc, beq_ne hc, hget_hmods h r c]

theorem appL_app (E : Eff) (h : Hp) : hget (E.appL h) = E.app (hget h) := by
  funext c
  simp only [Eff.appL, Eff.app, hget_hmods, hget_append]
  cases mget E.md c <;> rfl

section
variable {P : Program} {D : Nat → Prop} {φ : Phi} {w : World} {n : Nat} {e : Env} {h : Hp} {E : Eff} {cx : Cx}

/-- What an operation leaves, over the whole heap. -/
theorem lift_frame {H : Hf} {φ' : Phi} {w' : World} {D' : Nat → Prop} (hH : HR D φ H w) (hsub : ∀ b k, only (hget h) E.rd b = some k → H b = some k)
    (hmd : ∀ b r, mget E.md b = some r → inl E.rd b = true)
    (h1 : Stp D φ (only (hget h) E.rd) w D' φ' (E.app (only (hget h) E.rd)) w')
    (hro : ∀ b k, E.app (only (hget h) E.rd) b = some k → k.ro = true → only (hget h) E.rd b = some k)
    (hex : ∀ b, inl E.rd b = true → hget h b = none → mget E.md b = none → hget E.nw b = none → H b = none ∨ True) :
    Stp D φ H w D' φ' (E.app H) w' := by
  refine Stp.frame hH hsub h1 (E.app H) (fun b k hb => ?_) hro
  simp only [Eff.app] at hb ⊢
  cases hm : mget E.md b with
  | some r => rw [hm] at hb; exact .inl hb
  | none =>
    rw [hm] at hb
    cases hn : hget E.nw b with
    | some k' => rw [hn] at hb; exact .inl hb
    | none =>
      rw [hn] at hb
      simp only at hb ⊢
      cases ho : only (hget h) E.rd b with
      | some k' => left; rw [hsub b k' ho] at hb; exact hb
      | none => right; exact ⟨hb, rfl⟩

theorem callFunc_run {f : FuncId} (hf : callable P f = true) (args : Array Value) (w : World) : (callFunc f args).run P w = .ok (.enter f args) w := by
  unfold callable at hf
  split at hf
  · rename_i fn hfn
    rw [Bool.and_eq_true] at hf
    obtain ⟨hb, hn⟩ := hf
    have hn' : (fn.name == "runtime.NumGoroutine") = false := by simpa using hn
    have hb' : fn.body.isNone = false := by cases hbb : fn.body <;> simp_all
    simp only [callFunc, Sem.run_bind, run_program, Result.andThen_ok, hfn, hn', Bool.false_eq_true, if_false, hb', Sem.run_pure]
  · cases hf

def noCall : IOp → Bool
  | .call _ _ => false
  | _ => true

def NC (x : Option IOp) : Prop := ∀ y, x = some y → noCall y = true
theorem NC.bind {α : Type} {x : Option α} {f : α → Option IOp} (h : ∀ a, NC (f a)) : NC (x.bind f) := fun y hy => by
  simp only [Option.bind_eq_some_iff] at hy; obtain ⟨a, _, hy⟩ := hy; exact h a y hy
theorem NC.map {α : Type} {x : Option α} {f : α → IOp} (h : ∀ a, noCall (f a) = true) : NC (x.map f) := fun y hy => by
  obtain ⟨a, _, rfl⟩ := Option.map_eq_some_iff.1 hy; exact h a
theorem NC.none : NC none := fun y hy => by cases hy
theorem NC.ite {c : Prop} [Decidable c] {x y : Option IOp} (h1 : NC x) (h2 : NC y) : NC (if c then x else y) := by split <;> assumption
theorem NC.orBad {x : Option IOp} (h : NC x) : noCall (orBad x) = true := by
  cases x with
  | none => rfl
  | some y => exact h y rfl

theorem compOp_noCall {o : Op} (ho : ∀ f args tys, o ≠ .call ⟨.value f, args, tys⟩) : noCall (compOp P o) = true := by
  cases o <;> simp only [compOp]
  case call c =>
    obtain ⟨callee, args, tys⟩ := c
    cases callee with
    | value f => exact absurd rfl (ho f args tys)
    | invoke r m => rfl
    | builtin b =>
      simp only
      repeat' split
      all_goals first
        | rfl
        | (refine NC.orBad ?_; repeat (first | (refine NC.bind (fun _ => ?_)) | exact NC.map (fun _ => rfl) | exact NC.none | refine NC.ite ?_ ?_))
  case makeFunc fn first caps =>
    cases fn with
    | func f => simp only; split <;> first | rfl | exact NC.orBad (NC.map (fun _ => rfl))
    | _ => rfl
  all_goals (repeat' split)
  all_goals first
    | rfl
    | (refine NC.orBad ?_; repeat (first | (refine NC.bind (fun _ => ?_)) | exact NC.map (fun _ => rfl) | exact NC.none | refine NC.ite ?_ ?_))

theorem op_wp {o : Oper} {a : Act} {next : Act → World → Prop} {Q : Exit → Act → World → Prop} (hcx : Sound P cx) (hs : stepC cx (compOp P o.op) e h n = some (true, E)) (hn : ∀ b, n ≤ b → b < E.n → ¬ D b)
    (hk : OKs D φ e h a.eval o.op) (hH : HR D φ (only (hget h) E.rd) w)
    (hnext : ∀ φ' u w', n ≤ E.n → VRel (Dn D n E.n) φ' E.v u → Stp D φ (only (hget h) E.rd) w (Dn D n E.n) φ' (E.app (only (hget h) E.rd)) w' →
      (∀ b k, E.app (only (hget h) E.rd) b = some k → k.ro = true → only (hget h) E.rd b = some k) → (∀ b r, mget E.md b = some r → inl E.rd b = true) → (∀ b k, hget E.nw b = some k → n ≤ b ∧ b < E.n) → next (a.put o.dst u) w') :
    o.wp P a w next Q := by
  have plain : step (compOp P o.op) e h n = some (true, E) → o.wp P a w next Q := fun hs => by
    obtain ⟨φ', u, nx, w', hr, hnx, hle, hv, hst, hro, hmd, hnw⟩ := step_sound (P := P) (ρ := a.eval) (w := w) hs rfl (fun hlt => hn n (Nat.le_refl _) hlt) hk hH
    unfold Oper.wp
    rw [hr]
    rcases hnx with rfl | ⟨rfl, rfl⟩
    · exact hnext φ' u w' hle hv hst hro hmd hnw
    · exact hnext φ' undef w' hle hv hst hro hmd hnw
  unfold stepC at hs
  split at hs
  · rename_i f args hcall
    -- a call
    simp only [Option.bind_eq_some_iff] at hs
    obtain ⟨v, hv, hs⟩ := hs
    split at hs
    · rename_i g caps
      simp only [Option.bind_eq_some_iff] at hs
      obtain ⟨l, hl, hs⟩ := hs
      have hok := hcx g (l ++ caps) h n true E hs rfl
      -- the model's call
      cases hop : o.op with
      | call c =>
        rw [hop] at hcall hk
        simp only [compOp] at hcall
        obtain ⟨callee, cargs, ctys⟩ := c
        cases callee with
        | value fo =>
          simp only at hcall
          cases hf : cO fo with
          | none => simp [hf, orBad] at hcall
          | some f' =>
            cases ha : cOs cargs.toList with
            | none => simp [hf, ha, orBad] at hcall
            | some l' =>
              simp only [hf, ha, Option.bind_some, Option.map_some, orBad, Option.getD_some, IOp.call.injEq] at hcall
              obtain ⟨rfl, rfl⟩ := hcall
              simp only [OKs, Op.operands, Call.operands] at hk
              have h1 := hk fo (by simp) f' hf _ hv
              obtain ⟨cs, hcs, hcaps⟩ := h1.fn_inv
              have h2 := evs_rel (ρ := a.eval) ha hl (fun y hy x hx => hk y (by simp at hy ⊢; exact .inr hy) x hx)
              unfold Oper.wp
              have hrun : (execOp a.eval o).run P w = .ok (.enter g ((cargs.toList.map a.eval ++ cs).toArray)) w := by
                simp only [execOp, hop, resolve, Sem.run_bind, hcs, Deferred.ofValue, Sem.run_pure, Result.andThen_ok, invoke]
                rw [callFunc_run hok.callable]
                congr 2
                apply Array.ext'; simp
              rw [hrun]
              show Calls P g _ w _
              refine (hok.run D φ w (cargs.toList.map a.eval ++ cs) hn hH (h2.append hcaps)).mono fun ex w' hx => ?_
              obtain ⟨u, φ', rfl, hv', hst, hro⟩ := hx
              exact hnext φ' u w' hok.le hv' hst hro hok.md hok.nw
        | invoke r m => simp at hcall
        | builtin b =>
          exfalso
          have h0 := compOp_noCall (P := P) (o := .call ⟨.builtin b, cargs, ctys⟩) (fun _ _ _ h => by simp at h)
          simp only [compOp] at h0
          simp only at hcall
          rw [hcall] at h0
          simp [noCall] at h0
      | _ =>
        exfalso
        rw [hop] at hcall
        have h0 : noCall (compOp P o.op) = true := compOp_noCall (by rw [hop]; simp)
        rw [hop, hcall] at h0
        simp [noCall] at h0
    · cases hs
  · exact plain hs

end
end Go.Ab
