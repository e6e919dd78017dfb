/- The abstract layer, part 19: functions, their contracts. -/
import Derived.Test.YtiacdfhaopnekaaAbIw
namespace Go.Ab
set_option linter.unusedVariables false
set_option linter.unusedSimpArgs false

inductive IRes where
  | t (n : Nat)
  | c (n : Nat) (agg : Bool) (sz : Nat)

structure IFn where
  np : Nat
  N : Nat
  ct : List Nat
  code : ICode
  res : List IRes

def compRes (P : Program) : List ResultVar → Option (List IRes)
  | [] => some []
  | .tmp t :: r => (compRes P r).map (.t t :: ·)
  | .cell a t :: r => (tyAgg P t).bind fun g => (tySz P t).bind fun z => (compRes P r).map (.c a g z :: ·)

def compF (P : Program) (fn : Func) : Option IFn :=
  fn.body.bind fun c => (compRes P fn.results.toList).bind fun rs =>
    if fn.params.size + fn.nfree ≤ fn.ntmps then some { np := fn.params.size + fn.nfree, N := fn.ntmps, ct := condTmps c, code := compC P (condTmps c) fn.ntmps c, res := rs } else none

def retVs (e : Env) (h : Hp) : List IRes → Option (Bool × List AV)
  | [] => some (true, [])
  | .t n :: r => (eget e n).bind fun v => (retVs e h r).bind fun q => some (q.1, v :: q.2)
  | .c n agg z :: r => (eget e n).bind fun v => match v with
    | .p b o => (hget h b).bind fun k => match agg with
      | true => (retVs e h r).bind fun q => some (decide ((cellsAt k.cells o z).length = z) && q.1, .agg (cellsAt k.cells o z) :: q.2)
      | false => (k.cells[o]?).bind fun v => (retVs e h r).bind fun q => some (q.1, v :: q.2)
    | _ => none

def packA : List AV → AV
  | [v] => v
  | l => .tup l

def packV : List Value → Value
  | [u] => u
  | l => .tuple l.toArray

theorem pack_rel {D : Nat → Prop} {φ : Phi} : ∀ {l : List AV} {us : List Value}, All2 D φ l us → VRel D φ (packA l) (packV us)
  | [], us, h => by rw [h.unnil]; exact VRel.tup' .nil
  | [v], us, h => by
    obtain ⟨u, m, rfl, h1, h2⟩ := h.uncons
    rw [h2.unnil]; exact h1
  | x :: y :: l, us, h => by
    obtain ⟨u, m, rfl, h1, h2⟩ := h.uncons
    obtain ⟨u', m', rfl, h3, h4⟩ := h2.uncons
    exact VRel.tup' (.cons h1 (.cons h3 h4))

def retV (rs : List IRes) (e : Env) (h : Hp) : Option (Bool × AV) :=
  (retVs e h rs).bind fun q => some (q.1, packA q.2)

mutual
theorem AV.ren_congr {ψ χ : Nat → Nat} {m : Nat} (hψ : ∀ b, b < m → ψ b = χ b) : ∀ v : AV, v.bel m = true → v.ren ψ = v.ren χ
  | .p b o, h => by simp only [AV.ren, hψ b (blt_lt h)]
  | .sl b o l c, h => by simp only [AV.ren, hψ b (blt_lt h)]
  | .sg b o l, h => by simp only [AV.ren, hψ b (blt_lt h)]
  | .fn f l, h => by simp only [AV.ren, renL_congr hψ l h]
  | .agg l, h => by simp only [AV.ren, renL_congr hψ l h]
  | .tup l, h => by simp only [AV.ren, renL_congr hψ l h]
  | .b x, _ => rfl
  | .i k n, _ => rfl
  | .s l, _ => rfl
  | .np, _ => rfl
  | .ns, _ => rfl
  | .nf, _ => rfl
  | .ni, _ => rfl
theorem renL_congr {ψ χ : Nat → Nat} {m : Nat} (hψ : ∀ b, b < m → ψ b = χ b) : ∀ l : List AV, belL m l = true → renL ψ l = renL χ l
  | [], _ => rfl
  | v :: r, h => by
    simp only [belL, Bool.and_eq_true] at h
    simp only [renL, AV.ren_congr hψ v h.1, renL_congr hψ r h.2]
end

mutual
theorem AV.ren_fix {ψ : Nat → Nat} {m : Nat} (hψ : ∀ b, b < m → ψ b = b) : ∀ v : AV, v.bel m = true → v.ren ψ = v
  | .p b o, h => by simp only [AV.ren, hψ b (blt_lt h)]
  | .sl b o l c, h => by simp only [AV.ren, hψ b (blt_lt h)]
  | .sg b o l, h => by simp only [AV.ren, hψ b (blt_lt h)]
  | .fn f l, h => by simp only [AV.ren, renL_fix hψ l h]
  | .agg l, h => by simp only [AV.ren, renL_fix hψ l h]
  | .tup l, h => by simp only [AV.ren, renL_fix hψ l h]
  | .b x, _ => rfl
  | .i k n, _ => rfl
  | .s l, _ => rfl
  | .np, _ => rfl
  | .ns, _ => rfl
  | .nf, _ => rfl
  | .ni, _ => rfl
theorem renL_fix {ψ : Nat → Nat} {m : Nat} (hψ : ∀ b, b < m → ψ b = b) : ∀ l : List AV, belL m l = true → renL ψ l = l
  | [], _ => rfl
  | v :: r, h => by
    simp only [belL, Bool.and_eq_true] at h
    simp only [renL, AV.ren_fix hψ v h.1, renL_fix hψ r h.2]
end

def retK (rs : List IRes) (Q : AV → Hp → Nat → Prop) : Kont := fun ex e h n =>
  match ex with
  | .normal => gd (retV rs e h) fun r => r.1 = true ∧ Q r.2 h n
  | .ret => gd (retV rs e h) fun r => r.1 = true ∧ Q r.2 h n
  | _ => False

def argEnv : Nat → List AV → Env
  | _, [] => []
  | i, v :: r => (i, v) :: argEnv (i + 1) r

theorem argEnv_get : ∀ {l : List AV} {i t : Nat} {v : AV}, eget (argEnv i l) t = some v → i ≤ t ∧ l[t - i]? = some v
  | [], _, _, _, h => by simp [argEnv, eget] at h
  | x :: l, i, t, v, h => by
    simp only [argEnv, eget] at h
    by_cases hit : t = i
    · subst hit; simp at h; subst h; simp
    · rw [beq_ne hit] at h
      obtain ⟨h1, h2⟩ := argEnv_get h
      refine ⟨by omega, ?_⟩
      rw [show t - i = (t - (i + 1)) + 1 by omega]
      simpa using h2

section
variable {P : Program} {D : Nat → Prop} {φ : Phi} {w : World} {n N : Nat} {e : Env} {h : Hp} {a : Act}

theorem asAddr_run (ad : Addr) (w : World) : (asAddr (.pointer (some ad))).run P w = .ok ad w := rfl

def resF (tmps : Array Value) : ResultVar → Sem Value
  | .tmp t => pure (tmps.getD t undef)
  | .cell ad t => do loadVar t (← asAddr (tmps.getD ad undef))

theorem results_eq (fn : Func) (tmps : Array Value) : results fn tmps = (do let vs ← fn.results.mapM (resF tmps); pure (if h : vs.size = 1 then vs[0] else .tuple vs)) := rfl

theorem retVs_rel (hR : Rel D φ e h n N a w) :
    ∀ {rv : List ResultVar} {rs : List IRes} {q : Bool × List AV}, compRes P rv = some rs → retVs e h rs = some q → q.1 = true →
    ∃ us : List Value, (rv.mapM (resF a.tmps)).run P w = .ok us w ∧ All2 D φ q.2 us
  | [], rs, q, h1, h2, _ => by simp [compRes] at h1; subst h1; simp [retVs] at h2; subst h2; exact ⟨[], by simp, .nil⟩
  | .tmp t :: rv, rs, q, h1, h2, hq => by
    simp only [compRes] at h1
    obtain ⟨rs', hrs, rfl⟩ := Option.map_eq_some_iff.1 h1
    simp only [retVs, Option.bind_eq_some_iff, Option.some.injEq] at h2
    obtain ⟨v, hv, q', hq', rfl⟩ := h2
    obtain ⟨us, g1, g2⟩ := retVs_rel hR hrs hq' hq
    refine ⟨a.tmps.getD t undef :: us, ?_, .cons (hR.env t v hv) g2⟩
    simp only [List.mapM_cons, Sem.run_bind, resF, Sem.run_pure, Result.andThen_ok]
    rw [g1]; rfl
  | .cell ad t :: rv, rs, q, h1, h2, hq => by
    simp only [compRes, Option.bind_eq_some_iff] at h1
    obtain ⟨g, hg, z, hz, h1⟩ := h1
    obtain ⟨rs', hrs, rfl⟩ := Option.map_eq_some_iff.1 h1
    simp only [retVs, Option.bind_eq_some_iff] at h2
    obtain ⟨v, hv, h2⟩ := h2
    have hvr := hR.env ad v hv
    split at h2
    · rename_i b o
      simp only [Option.bind_eq_some_iff] at h2
      obtain ⟨k, hk, h2⟩ := h2
      generalize hu : a.tmps.getD ad undef = u at hvr
      cases hvr
      cases g
      · simp only [Option.bind_eq_some_iff, Option.some.injEq] at h2
        obtain ⟨x, hx, q', hq', rfl⟩ := h2
        obtain ⟨us, g1, g2⟩ := retVs_rel hR hrs hq' hq
        obtain ⟨y, hy, hyr⟩ := HR.cell (P := P) hR.heap hk hx
        refine ⟨y :: us, ?_, .cons hyr g2⟩
        have hl : (loadVar t ⟨φ.blk b, φ.off b + o, none⟩).run P w = .ok y w := by
          simp only [loadVar, Sem.run_bind, run_isAgg hg, Result.andThen_ok, Bool.false_eq_true, if_false]; exact hy
        simp only [List.mapM_cons, Sem.run_bind, resF, hu, asAddr_run, Result.andThen_ok, hl, g1, Sem.run_pure]
      · simp only [Option.bind_eq_some_iff, Option.some.injEq] at h2
        obtain ⟨q', hq', rfl⟩ := h2
        simp only [Bool.and_eq_true] at hq
        obtain ⟨us, g1, g2⟩ := retVs_rel hR hrs hq' hq.2
        obtain ⟨ys, hy, hyr⟩ := HR.row (P := P) hR.heap hk (of_decide_eq_true hq.1)
        refine ⟨.agg ys.toArray :: us, ?_, .cons (VRel.agg' hyr) g2⟩
        have hl : (loadVar t ⟨φ.blk b, φ.off b + o, none⟩).run P w = .ok (.agg ys.toArray) w := by
          simp only [loadVar, Sem.run_bind, run_isAgg hg, Result.andThen_ok, if_true, run_sizeOf hz, hy, Sem.run_pure]
        simp only [List.mapM_cons, Sem.run_bind, resF, hu, asAddr_run, Result.andThen_ok, hl, g1, Sem.run_pure]
    · cases h2

/-- A function, from arguments and a heap given outright, to a value and a heap given outright. -/
def FTL (P : Program) (f : FuncId) (args : List AV) (h : Hp) (n : Nat) (v : AV) (h' : Hp) (n' : Nat) : Prop :=
  ∀ D φ w (us : List Value), (∀ b, D b → b < n) → HR D φ (hget h) w → All2 D φ args us →
    Calls P f us.toArray w fun e w' => ∃ D' φ' u, e = .returned u ∧ (∀ b, D' b → b < n') ∧ VRel D' φ' v u ∧ Stp D φ (hget h) w D' φ' (hget h') w'

/-- What the walk shows at a function's end: the state covers the result. -/
def Ends (n0 : Nat) (v : AV) (h : Hp) (n : Nat) (v2 : AV) (h2 : Hp) (n2 : Nat) : Prop := ∃ ψ, Wk n0 ψ [(0, v)] h n [(0, v2)] h2 n2

theorem FTL.of_wp {f : FuncId} {fn : Func} {I : IFn} {args : List AV} {v2 : AV} {h2 : Hp} {n2 : Nat} (hf : P.funcs[f]? = some fn) (hI : compF P fn = some I) (hnp : args.length ≤ I.N)
    (hi : ∀ c, compC P I.ct I.N c = I.code → WP P I.N n c (retK I.res fun v h' n' => Ends n v h' n' v2 h2 n2) (argEnv 0 args) h n) : FTL P f args h n v2 h2 n2 := by
  intro D φ w us hD0 hH hargs
  have hD : ∀ b, (fun b => b < n) b → b < n := fun b hb => hb
  have hH : HR (fun b => b < n) φ (hget h) w := ⟨fun b k hb => ⟨hD0 b (hH.at_ b k hb).1, (hH.at_ b k hb).2.mono hD0 (Agree.refl _ _) (hH.at_ b k hb).1 rfl⟩, hH.sep⟩
  have hargs : All2 (fun b => b < n) φ args us := hargs.mono hD0 (Agree.refl _ _)
  have hout : ∀ D' φ' H' w', Stp (fun b => b < n) φ (hget h) w D' φ' H' w' → Stp D φ (hget h) w D' φ' H' w' := fun D' φ' H' w' hs => ⟨fun b hb => hs.sub b (hD0 b hb), fun b hb => hs.agree b (hD0 b hb), hs.hr, hs.frm, hs.img⟩
  simp only [compF, Option.bind_eq_some_iff] at hI
  obtain ⟨c, hc, rs, hrs, hI⟩ := hI
  split at hI
  · rename_i hle
    simp only [Option.some.injEq] at hI
    subst hI
    simp only at hi hnp
    refine calls_of_wp hf hc ?_
    have hsz : (us.toArray ++ Array.replicate (fn.ntmps - us.toArray.size) undef).size = fn.ntmps := by
      have := hargs.1; simp; omega
    have hR : Rel (fun b => b < n) φ (argEnv 0 args) h n fn.ntmps { tmps := us.toArray ++ Array.replicate (fn.ntmps - us.toArray.size) undef, defers := [] } w := by
      refine ⟨hD, fun t v hv => ?_, hH, hsz, rfl⟩
      obtain ⟨_, hv'⟩ := argEnv_get hv
      obtain ⟨u, hu, hr⟩ := hargs.get hv'
      have hlt : t < us.length := by
        rcases Nat.lt_or_ge t us.length with h' | h'
        · exact h'
        · rw [Nat.sub_zero, List.getElem?_eq_none h'] at hu; cases hu
      have : (us.toArray ++ Array.replicate (fn.ntmps - us.toArray.size) undef).getD t undef = u := by
        rw [Array.getD_eq_getD_getElem?, Array.getElem?_append_left (by simpa using hlt)]
        simp at hu ⊢
        simp [hu]
      rw [this]; exact hr
    have hw := hi c rfl _ φ (hget h) w hD (Nat.le_refl _) _ φ _ w hR (Stp.refl hH)
    refine wp_mono hw (fun ex a' w' hp => ?_)
    have fin : (∃ D' φ' e' h' n', (gd (retV rs e' h') fun r => r.1 = true ∧ Ends n r.2 h' n' v2 h2 n2) ∧ Rel D' φ' e' h' n' fn.ntmps a' w' ∧ Stp (fun b => b < n) φ (hget h) w D' φ' (hget h') w') →
        a'.defers = [] ∧ ∃ v, (results fn a'.tmps).run P w' = .ok v w' ∧ ∃ D' φ' u, Ending.returned v = .returned u ∧ (∀ b, D' b → b < n2) ∧ VRel D' φ' v2 u ∧ Stp D φ (hget h) w D' φ' (hget h2) w' := by
      rintro ⟨D', φ', e', h', n', hret, hR', hS'⟩
      obtain ⟨r, hr, hrc, ψ, hW⟩ := gd_elim hret
      simp only [retV, Option.bind_eq_some_iff] at hr
      obtain ⟨q, hq, hr⟩ := hr
      simp only [Option.some.injEq] at hr
      subst hr
      obtain ⟨us', g1, g2⟩ := retVs_rel hR' hrs hq hrc
      have hres : (results fn a'.tmps).run P w' = .ok (packV us') w' := by
        rw [results_eq]
        simp only [Sem.run_bind]
        rw [Array.mapM_eq_mapM_toList]
        simp only [Sem.run_map]
        rw [g1]
        simp only [Result.andThen_ok, Sem.run_pure]
        congr 1
        match us' with
        | [] => rfl
        | [u] => rfl
        | _ :: _ :: _ => simp [packV]
      have hvr : VRel D' φ' (packA q.2) (packV us') := pack_rel g2
      -- forget
      have hR2 : Rel D' φ' [(0, packA q.2)] h' n' 1 { tmps := #[packV us'], defers := [] } w' := by
        refine ⟨hR'.lt, fun t v hv => ?_, hR'.heap, rfl, rfl⟩
        simp only [eget] at hv
        by_cases ht : t = 0
        · subst ht; simp at hv; subst hv; exact hvr
        · rw [beq_ne ht] at hv; simp at hv
      obtain ⟨hR3, hS3⟩ := Rel.weaken hW hD hR2 hS'
      refine ⟨hR'.defers, _, hres, _, _, _, rfl, hR3.lt, ?_, hout _ _ _ _ hS3⟩
      exact hR3.env 0 v2 (by simp [eget])
    obtain ⟨D', φ', e', h', n', hk, hn', hR', hS'⟩ := hp
    cases ex with
    | normal => exact fin ⟨D', φ', e', h', n', hk, hR', hS'⟩
    | ret => exact fin ⟨D', φ', e', h', n', hk, hR', hS'⟩
    | _ => exact hk.elim
  · cases hI

theorem FTL.of_iw {f : FuncId} {fn : Func} {I : IFn} {cx : Cx} {args : List AV} {v2 : AV} {h2 : Hp} {n2 : Nat} (hcx : Sound P cx) (hm : P.follows .mixedOrders = true) (hf : P.funcs[f]? = some fn) (hI : compF P fn = some I) (hnp : args.length ≤ I.N)
    (hi : iw ⟨P, cx, I.ct, I.N, n⟩ I.code (retK I.res fun v h' n' => Ends n v h' n' v2 h2 n2) (argEnv 0 args) h n) : FTL P f args h n v2 h2 n2 :=
  FTL.of_wp hf hI hnp (fun c hc => iw_sound ⟨P, cx, I.ct, I.N, n⟩ hcx hm c _ _ _ _ (by show iw _ (compC P I.ct I.N c) _ _ _ _; rw [hc]; exact hi))

/-- No new names. -/
theorem Ends.pure {n0 n : Nat} {v : AV} {h : Hp} (hv : v.bel n0 = true) : Ends n0 v h n v [] n0 := by
  refine ⟨_root_.id, Nat.le_refl _, fun _ _ => rfl, fun t x hx => ?_, fun b k hb => by simp [hget] at hb, fun b1 b2 k1 k2 hb => by simp [hget] at hb⟩
  simp only [eget] at hx
  by_cases ht : t = 0
  · subst ht
    simp at hx; subst hx
    exact ⟨by simp [eget, AV.ren_fix (ψ := _root_.id) (fun _ _ => rfl) v hv], hv⟩
  · rw [beq_ne ht] at hx; simp at hx

theorem hget_mem {h : Hp} {b : Nat} {k : Blk} (hb : hget h b = some k) : (b, k) ∈ h := by
  induction h with
  | nil => simp [hget] at hb
  | cons x h ih =>
    obtain ⟨c, j⟩ := x
    simp only [hget] at hb
    by_cases hc : b = c
    · subst hc; simp at hb; subst hb; exact List.mem_cons_self
    · rw [beq_ne hc] at hb; exact List.mem_cons_of_mem _ (ih hb)

/-- Old blocks, as they are said to be; no new names. -/
theorem Ends.keep {n0 n : Nat} {v : AV} {h h2 : Hp} (hv : v.bel n0 = true) (hh : ∀ b k, (b, k) ∈ h2 → hget h b = some k ∧ belL n0 k.cells = true ∧ b < n0) : Ends n0 v h n v h2 n0 := by
  refine ⟨_root_.id, Nat.le_refl _, fun _ _ => rfl, fun t x hx => ?_, fun b k hb => ?_, fun b1 b2 k1 k2 _ _ _ he => he⟩
  · simp only [eget] at hx
    by_cases ht : t = 0
    · subst ht
      simp at hx; subst hx
      exact ⟨by simp [eget, AV.ren_fix (ψ := _root_.id) (fun _ _ => rfl) v hv], hv⟩
    · rw [beq_ne ht] at hx; simp at hx
  · obtain ⟨h1, h2, h3⟩ := hh b k (hget_mem hb)
    refine ⟨?_, h2, h3⟩
    simp only [_root_.id, Blk.ren, renL_fix (ψ := _root_.id) (fun _ _ => rfl) k.cells h2]
    exact h1

/-- FROM A FUNCTION GIVEN OUTRIGHT TO A CONTRACT AT ANY NAMES. -/
theorem CallOK.of_FTL {f : FuncId} {argsL args : List AV} {hL hR h : Hp} {k kR n : Nat} {vR : AV} {E : Eff} {ψ : Nat → Nat} (hc : Go.Ab.callable P f = true) (hft : FTL P f argsL hL k vR hR kR) (hk : k ≤ kR)
    (hbel : belL k argsL = true) (hcov : ∀ b, b < k → ∃ kk, hget hL b = some kk) (hhb : ∀ b kk, hget hL b = some kk → b < k ∧ belL k kk.cells = true) (hargs : args = renL ψ argsL)
    (hheap : ∀ b kk, hget hL b = some kk → only (hget h) E.rd (ψ b) = some (kk.ren ψ))
    (hinj : ∀ b1 b2 k1 k2, hget hL b1 = some k1 → hget hL b2 = some k2 → k1.ro = false → ψ b1 = ψ b2 → b1 = b2)
    (hn : E.n = n + (kR - k)) (hv : E.v = vR.ren (fun b => if b < k then ψ b else n + (b - k)))
    (hmd : ∀ b r, mget E.md b = some r → inl E.rd b = true) (hnw : ∀ b kk, hget E.nw b = some kk → n ≤ b ∧ b < E.n)
    (hE : ∀ c kk, E.app (only (hget h) E.rd) c = some kk → ∃ b kb, hget hR b = some kb ∧ b < kR ∧ c = (if b < k then ψ b else n + (b - k)) ∧ kk = kb.ren (fun b => if b < k then ψ b else n + (b - k)) ∧ (kb.ro = true → b < k ∧ hget hL b = some kb)) : CallOK P f args h n E := by
  refine ⟨hc, by omega, hmd, hnw, fun D φ w us hfresh hH hA => ?_⟩
  subst hargs
  -- the callee's own names
  have hD : ∀ b, (b < k ∧ D (ψ b)) → b < k := fun b hb => hb.1
  have hHL : HR (fun b => b < k ∧ D (ψ b)) (φ.comp ψ) (hget hL) w := by
    refine ⟨fun b kk hb => ?_, fun b1 b2 k1 k2 hne h1 h2 hro => ?_⟩
    · obtain ⟨g1, g2⟩ := hhb b kk hb
      obtain ⟨hd, ⟨⟨cs, elem, fr, q1, q2, q3, q4⟩, q5⟩⟩ := hH.at_ (ψ b) _ (hheap b kk hb)
      refine ⟨⟨g1, hd⟩, ⟨⟨cs, elem, fr, q1, fun i v hv => ?_, q3, q4⟩, q5⟩⟩
      obtain ⟨u, hu, hr⟩ := q2 i (v.ren ψ) (by simp [Blk.ren, renL_eq, hv])
      exact ⟨u, hu, hr.unren v rfl (belL_spec g2 v (List.mem_of_getElem? hv))⟩
    · exact hH.sep (ψ b1) (ψ b2) _ _ (fun e => hne (hinj b1 b2 k1 k2 h1 h2 hro e)) (hheap b1 k1 h1) (hheap b2 k2 h2) hro
  have hAL : All2 (fun b => b < k ∧ D (ψ b)) (φ.comp ψ) argsL us := by
    rw [renL_eq] at hA
    refine ⟨by simpa using hA.1, fun i a u ha hu => ?_⟩
    exact (hA.2 i (a.ren ψ) u (by simp [ha]) hu).unren a rfl (belL_spec hbel a (List.mem_of_getElem? ha))
  have hlt : ∀ b, (b < k ∧ D (ψ b)) → b < k := fun b hb => hb.1
  have hHL' : HR (fun b => b < k) (φ.comp ψ) (hget hL) w := ⟨fun b kk hb => ⟨(hHL.at_ b kk hb).1.1, (hHL.at_ b kk hb).2.mono hlt (Agree.refl _ _) (hHL.at_ b kk hb).1 rfl⟩, hHL.sep⟩
  refine (hft (fun b => b < k) (φ.comp ψ) w us (fun b hb => hb) hHL' (hAL.mono hlt (Agree.refl _ _))).mono fun e w' hx => ?_
  obtain ⟨D', φ', u, rfl, hD', hv', hS⟩ := hx
  have hcovD : ∀ b, b < k → D (ψ b) := fun b hb => by
    obtain ⟨kk, hkk⟩ := hcov b hb
    exact (hHL.at_ b kk hkk).1.2
  -- back to the caller's
  let χ : Nat → Nat := fun b => if b < k then ψ b else n + (b - k)
  let φ2 : Phi := { blk := fun c => if n ≤ c ∧ c < E.n then φ'.blk (k + (c - n)) else φ.blk c, off := fun c => if n ≤ c ∧ c < E.n then φ'.off (k + (c - n)) else φ.off c, cap := fun c => if n ≤ c ∧ c < E.n then φ'.cap (k + (c - n)) else φ.cap c, esz := fun c => if n ≤ c ∧ c < E.n then φ'.esz (k + (c - n)) else φ.esz c }
  have hDm : ∀ c, D c → Dn D n E.n c := fun c hc => .inl hc
  have hag : Agree D φ φ2 := fun c hc => by
    have : ¬ (n ≤ c ∧ c < E.n) := fun hh => hfresh c hh.1 hh.2 hc
    simp [φ2, this]
  have hχD : ∀ b, D' b → Dn D n E.n (χ b) := fun b hb => by
    have := hD' b hb
    by_cases hbk : b < k
    · simp only [χ, hbk, if_true]; exact .inl (hcovD b hbk)
    · simp only [χ, hbk, if_false]; exact .inr ⟨by omega, by omega⟩
  have hφχ : ∀ b, b < kR → φ'.blk b = φ2.blk (χ b) ∧ φ'.off b = φ2.off (χ b) ∧ φ'.cap b = φ2.cap (χ b) ∧ φ'.esz b = φ2.esz (χ b) := fun b hb => by
    by_cases hbk : b < k
    · have h1 : ¬ (n ≤ ψ b ∧ ψ b < E.n) := fun hh => hfresh _ hh.1 hh.2 (hcovD b hbk)
      have h2 := hS.agree b hbk
      simp only [χ, hbk, if_true, φ2, h1, if_false]
      exact h2
    · have h1 : n ≤ n + (b - k) ∧ n + (b - k) < E.n := ⟨by omega, by omega⟩
      have h2 : k + (n + (b - k) - n) = b := by omega
      simp only [χ, hbk, if_false, φ2, h1, and_self, if_true, h2]
  refine ⟨u, φ2, rfl, ?_, ⟨hDm, hag, ⟨fun c kk hc => ?_, fun c1 c2 k1 k2 hne h1 h2 hro => ?_⟩, ⟨hS.frm.os, hS.frm.tape, hS.frm.output, hS.frm.size, fun c hc hno => hS.frm.block c hc (fun b kb hb hro => ?_)⟩, fun c kk hc hro => ?_⟩, fun c kk hc hro => ?_⟩
  · rw [hv]; exact hv'.ren hχD (fun b hb => hφχ b (hD' b hb))
  · obtain ⟨b, kb, g1, g2, rfl, rfl, g5⟩ := hE c kk hc
    obtain ⟨hd, ⟨⟨cs, elem, fr, q1, q2, q3, q4⟩, q5⟩⟩ := hS.hr.at_ b kb g1
    obtain ⟨f1, f2, f3, f4⟩ := hφχ b g2
    refine ⟨hχD b hd, ⟨⟨cs, elem, fr, by rw [← f1]; exact q1, fun i v hv => ?_, fun hr => by rw [← f2]; exact q3 hr, fun e he => by rw [← f3, ← f4]; exact q4 e he⟩, fun g hg => by rw [← f1, ← f2]; exact q5 g hg⟩⟩
    simp only [Blk.ren, renL_eq, List.getElem?_map, Option.map_eq_some_iff] at hv
    obtain ⟨v', hv', rfl⟩ := hv
    obtain ⟨u', hu', hr'⟩ := q2 i v' hv'
    exact ⟨u', by rw [← f2]; exact hu', hr'.ren hχD (fun b hb => hφχ b (hD' b hb))⟩
  · obtain ⟨b1, kb1, g1, g2, rfl, rfl, _⟩ := hE c1 k1 h1
    obtain ⟨b2, kb2, g3, g4, rfl, rfl, _⟩ := hE c2 k2 h2
    have e1 := (hφχ b1 g2).1
    have e2 := (hφχ b2 g4).1
    show φ2.blk (χ b1) ≠ φ2.blk (χ b2)
    rw [← e1, ← e2]
    exact hS.hr.sep b1 b2 kb1 kb2 (fun e => hne (by rw [e])) g1 g3 hro
  · exact hno (ψ b) _ (hheap b kb hb) hro
  · obtain ⟨b, kb, g1, g2, rfl, rfl, _⟩ := hE c kk hc
    have e1 := (hφχ b g2).1
    show w.heap.size ≤ φ2.blk (χ b) ∨ ∃ m km, only (hget h) E.rd m = some km ∧ km.ro = false ∧ φ.blk m = φ2.blk (χ b)
    rw [← e1]
    rcases hS.img b kb g1 hro with h1 | ⟨m, km, h1, h2, h3⟩
    · exact .inl h1
    · exact .inr ⟨ψ m, _, hheap m km h1, h2, h3⟩
  · obtain ⟨b, kb, g1, g2, rfl, rfl, g5⟩ := hE c kk hc
    obtain ⟨h1, h2⟩ := g5 hro
    rw [if_pos h1, hheap b kb h2]
    congr 1
    simp only [Blk.ren, Blk.mk.injEq, and_true]
    exact renL_congr (m := k) (fun b hb => by simp [hb]) _ (hhb b kb h2).2

end
end Go.Ab
