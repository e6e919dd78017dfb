/- The abstract layer, part 20: the rules by which simp runs a body. -/
import Derived.Test.YtiacdfhaopnekaaAbFn
namespace Go.Ab
set_option linter.unusedVariables false

@[congr] theorem gd_congr {α : Type} {x y : Option α} {k : α → Prop} (h : x = y) : gd x k = gd y k := by rw [h]
theorem gd_some {α : Type} {a : α} {k : α → Prop} : gd (some a) k = k a := (rfl)
@[congr] theorem bind_congr' {α β : Type} {x y : Option α} {k : α → Option β} (h : x = y) : x.bind k = y.bind k := by rw [h]
theorem bind_some' {α β : Type} {a : α} {k : α → Option β} : (some a).bind k = k a := (rfl)

/-- A side condition, then the rest. -/
def andB (c : Bool) (k : Prop) : Prop := c = true ∧ k
theorem andB_t {k : Prop} : andB true k = k := by simp [andB]
theorem andB_i {c : Bool} {k : Prop} (h1 : c = true) (h2 : k) : andB c k := ⟨h1, h2⟩

def stepD (cx : Cx) (o : IOp) (e : Env) (h : Hp) (n : Nat) : Option (Bool × AV × Hp × Nat) :=
  (stepC cx o e h n).bind fun r => some (r.1, r.2.v, r.2.appL h, r.2.n)

def gd4 (x : Option (Bool × AV × Hp × Nat)) (k : Bool → AV → Hp → Nat → Prop) : Prop :=
  match x with
  | some (c, v, h, n) => k c v h n
  | none => False
@[congr] theorem gd4_congr {x y : Option (Bool × AV × Hp × Nat)} {k : Bool → AV → Hp → Nat → Prop} (h : x = y) : gd4 x k = gd4 y k := by rw [h]
theorem gd4_some {c : Bool} {v : AV} {h : Hp} {n : Nat} {k : Bool → AV → Hp → Nat → Prop} : gd4 (some (c, v, h, n)) k = k c v h n := (rfl)

def stepE (cx : Cx) (un : List Nat) (i : Nat) (dn : List (Nat × Eff)) (o : IOp) (e : Env) (h : Hp) (n : Nat) : Option (Bool × AV × Hp × Nat × List (Nat × Eff)) :=
  (stepC cx o e h n).bind fun r => some (r.1 && effOK h n r.2 && okAll un r.2 dn, r.2.v, r.2.appL h, r.2.n, pushD i r.2 dn)

def gd5 (x : Option (Bool × AV × Hp × Nat × List (Nat × Eff))) (k : Bool → AV → Hp → Nat → List (Nat × Eff) → Prop) : Prop :=
  match x with
  | some (c, v, h, n, d) => k c v h n d
  | none => False
@[congr] theorem gd5_congr {x y : Option (Bool × AV × Hp × Nat × List (Nat × Eff))} {k : Bool → AV → Hp → Nat → List (Nat × Eff) → Prop} (h : x = y) : gd5 x k = gd5 y k := by rw [h]
theorem gd5_some {c : Bool} {v : AV} {h : Hp} {n : Nat} {d : List (Nat × Eff)} {k : Bool → AV → Hp → Nat → List (Nat × Eff) → Prop} : gd5 (some (c, v, h, n, d)) k = k c v h n d := (rfl)

/-- Is a guarded operation wanted? -/
def wantB (v : AV) (b : Bool) (y n : Prop) : Prop :=
  match v, b with
  | .b true, true => y
  | .b false, false => y
  | .b true, false => n
  | .b false, true => n
  | .tup [], _ => n
  | _, _ => False
theorem wantB_tt {y n : Prop} : wantB (.b true) true y n = y := (rfl)
theorem wantB_ff {y n : Prop} : wantB (.b false) false y n = y := (rfl)
theorem wantB_tf {y n : Prop} : wantB (.b true) false y n = n := (rfl)
theorem wantB_ft {y n : Prop} : wantB (.b false) true y n = n := (rfl)
theorem wantB_u {b : Bool} {y n : Prop} : wantB (.tup []) b y n = n := by cases b <;> rfl

theorem want_eq {e : Env} {t : Nat} {b : Bool} {k : Bool → Prop} : (gd (eget e t) fun v => wantB v b (k true) (k false)) → gd (wantedI e (some (t, b))) k := fun h => by
  obtain ⟨v, hv, h⟩ := gd_elim h
  simp only [wantedI, hv]
  unfold wantB at h
  split at h
  · exact h
  · exact h
  · exact h
  · exact h
  · exact h
  · exact h.elim

/-- Which way? -/
def condB (v : AV) (y n : Prop) : Prop :=
  match v with
  | .b true => y
  | .b false => n
  | _ => False
theorem condB_t {y n : Prop} : condB (.b true) y n = y := (rfl)
theorem condB_f {y n : Prop} : condB (.b false) y n = n := (rfl)

/-- The same run, in a form that simp takes. -/
def rOps (cx : Cx) : List IOper → Env → Hp → Nat → (Env → Hp → Nat → Prop) → Prop
  | [], e, h, n, K => K e h n
  | ⟨d, o, none, s⟩ :: os, e, h, n, K => gd4 (stepD cx o e h n) fun c v h n => andB c (fin1 s v fun v => rOps cx os (eput d v e) h n K)
  | ⟨d, o, some (t, b), s⟩ :: os, e, h, n, K => gd (eget e t) fun v => wantB v b
      (gd4 (stepD cx o e h n) fun c v h n => andB c (fin1 s v fun v => rOps cx os (eput d v e) h n K))
      (rOps cx os (eput d (.tup []) e) h n K)

section
variable {cx : Cx} {d : Nat} {o : IOp} {s : Bool} {os : List IOper} {e : Env} {h : Hp} {n t : Nat} {b : Bool} {K : Env → Hp → Nat → Prop}
theorem rOps_nil : rOps cx [] e h n K = K e h n := (rfl)
theorem rOps_s : rOps cx (⟨some d, o, none, s⟩ :: os) e h n K = gd4 (stepD cx o e h n) fun c v h n => andB c (fin1 s v fun v => rOps cx os ((d, v) :: e) h n K) := (rfl)
theorem rOps_n : rOps cx (⟨none, o, none, s⟩ :: os) e h n K = gd4 (stepD cx o e h n) fun c v h n => andB c (fin1 s v fun _ => rOps cx os e h n K) := (rfl)
theorem rOps_gs : rOps cx (⟨some d, o, some (t, b), s⟩ :: os) e h n K = gd (eget e t) fun v => wantB v b (rOps cx (⟨some d, o, none, s⟩ :: os) e h n K) (rOps cx os ((d, .tup []) :: e) h n K) := (rfl)
theorem rOps_gn : rOps cx (⟨none, o, some (t, b), s⟩ :: os) e h n K = gd (eget e t) fun v => wantB v b (rOps cx (⟨none, o, none, s⟩ :: os) e h n K) (rOps cx os e h n K) := (rfl)
end

theorem gd4_to {cx : Cx} {o : IOp} {e : Env} {h : Hp} {n : Nat} {s : Bool} {k k' : AV → Hp → Nat → Prop} (hr : gd4 (stepD cx o e h n) fun c v h n => andB c (fin1 s v fun v => k v h n))
    (hk : ∀ {s v} {k k' : AV → Prop}, (∀ v, k v → k' v) → fin1 s v k → fin1 s v k') (hkk : ∀ v h n, k v h n → k' v h n) : gd (stepC cx o e h n) fun r => r.1 = true ∧ fin1 s r.2.v fun v => k' v (r.2.appL h) r.2.n := by
  unfold stepD at hr
  cases hx : stepC cx o e h n with
  | none => rw [hx] at hr; exact hr.elim
  | some r => rw [hx] at hr; exact ⟨hr.1, hk (fun v hv => hkk _ _ _ hv) hr.2⟩

theorem fin1_mono {s : Bool} {v : AV} {k k' : AV → Prop} (hk : ∀ v, k v → k' v) (h : fin1 s v k) : fin1 s v k' := by
  unfold fin1 at h ⊢
  split
  · exact ⟨fun hc => hk _ (h.1 hc), fun hc => hk _ (h.2 hc)⟩
  · rename_i hno
    split at h
    · rename_i c; exact (hno c rfl rfl).elim
    · exact hk _ h

theorem gd_mono {α : Type} {x : Option α} {k k' : α → Prop} (hk : ∀ a, k a → k' a) (h : gd x k) : gd x k' := by
  cases x with
  | none => exact h
  | some a => exact hk a h

theorem runOps_of_rOps {cx : Cx} : ∀ {l : List IOper} {e : Env} {h : Hp} {n : Nat} {K : Env → Hp → Nat → Prop}, rOps cx l e h n K → runOps cx l e h n K
  | [], e, h, n, K, hr => hr
  | ⟨d, o, none, s⟩ :: os, e, h, n, K, hr => by
    simp only [rOps] at hr
    rw [runOps]
    show gd (stepC cx o e h n) _
    exact gd4_to hr fin1_mono (fun v h n hv => runOps_of_rOps hv)
  | ⟨d, o, some (t, b), s⟩ :: os, e, h, n, K, hr => by
    simp only [rOps] at hr
    unfold runOps
    refine want_eq (gd_mono (fun v hv => ?_) hr)
    unfold wantB at hv ⊢
    split at hv <;> first
      | exact gd4_to hv fin1_mono (fun v h n hv => runOps_of_rOps hv)
      | exact runOps_of_rOps hv
      | exact hv.elim

def rD (cx : Cx) : List (IOper × List Nat) → Nat → List (Nat × Eff) → Env → Hp → Nat → (Env → Hp → Nat → Prop) → Prop
  | [], _, _, e, h, n, K => K e h n
  | (⟨d, o, none, s⟩, un) :: os, i, dn, e, h, n, K => gd5 (stepE cx un i dn o e h n) fun c v h n dn => andB c (fin1 s v fun v => rD cx os (i + 1) dn (eput d v e) h n K)
  | (⟨d, o, some (t, b), s⟩, un) :: os, i, dn, e, h, n, K => gd (eget e t) fun v => wantB v b
      (gd5 (stepE cx un i dn o e h n) fun c v h n dn => andB c (fin1 s v fun v => rD cx os (i + 1) dn (eput d v e) h n K))
      (rD cx os (i + 1) dn (eput d (.tup []) e) h n K)

section
variable {cx : Cx} {d : Nat} {o : IOp} {s : Bool} {un : List Nat} {os : List (IOper × List Nat)} {e : Env} {h : Hp} {i n t : Nat} {dn : List (Nat × Eff)} {b : Bool} {K : Env → Hp → Nat → Prop}
theorem rD_nil : rD cx [] i dn e h n K = K e h n := (rfl)
theorem rD_s : rD cx ((⟨some d, o, none, s⟩, un) :: os) i dn e h n K = gd5 (stepE cx un i dn o e h n) fun c v h n dn => andB c (fin1 s v fun v => rD cx os (i + 1) dn ((d, v) :: e) h n K) := (rfl)
theorem rD_n : rD cx ((⟨none, o, none, s⟩, un) :: os) i dn e h n K = gd5 (stepE cx un i dn o e h n) fun c v h n dn => andB c (fin1 s v fun _ => rD cx os (i + 1) dn e h n K) := (rfl)
theorem rD_gs : rD cx ((⟨some d, o, some (t, b), s⟩, un) :: os) i dn e h n K = gd (eget e t) fun v => wantB v b (rD cx ((⟨some d, o, none, s⟩, un) :: os) i dn e h n K) (rD cx os (i + 1) dn ((d, .tup []) :: e) h n K) := (rfl)
theorem rD_gn : rD cx ((⟨none, o, some (t, b), s⟩, un) :: os) i dn e h n K = gd (eget e t) fun v => wantB v b (rD cx ((⟨none, o, none, s⟩, un) :: os) i dn e h n K) (rD cx os (i + 1) dn e h n K) := (rfl)
end

theorem gd5_to {cx : Cx} {un : List Nat} {i : Nat} {dn : List (Nat × Eff)} {o : IOp} {e : Env} {h : Hp} {n : Nat} {s : Bool} {k k' : AV → Hp → Nat → List (Nat × Eff) → Prop} (hr : gd5 (stepE cx un i dn o e h n) fun c v h n dn => andB c (fin1 s v fun v => k v h n dn))
    (hkk : ∀ v h n d, k v h n d → k' v h n d) : gd (stepC cx o e h n) fun r => (r.1 && effOK h n r.2 && okAll un r.2 dn) = true ∧ fin1 s r.2.v fun v => k' v (r.2.appL h) r.2.n (pushD i r.2 dn) := by
  unfold stepE at hr
  cases hx : stepC cx o e h n with
  | none => rw [hx] at hr; exact hr.elim
  | some r => rw [hx] at hr; exact ⟨hr.1, fin1_mono (fun v hv => hkk _ _ _ _ hv) hr.2⟩

theorem runD_of_rD {cx : Cx} : ∀ {l : List (IOper × List Nat)} {i : Nat} {dn : List (Nat × Eff)} {e : Env} {h : Hp} {n : Nat} {K : Env → Hp → Nat → Prop}, rD cx l i dn e h n K → runD cx l i dn e h n K
  | [], i, dn, e, h, n, K, hr => hr
  | (⟨d, o, none, s⟩, un) :: os, i, dn, e, h, n, K, hr => by
    simp only [rD] at hr
    rw [runD]
    show gd (stepC cx o e h n) _
    exact gd5_to (k' := fun v h n dn => runD cx os (i + 1) dn (eput d v e) h n K) hr (fun v h n dn hv => runD_of_rD hv)
  | (⟨d, o, some (t, b), s⟩, un) :: os, i, dn, e, h, n, K, hr => by
    simp only [rD] at hr
    unfold runD
    refine want_eq (gd_mono (fun v hv => ?_) hr)
    unfold wantB at hv ⊢
    split at hv <;> first
      | exact gd5_to (k' := fun v h n dn => runD cx os (i + 1) dn (eput d v e) h n K) hv (fun v h n dn hv => runD_of_rD hv)
      | exact runD_of_rD hv
      | exact hv.elim

def jw (F : Fx) : ICode → Kont → Env → Hp → Nat → Prop
  | .skip, K, e, h, n => K .normal e h n
  | .reg ops, K, e, h, n => rOps F.cx ops e h n (fun e h n => K .normal e h n)
  | .dreg ops, K, e, h, n => rD F.cx ops 0 [] e h n (fun e h n => K .normal e h n)
  | .seq a b, K, e, h, n => jw F a (thenK K (jw F b K)) e h n
  | .cond c a b, K, e, h, n => gd (c.ev e h) fun v => condB v (jw F a K e h n) (jw F b K e h n)
  | .block id c, K, e, h, n => jw F c (blockK id K) e h n
  | .loop c, K, e, h, n => Loop F.P F.ct F.N F.n0 c K e h n
  | .scope c, K, e, h, n => jw F c (scopeK K) e h n
  | .exit id, K, e, h, n => K (.exit id) e h n
  | .ret, K, e, h, n => K .ret e h n
  | .bad, _, _, _, _ => False

theorem runOps_mono {cx : Cx} : ∀ {l : List IOper} {e : Env} {h : Hp} {n : Nat} {K K' : Env → Hp → Nat → Prop}, (∀ e h n, K e h n → K' e h n) → runOps cx l e h n K → runOps cx l e h n K'
  | [], e, h, n, K, K', hk, hr => hk _ _ _ hr
  | o :: os, e, h, n, K, K', hk, hr => by
    simp only [runOps] at hr ⊢
    refine gd_mono (fun b hb => ?_) hr
    cases b
    · exact runOps_mono hk hb
    · exact gd_mono (fun r hr => ⟨hr.1, fin1_mono (fun v hv => runOps_mono hk hv) hr.2⟩) hb

theorem runD_mono {cx : Cx} : ∀ {l : List (IOper × List Nat)} {i : Nat} {dn : List (Nat × Eff)} {e : Env} {h : Hp} {n : Nat} {K K' : Env → Hp → Nat → Prop}, (∀ e h n, K e h n → K' e h n) → runD cx l i dn e h n K → runD cx l i dn e h n K'
  | [], i, dn, e, h, n, K, K', hk, hr => hk _ _ _ hr
  | o :: os, i, dn, e, h, n, K, K', hk, hr => by
    obtain ⟨o, un⟩ := o
    simp only [runD] at hr ⊢
    refine gd_mono (fun b hb => ?_) hr
    cases b
    · exact runD_mono hk hb
    · exact gd_mono (fun r hr => ⟨hr.1, fin1_mono (fun v hv => runD_mono hk hv) hr.2⟩) hb

theorem Loop.mono {P : Program} {ct : List Nat} {N n0 : Nat} {c : ICode} {K K' : Kont} {e : Env} {h : Hp} {n : Nat} (hk : ∀ ex e h n, K ex e h n → K' ex e h n) (hl : Loop P ct N n0 c K e h n) : Loop P ct N n0 c K' e h n :=
  fun c' hc => (hl c' hc).mono hk

theorem iw_mono {F : Fx} : ∀ {c : ICode} {K K' : Kont} {e : Env} {h : Hp} {n : Nat}, (∀ ex e h n, K ex e h n → K' ex e h n) → iw F c K e h n → iw F c K' e h n := by
  intro c
  induction c with
  | skip => intro K K' e h n hk hi; exact hk _ _ _ _ hi
  | reg ops => intro K K' e h n hk hi; exact runOps_mono (fun _ _ _ => hk _ _ _ _) hi
  | dreg ops => intro K K' e h n hk hi; exact runD_mono (fun _ _ _ => hk _ _ _ _) hi
  | seq a b iha ihb =>
    intro K K' e h n hk hi
    exact iha (fun ex e h n hx => by cases ex <;> first | exact ihb hk hx | exact hk _ _ _ _ hx) hi
  | cond c a b iha ihb =>
    intro K K' e h n hk hi
    refine gd_mono (fun v hv => ?_) hi
    split at hv
    · exact ⟨fun hc => iha hk (hv.1 hc), fun hc => ihb hk (hv.2 hc)⟩
    · exact hv.elim
  | block id c ih =>
    intro K K' e h n hk hi
    exact ih (fun ex e h n hx => by
      cases ex with
      | exit i => simp only [blockK] at hx ⊢; split <;> rename_i hid <;> simp only [hid, if_true, if_false] at hx <;> exact hk _ _ _ _ hx
      | _ => exact hk _ _ _ _ hx) hi
  | loop c ih => intro K K' e h n hk hi; exact Loop.mono hk hi
  | scope c ih => intro K K' e h n hk hi; exact ih (fun ex e h n hx => by cases ex <;> first | exact hx.elim | exact hk _ _ _ _ hx) hi
  | exit id => intro K K' e h n hk hi; exact hk _ _ _ _ hi
  | ret => intro K K' e h n hk hi; exact hk _ _ _ _ hi
  | bad => intro K K' e h n hk hi; exact hi.elim

theorem iw_of_jw {F : Fx} : ∀ {c : ICode} {K : Kont} {e : Env} {h : Hp} {n : Nat}, jw F c K e h n → iw F c K e h n := by
  intro c
  induction c with
  | skip => intro K e h n hi; exact hi
  | reg ops => intro K e h n hi; exact runOps_of_rOps hi
  | dreg ops => intro K e h n hi; exact runD_of_rD hi
  | seq a b iha ihb =>
    intro K e h n hi
    have hi2 : iw F a (thenK K (jw F b K)) e h n := iha hi
    show iw F a (thenK K (iw F b K)) e h n
    exact iw_mono (fun ex e h n hx => by cases ex <;> first | exact ihb hx | exact hx) hi2
  | cond c a b iha ihb =>
    intro K e h n hi
    simp only [jw] at hi
    unfold iw
    refine gd_mono (fun v hv => ?_) hi
    unfold condB at hv
    split at hv
    · exact ⟨fun _ => iha hv, fun hc => by cases hc⟩
    · exact ⟨fun hc => Bool.noConfusion hc, fun _ => ihb hv⟩
    · exact hv.elim
  | block id c ih => intro K e h n hi; exact ih hi
  | loop c ih => intro K e h n hi; exact hi
  | scope c ih => intro K e h n hi; exact ih hi
  | exit id => intro K e h n hi; exact hi
  | ret => intro K e h n hi; exact hi
  | bad => intro K e h n hi; exact hi.elim

end Go.Ab
