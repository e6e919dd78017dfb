/- The abstract layer, part 16: regions that draw their order: one run in the text's order serves every order, where the operations' footprints allow it. -/
import Derived.Test.YtiacdfhaopnekaaAbCode
namespace Go.Ab
set_option linter.unusedVariables false
set_option linter.unusedSimpArgs false

def djM : List (Nat × Option Blk) → List Nat → Bool
  | [], _ => true
  | (b, _) :: r, rd => !(inl rd b) && djM r rd

def djN : List (Nat × Blk) → List Nat → Bool
  | [], _ => true
  | (b, _) :: r, rd => !(inl rd b) && djN r rd

/-- The later one's effect and the earlier one's, neither bound to come first. -/
def okPair (E Ej : Eff) : Bool := djM Ej.md E.rd && djM E.md Ej.rd && djN Ej.nw E.rd

def okAll (un : List Nat) (E : Eff) : List (Nat × Eff) → Bool
  | [] => true
  | (j, Ej) :: r => (!(inl un j) || okPair E Ej) && okAll un E r

def subM : List (Nat × Option Blk) → List Nat → Bool
  | [], _ => true
  | (b, _) :: r, rd => inl rd b && subM r rd

def rngN (n m : Nat) : List (Nat × Blk) → Bool
  | [] => true
  | (b, _) :: r => decide (n ≤ b) && decide (b < m) && rngN n m r

def hasM (h : Hp) : List (Nat × Option Blk) → Bool
  | [] => true
  | (b, _) :: r => (hget h b).isSome && hasM h r

def effOK (h : Hp) (n : Nat) (E : Eff) : Bool := decide (n ≤ E.n) && subM E.md E.rd && rngN n E.n E.nw && hasM h E.md

def pushD (i : Nat) (E : Eff) (done : List (Nat × Eff)) : List (Nat × Eff) :=
  match E.rd, E.md, E.nw with
  | [], [], [] => done
  | _, _, _ => (i, E) :: done

def runD (cx : Cx) : List (IOper × List Nat) → Nat → List (Nat × Eff) → Env → Hp → Nat → (Env → Hp → Nat → Prop) → Prop
  | [], _, _, e, h, n, K => K e h n
  | (o, un) :: os, i, done, e, h, n, K => gd (wantedI e o.guard) fun b => match b with
    | true => gd (stepC cx o.op e h n) fun r => (r.1 && effOK h n r.2 && okAll un r.2 done) = true ∧ fin1 o.spl r.2.v fun v => runD cx os (i + 1) (pushD i r.2 done) (eput o.dst v e) (r.2.appL h) r.2.n K
    | false => runD cx os (i + 1) done (eput o.dst (.tup []) e) h n K

def uns (ops : Array Oper) : List (List Nat) :=
  (List.range ops.size).map fun i => (List.range i).filter fun j => !((Region.before ops).getD i 0).testBit j

/-- The temporaries that an operation looks at. -/
def looksOf (ops : List Oper) (o : Oper) : List Nat :=
  (o.op.operands.toList.filterMap fun y => match y with | .tmp t => some t | _ => none) ++
  (match o.guard with
   | some (j, _) => ((ops[j]?).bind (·.dst)).toList
   | none => [])

def tmpsOK (ops : Array Oper) : Bool :=
  (List.range ops.size).all fun i => (List.range ops.size).all fun j =>
    match ops[i]?, ops[j]? with
    | some oi, some oj => match oj.dst with
      | some t => (i == j || oi.dst != some t) && (!((looksOf ops.toList oi).contains t) || (decide (j < i) && ((Region.before ops).getD i 0).testBit j) || (decide (i < j) && ((Region.before ops).getD j 0).testBit i))
      | none => true
    | _, _ => true

def edgesOK (ops : Array Oper) : Bool :=
  (List.range ops.size).all fun i => match ops[i]? with
    | some o => o.after.all fun e => !Region.binds .any e || decide (e.on < i)
    | none => true

def drawOK (ops : Array Oper) : Bool := tmpsOK ops && edgesOK ops

/-! ### the run as a row of states -/

abbrev St := Env × Hp × Nat

def StepOK (cx : Cx) (io : IOper) (un : List Nat) (s s' : St) (t : Option Eff) (before : Nat → Eff → Prop) : Prop :=
  (t = none ∧ wantedI s.1 io.guard = some false ∧ s' = (eput io.dst (.tup []) s.1, s.2.1, s.2.2)) ∨
  ∃ E, t = some E ∧ wantedI s.1 io.guard = some true ∧ stepC cx io.op s.1 s.2.1 s.2.2 = some (true, E) ∧ effOK s.2.1 s.2.2 E = true ∧ s' = (eput io.dst E.v s.1, E.appL s.2.1, E.n) ∧
    ∀ j Ej, before j Ej → inl un j = true → okPair E Ej = true

theorem okAll_spec {un : List Nat} {E : Eff} : ∀ {done : List (Nat × Eff)}, okAll un E done = true → ∀ j Ej, (j, Ej) ∈ done → inl un j = true → okPair E Ej = true
  | [], _, j, Ej, hm, _ => by cases hm
  | (i, Ei) :: r, h, j, Ej, hm, hu => by
    simp only [okAll, Bool.and_eq_true, Bool.or_eq_true, Bool.not_eq_true'] at h
    rcases List.mem_cons.1 hm with heq | hm
    · cases heq
      rcases h.1 with h1 | h1
      · rw [hu] at h1; cases h1
      · exact h1
    · exact okAll_spec h.2 j Ej hm hu

theorem djM_nil : ∀ (l : List (Nat × Option Blk)), djM l [] = true
  | [] => rfl
  | (b, _) :: r => by simp [djM, inl, djM_nil r]

theorem pushD_spec {i j : Nat} {E Ej : Eff} {done : List (Nat × Eff)} (h : (j = i ∧ Ej = E) ∨ (j, Ej) ∈ done) : (j, Ej) ∈ pushD i E done ∨ ∀ E', okPair E' Ej = true := by
  unfold pushD
  split
  · rename_i h1 h2 h3
    rcases h with ⟨rfl, rfl⟩ | h
    · right; intro E'; simp [okPair, h1, h2, h3, djM, djN, djM_nil]
    · exact .inl h
  · rcases h with ⟨rfl, rfl⟩ | h
    · exact .inl (List.mem_cons_self)
    · exact .inl (List.mem_cons_of_mem _ h)

theorem runD_trace {cx : Cx} : ∀ (l : List (IOper × List Nat)) (k : Nat) (done : List (Nat × Eff)) (e : Env) (h : Hp) (n : Nat) (K : Env → Hp → Nat → Prop) (B : Nat → Eff → Prop),
    (∀ j Ej, B j Ej → (j, Ej) ∈ done ∨ ∀ E', okPair E' Ej = true) → runD cx l k done e h n K →
    ∃ (S : Nat → St) (T : Nat → Option Eff), S 0 = (e, h, n) ∧ K (S l.length).1 (S l.length).2.1 (S l.length).2.2 ∧
      ∀ i io un, l[i]? = some (io, un) → StepOK cx io un (S i) (S (i + 1)) (T i) (fun j Ej => B j Ej ∨ ∃ m, m < i ∧ j = k + m ∧ T m = some Ej)
  | [], k, done, e, h, n, K, B, hB, hr => ⟨fun _ => (e, h, n), fun _ => none, rfl, hr, fun i io un hi => by simp at hi⟩
  | (o, un) :: os, k, done, e, h, n, K, B, hB, hr => by
    simp only [runD] at hr
    obtain ⟨b, hb, hr⟩ := gd_elim hr
    cases b
    · simp only at hr
      obtain ⟨S, T, h0, hK, hst⟩ := runD_trace os (k + 1) done _ h n K B hB hr
      refine ⟨fun i => match i with | 0 => (e, h, n) | i + 1 => S i, fun i => match i with | 0 => none | i + 1 => T i, rfl, hK, fun i io un' hi => ?_⟩
      cases i with
      | zero =>
        simp at hi
        obtain ⟨rfl, rfl⟩ := hi
        exact .inl ⟨rfl, hb, h0⟩
      | succ i =>
        have := hst i io un' (by simpa using hi)
        rcases this with ⟨h1, h2, h3⟩ | ⟨E, h1, h2, h3, h4, h5, h6⟩
        · exact .inl ⟨h1, h2, h3⟩
        · refine .inr ⟨E, h1, h2, h3, h4, h5, fun j Ej hj hu => h6 j Ej ?_ hu⟩
          rcases hj with hj | ⟨m, hm, rfl, hT⟩
          · exact .inl hj
          · cases m with
            | zero => simp at hT
            | succ m => exact .inr ⟨m, by omega, by omega, hT⟩
    · simp only at hr
      obtain ⟨r, hr1, hr⟩ := gd_elim hr
      obtain ⟨c, E⟩ := r
      obtain ⟨hc, hr⟩ := hr
      simp only [Bool.and_eq_true] at hc
      obtain ⟨⟨hc1, hc2⟩, hc3⟩ := hc
      subst hc1
      have hr := fin1_elim hr
      obtain ⟨S, T, h0, hK, hst⟩ := runD_trace os (k + 1) (pushD k E done) _ _ _ K (fun j Ej => B j Ej ∨ (j = k ∧ Ej = E)) (fun j Ej hj => by
        rcases hj with hj | hj
        · rcases hB j Ej hj with h1 | h1
          · exact pushD_spec (.inr h1)
          · exact .inr h1
        · exact pushD_spec (.inl hj)) hr
      refine ⟨fun i => match i with | 0 => (e, h, n) | i + 1 => S i, fun i => match i with | 0 => some E | i + 1 => T i, rfl, hK, fun i io un' hi => ?_⟩
      cases i with
      | zero =>
        simp at hi
        obtain ⟨rfl, rfl⟩ := hi
        refine .inr ⟨E, rfl, hb, hr1, hc2, h0, fun j Ej hj hu => ?_⟩
        rcases hj with hj | ⟨m, hm, _⟩
        · rcases hB j Ej hj with h1 | h1
          · exact okAll_spec hc3 j Ej h1 hu
          · exact h1 E
        · omega
      | succ i =>
        have := hst i io un' (by simpa using hi)
        rcases this with ⟨h1, h2, h3⟩ | ⟨E', h1, h2, h3, h4, h5, h6⟩
        · exact .inl ⟨h1, h2, h3⟩
        · refine .inr ⟨E', h1, h2, h3, h4, h5, fun j Ej hj hu => h6 j Ej ?_ hu⟩
          rcases hj with hj | ⟨m, hm, rfl, hT⟩
          · exact .inl (.inl hj)
          · cases m with
            | zero => simp at hT; exact .inl (.inr ⟨by omega, hT.symm⟩)
            | succ m => exact .inr ⟨m, by omega, by omega, hT⟩

/-! ### before -/

theorem before_push (l : List Oper) (acc : Array Nat) : (l.foldl (fun acc o => acc.push (o.after.foldl (fun s e => if Region.binds .any e then s ||| 2 ^ e.on ||| acc.getD e.on 0 else s) 0)) acc).size = acc.size + l.length ∧
    ∀ i, i < acc.size → (l.foldl (fun acc o => acc.push (o.after.foldl (fun s e => if Region.binds .any e then s ||| 2 ^ e.on ||| acc.getD e.on 0 else s) 0)) acc)[i]? = acc[i]? := by
  induction l generalizing acc with
  | nil => exact ⟨by simp, fun i _ => rfl⟩
  | cons o l ih =>
    simp only [List.foldl_cons]
    obtain ⟨h1, h2⟩ := ih (acc.push (o.after.foldl (fun s e => if Region.binds .any e then s ||| 2 ^ e.on ||| acc.getD e.on 0 else s) 0))
    refine ⟨by rw [h1]; simp; omega, fun i hi => ?_⟩
    rw [h2 i (by simp; omega)]
    exact Array.getElem?_push_lt' hi
where
  Array.getElem?_push_lt' {l : Array Nat} {o : Nat} {c : Nat} (h : c < l.size) : (l.push o)[c]? = l[c]? := by
    rw [Array.getElem?_push]; rw [if_neg (by omega)]

theorem or_fold (f : Edge → Nat) (l : List Edge) (s j : Nat) : (l.foldl (fun s e => if Region.binds .any e then s ||| 2 ^ e.on ||| f e else s) s).testBit j = true →
    s.testBit j = true ∨ ∃ e ∈ l, Region.binds .any e = true ∧ (e.on = j ∨ (f e).testBit j = true) := by
  induction l generalizing s with
  | nil => intro h; exact .inl h
  | cons e l ih =>
    intro h
    simp only [List.foldl_cons] at h
    rcases ih _ h with h1 | ⟨e', h1, h2, h3⟩
    · by_cases hb : Region.binds .any e = true
      · rw [if_pos hb] at h1
        simp only [Nat.testBit_or, Bool.or_eq_true] at h1
        rcases h1 with (h1 | h1) | h1
        · exact .inl h1
        · right; refine ⟨e, List.mem_cons_self, hb, .inl ?_⟩
          rw [Nat.testBit_two_pow] at h1
          exact of_decide_eq_true h1
        · exact .inr ⟨e, List.mem_cons_self, hb, .inr h1⟩
      · rw [if_neg hb] at h1; exact .inl h1
    · exact .inr ⟨e', List.mem_cons_of_mem _ h1, h2, h3⟩

/-- One step back along the edges. -/
theorem before_step {ops : Array Oper} {i j : Nat} {o : Oper} (ho : ops[i]? = some o) (h : ((Region.before ops).getD i 0).testBit j = true) :
    ∃ e ∈ o.after.toList, Region.binds .any e = true ∧ (e.on = j ∨ (e.on < i ∧ ((Region.before ops).getD e.on 0).testBit j = true)) := by
  have hlt : i < ops.size := (Array.getElem?_eq_some_iff.1 ho).1
  have hsplit : ops.toList = ops.toList.take i ++ o :: ops.toList.drop (i + 1) := by
    have : ops.toList[i]? = some o := by simpa using ho
    obtain ⟨hl, hx⟩ := List.getElem?_eq_some_iff.1 this
    rw [← hx, List.getElem_cons_drop, List.take_append_drop]
  have hb : Region.before ops = ops.toList.foldl (fun acc o => acc.push (o.after.foldl (fun s e => if Region.binds .any e then s ||| 2 ^ e.on ||| acc.getD e.on 0 else s) 0)) #[] := by
    unfold Region.before; rw [Array.foldl_toList]
  rw [hsplit, List.foldl_append, List.foldl_cons] at hb
  have hA := before_push (ops.toList.take i) #[]
  generalize hacc : (ops.toList.take i).foldl (fun acc o => acc.push (o.after.foldl (fun s e => if Region.binds .any e then s ||| 2 ^ e.on ||| acc.getD e.on 0 else s) 0)) #[] = acc at hb hA
  have hsz : acc.size = i := by rw [hA.1]; simp; omega
  have hB := before_push (ops.toList.drop (i + 1)) (acc.push (o.after.foldl (fun s e => if Region.binds .any e then s ||| 2 ^ e.on ||| acc.getD e.on 0 else s) 0))
  rw [← hb] at hB
  have hi : (Region.before ops).getD i 0 = o.after.foldl (fun s e => if Region.binds .any e then s ||| 2 ^ e.on ||| acc.getD e.on 0 else s) 0 := by
    rw [Array.getD_eq_getD_getElem?, hB.2 i (by simp; omega)]
    rw [Array.getElem?_push, if_pos hsz.symm]
    rfl
  have hold : ∀ m, m < i → acc.getD m 0 = (Region.before ops).getD m 0 := fun m hm => by
    rw [Array.getD_eq_getD_getElem?, Array.getD_eq_getD_getElem?, hB.2 m (by simp; omega), Array.getElem?_push, if_neg (by omega)]
  rw [hi, ← Array.foldl_toList] at h
  rcases or_fold (fun e => acc.getD e.on 0) o.after.toList 0 j h with h1 | ⟨e, h1, h2, h3⟩
  · simp at h1
  · refine ⟨e, h1, h2, ?_⟩
    rcases h3 with h3 | h3
    · exact .inl h3
    · by_cases hlt' : e.on < i
      · right; exact ⟨hlt', by rw [← hold _ hlt']; exact h3⟩
      · simp [Array.getD_eq_getD_getElem?, Array.getElem?_eq_none (show acc.size ≤ e.on by omega)] at h3

/-- What has come up is closed under 'comes before'. -/
def Cl (ops : Array Oper) (listed : Array Bool) : Prop := ∀ j o, listed.getD j false = true → ops[j]? = some o → ∀ e ∈ o.after.toList, Region.binds .any e = true → listed.getD e.on false = true

theorem before_listed {ops : Array Oper} {listed : Array Bool} (hcl : Cl ops listed) (hsz : listed.size = ops.size) : ∀ (i : Nat) (o : Oper), ops[i]? = some o → (∀ e ∈ o.after.toList, Region.binds .any e = true → listed.getD e.on false = true) →
    ∀ j, ((Region.before ops).getD i 0).testBit j = true → listed.getD j false = true := by
  intro i
  induction i using Nat.strongRecOn with
  | _ i ih =>
    intro o ho hpre j hj
    obtain ⟨e, he, hb, h3⟩ := before_step ho hj
    have hl := hpre e he hb
    rcases h3 with h3 | ⟨hlt, h3⟩
    · rw [← h3]; exact hl
    · have hlt' : e.on < ops.size := by have := (Array.getElem?_eq_some_iff.1 ho).1; omega
      exact ih e.on hlt ops[e.on] (by simp [hlt']) (hcl e.on _ hl (by simp [hlt'])) j h3

end Go.Ab
