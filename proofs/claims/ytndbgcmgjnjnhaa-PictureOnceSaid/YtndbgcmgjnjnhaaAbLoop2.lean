/- The abstract layer, part 32: loops that count, with what holds at each head. -/
import Derived.Test.YtndbgcmgjnjnhaaAbSlice
namespace Go.Ab
set_option linter.unusedVariables false

theorem hget_hs {h : Hp} {b c : Nat} {x : Blk} (hb : (hget h b).isSome = true) : hget (hset h b x) c = if b = c then some x else hget h c := by
  induction h with
  | nil => simp [hget] at hb
  | cons y h ih =>
    obtain ⟨d, k⟩ := y
    rw [hset_cons]
    by_cases hd : d = b
    · subst hd
      simp only [if_true, hget_cons]
      by_cases hc : d = c <;> simp [hc]
    · rw [if_neg hd]
      rw [hget_cons, if_neg hd] at hb
      rw [hget_cons, hget_cons, ih hb]
      by_cases hc : d = c
      · subst hc
        have hd' : ¬ b = d := fun e => hd e.symm
        simp [hd']
      · simp [hc]

/-- A loop of at most m rounds; at the head of round k the state has all that E k and H k say, and ok k holds. -/
theorem Loop.countI {F : Fx} (hcx : Sound F.P F.cx) (hm : F.P.follows .mixedOrders = true) {c : ICode} {K : Kont} (m : Nat) (ok : Nat → Prop) (E : Nat → Env) (H : Nat → Hp) (n2 : Nat) {e : Env} {h : Hp} {n : Nat} (hn : F.n0 ≤ n2)
    (h0 : ok 0) (he : EnvIn n2 e (E 0)) (hh : HpIn n2 h (H 0))
    (round : ∀ k, k ≤ m → ok k → jw F c (thenK K fun e' h' n' => (k < m ∧ ok (k + 1)) ∧ EnvIn n2 e' (E (k + 1)) ∧ HpIn n2 h' (H (k + 1))) (E k) (H k) n2) : Loop F.P F.ct F.N F.n0 c K e h n := by
  refine Loop.by (F := F) hcx hm (X := Nat) (fun k => k ≤ m ∧ ok k) (fun k => m - k) E H n2 0 hn ⟨Nat.zero_le _, h0⟩ he hh (fun k hk => ?_)
  have h1 := round k hk.1 hk.2
  have key : ∀ {c : ICode} {K K' : Kont} {e : Env} {h : Hp} {n : Nat}, (∀ ex e h n, K ex e h n → K' ex e h n) → jw F c K e h n → jw F c K' e h n := by
    intro c
    induction c with
    | skip => intro K K' e h n hk hi; exact hk _ _ _ _ hi
    | reg ops =>
      intro K K' e h n hk hi
      have mono : ∀ {l : List IOper} {e : Env} {h : Hp} {n : Nat} {K K' : Env → Hp → Nat → Prop}, (∀ e h n, K e h n → K' e h n) → rOps F.cx l e h n K → rOps F.cx l e h n K' := by
        intro l
        induction l with
        | nil => intro e h n K K' hk hr; exact hk _ _ _ hr
        | cons o os ih =>
          intro e h n K K' hk hr
          have g4 : ∀ {d : Option Nat} {op : IOp} {s : Bool} {e : Env} {h : Hp} {n : Nat}, (gd4 (stepD F.cx op e h n) fun c v h n => andB c (fin1 s v fun v => rOps F.cx os (eput d v e) h n K)) → gd4 (stepD F.cx op e h n) fun c v h n => andB c (fin1 s v fun v => rOps F.cx os (eput d v e) h n K') := by
            intro d op s e h n hg
            cases hx : stepD F.cx op e h n with
            | none => rw [hx] at hg; exact hg.elim
            | some r => rw [hx] at hg; exact ⟨hg.1, fin1_mono (fun v hv => ih hk hv) hg.2⟩
          obtain ⟨d, op, g, s⟩ := o
          cases g with
          | none => simp only [rOps] at hr ⊢; exact g4 hr
          | some g =>
            obtain ⟨t, b⟩ := g
            simp only [rOps] at hr ⊢
            refine gd_mono (fun v hv => ?_) hr
            unfold wantB at hv ⊢
            split at hv <;> first
              | exact g4 hv
              | exact ih hk hv
              | exact hv.elim
      exact mono (fun _ _ _ => hk _ _ _ _) hi
    | dreg ops =>
      intro K K' e h n hk hi
      have mono : ∀ {l : List (IOper × List Nat)} {i : Nat} {dn : List (Nat × Eff)} {e : Env} {h : Hp} {n : Nat} {K K' : Env → Hp → Nat → Prop}, (∀ e h n, K e h n → K' e h n) → rD F.cx l i dn e h n K → rD F.cx l i dn e h n K' := by
        intro l
        induction l with
        | nil => intro i dn e h n K K' hk hr; exact hk _ _ _ hr
        | cons o os ih =>
          intro i dn e h n K K' hk hr
          have g5 : ∀ {un : List Nat} {d : Option Nat} {op : IOp} {s : Bool} {e : Env} {h : Hp} {n : Nat}, (gd5 (stepE F.cx un i dn op e h n) fun c v h n dn => andB c (fin1 s v fun v => rD F.cx os (i + 1) dn (eput d v e) h n K)) → gd5 (stepE F.cx un i dn op e h n) fun c v h n dn => andB c (fin1 s v fun v => rD F.cx os (i + 1) dn (eput d v e) h n K') := by
            intro un d op s e h n hg
            cases hx : stepE F.cx un i dn op e h n with
            | none => rw [hx] at hg; exact hg.elim
            | some r => rw [hx] at hg; exact ⟨hg.1, fin1_mono (fun v hv => ih hk hv) hg.2⟩
          obtain ⟨⟨d, op, g, s⟩, un⟩ := o
          cases g with
          | none => simp only [rD] at hr ⊢; exact g5 hr
          | some g =>
            obtain ⟨t, b⟩ := g
            simp only [rD] at hr ⊢
            refine gd_mono (fun v hv => ?_) hr
            unfold wantB at hv ⊢
            split at hv <;> first
              | exact g5 hv
              | exact ih hk hv
              | exact hv.elim
      exact mono (fun _ _ _ => hk _ _ _ _) hi
    | seq a b iha ihb =>
      intro K K' e h n hk hi
      exact iha (fun ex e h n hx => by cases ex <;> first | exact ihb hk hx | exact hk _ _ _ _ hx) hi
    | cond c a b iha ihb =>
      intro K K' e h n hk hi
      refine gd_mono (fun v hv => ?_) hi
      unfold condB at hv ⊢
      split at hv
      · exact iha hk hv
      · exact ihb hk hv
      · exact hv.elim
    | block id c ih =>
      intro K K' e h n hk hi
      exact ih (fun ex e h n hx => by
        cases ex with
        | exit i => simp only [blockK] at hx ⊢; split <;> rename_i hid <;> simp only [hid, if_true, if_false] at hx <;> exact hk _ _ _ _ hx
        | _ => exact hk _ _ _ _ hx) hi
    | loop c ih => intro K K' e h n hk hi; exact Loop.mono hk hi
    | exit id => intro K K' e h n hk hi; exact hk _ _ _ _ hi
    | ret => intro K K' e h n hk hi; exact hk _ _ _ _ hi
    | bad => intro K K' e h n hk hi; exact hi.elim
  refine key (fun ex e' h' n' hx => ?_) h1
  cases ex with
  | normal =>
    obtain ⟨⟨h1, h2⟩, h3, h4⟩ := hx
    exact ⟨k + 1, ⟨⟨h1, h2⟩, by omega⟩, h3, h4⟩
  | _ => exact hx
end Go.Ab
