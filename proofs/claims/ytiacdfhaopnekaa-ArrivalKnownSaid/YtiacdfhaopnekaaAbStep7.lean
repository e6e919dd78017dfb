/- The abstract layer, part 13: every operation but calls. -/
import Derived.Test.YtiacdfhaopnekaaAbStep6
namespace Go.Ab
set_option linter.unusedVariables false
set_option linter.unusedSimpArgs false

section
variable {P : Program} {D : Nat → Prop} {φ : Phi} {w : World} {n : Nat} {e : Env} {h : Hp} {E : Eff} {ρ : Operand → Value}

theorem orBad_some {x : Option IOp} {r : Bool × Eff} (hs : step (orBad x) e h n = some r) : ∃ y, x = some y ∧ step y e h n = some r := by
  cases x with
  | none => simp [orBad, step] at hs
  | some y => exact ⟨y, rfl, by simpa [orBad] using hs⟩

theorem bad_none {r : Bool × Eff} (hs : step .bad e h n = some r) : False := by simp [step] at hs

/-- What is known of an operation's operands. -/
def OKs (D : Nat → Prop) (φ : Phi) (e : Env) (h : Hp) (ρ : Operand → Value) (o : Op) : Prop := ∀ y ∈ o.operands.toList, ∀ x, cO y = some x → OK1 D φ e h x (ρ y)

theorem cOo_rel {y : Option Operand} {x : Option Opd} (hc : cOo y = some x) (hk : ∀ q, y = some q → ∀ x, cO q = some x → OK1 D φ e h x (ρ q)) : OKo D φ e h x (y.map ρ) := by
  cases y with
  | none => simp [cOo] at hc; subst hc; trivial
  | some q =>
    simp only [cOo] at hc
    obtain ⟨x', hx, rfl⟩ := Option.map_eq_some_iff.1 hc
    exact hk q rfl x' hx

set_option maxHeartbeats 4000000 in
theorem step_sound {o : Oper} {c : Bool} (hs : step (compOp P o.op) e h n = some (c, E)) (hc : c = true) (hn : n < E.n → ¬ D n) (hk : OKs D φ e h ρ o.op)
    (hH : HR D φ (only (hget h) E.rd) w) : Sim P D φ (only (hget h) E.rd) w n E ((execOp ρ o).run P w) := by
  cases hop : o.op <;> rw [hop] at hs hk <;> simp only [compOp] at hs <;> simp only [OKs, Op.operands] at hk
  case move x =>
    obtain ⟨y, hy, hs⟩ := orBad_some hs
    obtain ⟨x', hx, rfl⟩ := Option.map_eq_some_iff.1 hy
    simp only [execOp, hop]
    exact snd_mv hs (hk x (by simp) x' hx) hH
  case assign x =>
    obtain ⟨y, hy, hs⟩ := orBad_some hs
    obtain ⟨x', hx, rfl⟩ := Option.map_eq_some_iff.1 hy
    simp only [execOp, hop]
    exact snd_mv hs (hk x (by simp) x' hx) hH
  case pick a b d =>
    obtain ⟨y, hy, hs⟩ := orBad_some hs
    simp only [Option.bind_eq_some_iff, Option.map_eq_some_iff] at hy
    obtain ⟨a', ha, b', hb, d', hd, rfl⟩ := hy
    simp only [execOp, hop]
    exact snd_pick hs (hk a (by simp) a' ha) (hk b (by simp) b' hb) (hk d (by simp) d' hd) hH
  case alloc t =>
    obtain ⟨y, hy, hs⟩ := orBad_some hs
    obtain ⟨z, hz, rfl⟩ := Option.map_eq_some_iff.1 hy
    simp only [execOp, hop]
    exact snd_new hs hz hn hH
  case box t x =>
    obtain ⟨y, hy, hs⟩ := orBad_some hs
    obtain ⟨x', hx, rfl⟩ := Option.map_eq_some_iff.1 hy
    simp only [execOp, hop]
    exact snd_box hs (hk x (by simp) x' hx) hn hH
  case build t ps =>
    have hk' : ∀ q ∈ ps.toList, ∀ x, cO q.2 = some x → OK1 D φ e h x (ρ q.2) := fun q hq x hx => hk q.2 (by simp; exact ⟨q.1, by simpa using hq⟩) x hx
    split at hs
    · rename_i fs hu
      obtain ⟨y, hy, hs⟩ := orBad_some hs
      simp only [Option.bind_eq_some_iff] at hy
      obtain ⟨z, hz, hy⟩ := hy
      split at hy
      · rename_i hall
        obtain ⟨l, hl, rfl⟩ := Option.map_eq_some_iff.1 hy
        simp only [execOp, hop]
        exact snd_buildS hs hu hz hall hl hk' hH
      · cases hy
    · rename_i m el hu
      obtain ⟨y, hy, hs⟩ := orBad_some hs
      simp only [Option.bind_eq_some_iff, Option.map_eq_some_iff] at hy
      obtain ⟨z, hz, s, hsz, l, hl, rfl⟩ := hy
      simp only [execOp, hop]
      exact snd_buildA hs hu hz hsz hl hk' hH
    · exact (bad_none hs).elim
  case buildSlice t len ps =>
    have hk' : ∀ q ∈ ps.toList, ∀ x, cO q.2 = some x → OK1 D φ e h x (ρ q.2) := fun q hq x hx => hk q.2 (by simp; exact ⟨q.1, by simpa using hq⟩) x hx
    split at hs
    · rename_i el hu
      obtain ⟨y, hy, hs⟩ := orBad_some hs
      simp only [Option.bind_eq_some_iff] at hy
      obtain ⟨z, hz, s, hsz, hy⟩ := hy
      split at hy
      · rename_i hcond
        obtain ⟨l, hl, rfl⟩ := Option.map_eq_some_iff.1 hy
        simp only [execOp, hop]
        exact snd_bsl hs hu hz hsz hcond.1 hcond.2 hl hk' hn hH
      · cases hy
    · exact (bad_none hs).elim
  case load t a =>
    obtain ⟨y, hy, hs⟩ := orBad_some hs
    simp only [Option.bind_eq_some_iff, Option.map_eq_some_iff] at hy
    obtain ⟨g, hg, z, hz, a', ha, rfl⟩ := hy
    simp only [execOp, hop]
    exact snd_ld hs hc hg hz (hk a (by simp) a' ha) hH
  case store t a x =>
    obtain ⟨y, hy, hs⟩ := orBad_some hs
    simp only [Option.bind_eq_some_iff, Option.map_eq_some_iff] at hy
    obtain ⟨z, hz, a', ha, x', hx, rfl⟩ := hy
    simp only [execOp, hop]
    exact snd_st hs hc hz (hk a (by simp) a' ha) (hk x (by simp) x' hx) hH
  case nilCheck x =>
    obtain ⟨y, hy, hs⟩ := orBad_some hs
    obtain ⟨x', hx, rfl⟩ := Option.map_eq_some_iff.1 hy
    exact snd_nck hs (hk x (by simp) x' hx) hH hop rfl
  case binOp op t x y _ =>
    split at hs
    · obtain ⟨q, hq, hs⟩ := orBad_some hs
      simp only [Option.bind_eq_some_iff, Option.map_eq_some_iff] at hq
      obtain ⟨x', hx, y', hy, rfl⟩ := hq
      simp only [execOp, hop]
      exact snd_bin hs hc (hk x (by simp) x' hx) (hk y (by simp) y' hy) hH
    · obtain ⟨q, hq, hs⟩ := orBad_some hs
      simp only [Option.bind_eq_some_iff, Option.map_eq_some_iff] at hq
      obtain ⟨x', hx, y', hy, rfl⟩ := hq
      simp only [execOp, hop]
      exact snd_bin hs hc (hk x (by simp) x' hx) (hk y (by simp) y' hy) hH
    · rename_i hni hns
      split at hs
      · rename_i k hnil
        split at hs
        · obtain ⟨q, hq, hs⟩ := orBad_some hs
          simp only [Option.bind_eq_some_iff, Option.map_eq_some_iff] at hq
          obtain ⟨x', hx, y', hy, rfl⟩ := hq
          simp only [execOp, hop]
          exact snd_eqn (neg := false) hs hnil (hk x (by simp) x' hx) (hk y (by simp) y' hy) hH
        · obtain ⟨q, hq, hs⟩ := orBad_some hs
          simp only [Option.bind_eq_some_iff, Option.map_eq_some_iff] at hq
          obtain ⟨x', hx, y', hy, rfl⟩ := hq
          simp only [execOp, hop]
          exact snd_eqn (neg := true) hs hnil (hk x (by simp) x' hx) (hk y (by simp) y' hy) hH
        · exact (bad_none hs).elim
      · split at hs
        · rename_i hgd
          split at hs
          · obtain ⟨q, hq, hs⟩ := orBad_some hs
            simp only [Option.bind_eq_some_iff, Option.map_eq_some_iff] at hq
            obtain ⟨ks, hks, g, hg, x', hx, y', hy, rfl⟩ := hq
            simp only [execOp, hop]
            exact snd_eqk (neg := false) hs hks hg hgd ⟨fun k hk => hni k hk, hns⟩ (hk x (by simp) x' hx) (hk y (by simp) y' hy) hH
          · obtain ⟨q, hq, hs⟩ := orBad_some hs
            simp only [Option.bind_eq_some_iff, Option.map_eq_some_iff] at hq
            obtain ⟨ks, hks, g, hg, x', hx, y', hy, rfl⟩ := hq
            simp only [execOp, hop]
            exact snd_eqk (neg := true) hs hks hg hgd ⟨fun k hk => hni k hk, hns⟩ (hk x (by simp) x' hx) (hk y (by simp) y' hy) hH
          · exact (bad_none hs).elim
        · exact (bad_none hs).elim
  case unOp op t x =>
    split at hs
    · obtain ⟨y, hy, hs⟩ := orBad_some hs
      obtain ⟨x', hx, rfl⟩ := Option.map_eq_some_iff.1 hy
      simp only [execOp, hop]
      exact snd_not hs (hk x (by simp) x' hx) hH
    · obtain ⟨y, hy, hs⟩ := orBad_some hs
      obtain ⟨x', hx, rfl⟩ := Option.map_eq_some_iff.1 hy
      simp only [execOp, hop]
      exact snd_neg hs (hk x (by simp) x' hx) hH
    · exact (bad_none hs).elim
  case convert s d x =>
    split at hs
    · rename_i j k h1 h2
      obtain ⟨y, hy, hs⟩ := orBad_some hs
      obtain ⟨x', hx, rfl⟩ := Option.map_eq_some_iff.1 hy
      simp only [execOp, hop]
      exact snd_i2i hs ⟨_, h1⟩ h2 (hk x (by simp) x' hx) hH
    · rename_i h1 h2
      obtain ⟨y, hy, hs⟩ := orBad_some hs
      obtain ⟨x', hx, rfl⟩ := Option.map_eq_some_iff.1 hy
      simp only [execOp, hop]
      exact snd_idc hs h1 h2 (hk x (by simp) x' hx) hH
    · rename_i h1 h2
      split at hs
      · rename_i h3
        obtain ⟨y, hy, hs⟩ := orBad_some hs
        obtain ⟨x', hx, rfl⟩ := Option.map_eq_some_iff.1 hy
        simp only [execOp, hop]
        exact snd_s2b hs h1 h2 h3 hn (hk x (by simp) x' hx) hH
      · exact (bad_none hs).elim
    · rename_i h1 h2
      split at hs
      · rename_i h3
        obtain ⟨y, hy, hs⟩ := orBad_some hs
        obtain ⟨x', hx, rfl⟩ := Option.map_eq_some_iff.1 hy
        simp only [execOp, hop]
        exact snd_b2s hs hc h1 h2 h3 (hk x (by simp) x' hx) hH
      · exact (bad_none hs).elim
    · exact (bad_none hs).elim
  case makeFunc fn first caps =>
    cases fn with
    | func f =>
      simp only at hs
      split at hs
      · rename_i hf0
        obtain ⟨y, hy, hs⟩ := orBad_some hs
        obtain ⟨l, hl, rfl⟩ := Option.map_eq_some_iff.1 hy
        have hfe : first = #[] := Array.eq_empty_of_size_eq_zero hf0
        subst hfe
        have := snd_mkf (P := P) (w := w) (ρ := ρ) hs hl (fun y hy x hx => hk y (by simpa using hy) x hx) hH
        simp only [execOp, hop]
        have hmap : (caps.toList.map ρ).toArray = caps.map ρ := by apply Array.ext'; simp
        rw [hmap] at this
        simpa using this
      · exact (bad_none hs).elim
    | _ => exact (bad_none hs).elim
  case slice t x lo hi mx =>
    have hlo : ∀ q, lo = some q → ∀ x, cO q = some x → OK1 D φ e h x (ρ q) := fun q hq x hx => hk q (by simp [hq]) x hx
    have hhi : ∀ q, hi = some q → ∀ x, cO q = some x → OK1 D φ e h x (ρ q) := fun q hq x hx => hk q (by simp [hq]) x hx
    have hm : ∀ q, mx = some q → ∀ x, cO q = some x → OK1 D φ e h x (ρ q) := fun q hq x hx => hk q (by simp [hq]) x hx
    split at hs
    · exact (bad_none hs).elim
    rename_i hmm0
    have hmh : mx = none ∨ hi.isSome = true := by cases mx <;> cases hi <;> simp_all
    have hmh' : ∀ hi' mx', cOo hi = some hi' → cOo mx = some mx' → mx' = none ∨ hi'.isSome = true := fun hi' mx' h1 h2 => by
      rcases hmh with rfl | hh
      · simp [cOo] at h2; exact .inl h2.symm
      · cases hi with
        | none => simp at hh
        | some q => simp only [cOo] at h1; obtain ⟨y, _, rfl⟩ := Option.map_eq_some_iff.1 h1; exact .inr rfl
    split at hs
    · rename_i hu
      split at hs
      · obtain ⟨y, hy, hs⟩ := orBad_some hs
        simp only [Option.bind_eq_some_iff, Option.map_eq_some_iff] at hy
        obtain ⟨x', hx, lo', hl, hi', hh, rfl⟩ := hy
        simp only [execOp, hop]
        exact snd_slS hs hc hu (hk x (by simp) x' hx) (cOo_rel hl hlo) (cOo_rel hh hhi) hH
      · exact (bad_none hs).elim
    · rename_i el hu
      obtain ⟨y, hy, hs⟩ := orBad_some hs
      simp only [Option.bind_eq_some_iff, Option.map_eq_some_iff] at hy
      obtain ⟨z, hz, x', hx, lo', hl, hi', hh, mx', hmm, rfl⟩ := hy
      simp only [execOp, hop]
      exact snd_slV hs hc hu hz (hk x (by simp) x' hx) (cOo_rel hl hlo) (cOo_rel hh hhi) (cOo_rel hmm hm) (hmh' _ _ hh hmm) hH
    · rename_i m el hu
      obtain ⟨y, hy, hs⟩ := orBad_some hs
      simp only [Option.bind_eq_some_iff, Option.map_eq_some_iff] at hy
      obtain ⟨z, hz, x', hx, lo', hl, hi', hh, mx', hmm, rfl⟩ := hy
      simp only [execOp, hop]
      exact snd_slA hs hc hu hz (hk x (by simp) x' hx) (cOo_rel hl hlo) (cOo_rel hh hhi) (cOo_rel hmm hm) (hmh' _ _ hh hmm) hH
    · exact (bad_none hs).elim
  case fieldAddr t x f =>
    obtain ⟨y, hy, hs⟩ := orBad_some hs
    simp only [Option.bind_eq_some_iff] at hy
    obtain ⟨q, hq, hy⟩ := hy
    split at hy
    · cases hy
    · rename_i hq0
      obtain ⟨x', hx, rfl⟩ := Option.map_eq_some_iff.1 hy
      simp only [execOp, hop]
      exact snd_fa hs hq hq0 (hk x (by simp) x' hx) hH
  case field t x f =>
    obtain ⟨y, hy, hs⟩ := orBad_some hs
    simp only [Option.bind_eq_some_iff, Option.map_eq_some_iff] at hy
    obtain ⟨q, hq, g, hg, x', hx, rfl⟩ := hy
    simp only [execOp, hop]
    exact snd_fld hs hc hq hg (hk x (by simp) x' hx) hH
  case indexAddr t x i =>
    split at hs
    · rename_i m el hu
      obtain ⟨y, hy, hs⟩ := orBad_some hs
      simp only [Option.bind_eq_some_iff, Option.map_eq_some_iff] at hy
      obtain ⟨z, hz, x', hx, i', hi, rfl⟩ := hy
      simp only [execOp, hop]
      exact snd_ixaA hs hc hu hz (hk x (by simp) x' hx) (hk i (by simp) i' hi) hH
    · rename_i el hu
      obtain ⟨y, hy, hs⟩ := orBad_some hs
      simp only [Option.bind_eq_some_iff, Option.map_eq_some_iff] at hy
      obtain ⟨z, hz, x', hx, i', hi, rfl⟩ := hy
      simp only [execOp, hop]
      exact snd_ixaV hs hc hu hz (hk x (by simp) x' hx) (hk i (by simp) i' hi) hH
    · exact (bad_none hs).elim
  case index t x i =>
    split at hs
    · rename_i m el hu
      obtain ⟨y, hy, hs⟩ := orBad_some hs
      simp only [Option.bind_eq_some_iff, Option.map_eq_some_iff] at hy
      obtain ⟨z, hz, g, hg, x', hx, i', hi, rfl⟩ := hy
      simp only [execOp, hop]
      exact snd_ixA hs hc hu hz hg (hk x (by simp) x' hx) (hk i (by simp) i' hi) hH
    · rename_i hu
      obtain ⟨y, hy, hs⟩ := orBad_some hs
      simp only [Option.bind_eq_some_iff, Option.map_eq_some_iff] at hy
      obtain ⟨x', hx, i', hi, rfl⟩ := hy
      simp only [execOp, hop]
      exact snd_ixS hs hc hu (hk x (by simp) x' hx) (hk i (by simp) i' hi) hH
    · exact (bad_none hs).elim
  case extract x i =>
    obtain ⟨y, hy, hs⟩ := orBad_some hs
    obtain ⟨x', hx, rfl⟩ := Option.map_eq_some_iff.1 hy
    simp only [execOp, hop]
    exact snd_ext hs (hk x (by simp) x' hx) hH
  case makeSlice t l cc =>
    split at hs
    · rename_i el hu
      obtain ⟨y, hy, hs⟩ := orBad_some hs
      simp only [Option.bind_eq_some_iff] at hy
      obtain ⟨i, hi, z, hz, hy⟩ := hy
      split at hy
      · rename_i hzl
        simp only [Option.bind_eq_some_iff, Option.map_eq_some_iff] at hy
        obtain ⟨l', hl, c', hcc, rfl⟩ := hy
        simp only [execOp, hop]
        exact snd_mks (z := 0) (bytes := 0) hs hc hu hi hz hzl (hk l (by simp) l' hl) (hk cc (by simp) c' hcc) hn hH
      · cases hy
    · exact (bad_none hs).elim
  case call cl =>
    split at hs
    · rename_i f hcal
      obtain ⟨y, hy, hs⟩ := orBad_some hs
      simp only [Option.bind_eq_some_iff, Option.map_eq_some_iff] at hy
      obtain ⟨f', _, l, _, rfl⟩ := hy
      simp [step] at hs
    · rename_i b hcal
      obtain ⟨callee, args, argTypes⟩ := cl
      simp only at hcal
      subst hcal
      obtain ⟨argl⟩ := args
      obtain ⟨tyl⟩ := argTypes
      simp only [Call.operands] at hk
      simp only at hs
      have hkl : ∀ y ∈ argl, ∀ x, cO y = some x → OK1 D φ e h x (ρ y) := fun y hy => hk y (by simpa using hy)
      have hbt : ∀ (s : Sem Value), (execOp ρ o).run P w = (do let d ← resolve ρ { callee := .builtin b, args := ⟨argl⟩, argTypes := ⟨tyl⟩ } o.type; invoke d.target d.args : Sem Next).run P w := fun s => by simp only [execOp, hop]
      rw [hbt (pure undef)]
      simp only [resolve, Sem.run_bind, Sem.run_pure, Result.andThen_ok, invoke]
      split at hs
      · rename_i x t
        simp only [builtin]
        have harg : (Array.map ρ ⟨[x]⟩) = #[ρ x] := by simp
        have htl : (⟨[t]⟩ : Array TypeId) = #[t] := rfl
        rw [harg, htl]
        split at hs
        · rename_i hu
          obtain ⟨y, hy, hs⟩ := orBad_some hs
          obtain ⟨x', hx, rfl⟩ := Option.map_eq_some_iff.1 hy
          exact snd_lenS hs hu (hkl x (by simp) x' hx) hH
        · rename_i el hu
          obtain ⟨y, hy, hs⟩ := orBad_some hs
          obtain ⟨x', hx, rfl⟩ := Option.map_eq_some_iff.1 hy
          exact snd_lenV hs hu (hkl x (by simp) x' hx) hH
        · rename_i m el hu
          exact snd_lenC hs (.inl ⟨_, hu⟩) hH
        · rename_i a hu
          split at hs
          · rename_i m el ha
            exact snd_lenC hs (.inr ⟨_, _, hu, ha⟩) hH
          · exact (bad_none hs).elim
        · exact (bad_none hs).elim
      · rename_i x t
        simp only [builtin]
        have harg : (Array.map ρ ⟨[x]⟩) = #[ρ x] := by simp
        have htl : (⟨[t]⟩ : Array TypeId) = #[t] := rfl
        rw [harg, htl]
        split at hs
        · rename_i el hu
          obtain ⟨y, hy, hs⟩ := orBad_some hs
          obtain ⟨x', hx, rfl⟩ := Option.map_eq_some_iff.1 hy
          exact snd_capV hs hu (hkl x (by simp) x' hx) hH
        · exact (bad_none hs).elim
      · rename_i x xs
        obtain ⟨y, hy, hs⟩ := orBad_some hs
        simp only [Option.bind_eq_some_iff, Option.map_eq_some_iff] at hy
        obtain ⟨x', hx, l, hl, rfl⟩ := hy
        simp only [builtin]
        have harg : (Array.map ρ ⟨x :: xs⟩) = (ρ x :: xs.map ρ).toArray := by simp
        rw [harg]
        exact snd_mn hs hl (hkl x (by simp) x' hx) (fun y hy => hkl y (by simp [hy])) hH
      · rename_i x xs
        obtain ⟨y, hy, hs⟩ := orBad_some hs
        simp only [Option.bind_eq_some_iff, Option.map_eq_some_iff] at hy
        obtain ⟨x', hx, l, hl, rfl⟩ := hy
        simp only [builtin]
        have harg : (Array.map ρ ⟨x :: xs⟩) = (ρ x :: xs.map ρ).toArray := by simp
        rw [harg]
        exact snd_mx hs hl (hkl x (by simp) x' hx) (fun y hy => hkl y (by simp [hy])) hH
      · rename_i s x t u
        simp only [builtin]
        have harg : (Array.map ρ ⟨[s, x]⟩) = #[ρ s, ρ x] := by simp
        have htl : (⟨[t, u]⟩ : Array TypeId) = #[t, u] := rfl
        rw [harg, htl]
        split at hs
        · exact (bad_none hs).elim
        · rename_i el d hu hu2 hnint
          obtain ⟨y, hy, hs⟩ := orBad_some hs
          simp only [Option.bind_eq_some_iff] at hy
          obtain ⟨i, hi, z, hz, hy⟩ := hy
          split at hy
          · rename_i hzl
            simp only [Option.bind_eq_some_iff, Option.map_eq_some_iff] at hy
            obtain ⟨s', hs', x', hx, rfl⟩ := hy
            exact snd_app hs hc hu2 hnint (fun k hk => by subst hk; simp_all) hi hz hzl.1 hzl.2 (hkl s (by simp) s' hs') (hkl x (by simp) x' hx) hn hH
          · cases hy
        · exact (bad_none hs).elim
      · rename_i dd s t tl
        simp only [builtin]
        have harg : (Array.map ρ ⟨[dd, s]⟩) = #[ρ dd, ρ s] := by simp
        rw [harg]
        split at hs
        · rename_i el hu
          obtain ⟨y, hy, hs⟩ := orBad_some hs
          simp only [Option.bind_eq_some_iff, Option.map_eq_some_iff] at hy
          obtain ⟨z, hz, d', hd, s', hs', rfl⟩ := hy
          exact snd_cpy hs hc (by simp) hu hz (hkl dd (by simp) d' hd) (hkl s (by simp) s' hs') hH
        · exact (bad_none hs).elim
      · rename_i x t
        simp only [builtin]
        have harg : (Array.map ρ ⟨[x]⟩) = #[ρ x] := by simp
        have htl : (⟨[t]⟩ : Array TypeId) = #[t] := rfl
        rw [harg, htl]
        split at hs
        · rename_i el hu
          obtain ⟨y, hy, hs⟩ := orBad_some hs
          simp only [Option.bind_eq_some_iff, Option.map_eq_some_iff] at hy
          obtain ⟨zs, hzs, z, hz, x', hx, rfl⟩ := hy
          exact snd_clr hs hc hu hz hzs (hkl x (by simp) x' hx) hH
        · exact (bad_none hs).elim
      · exact (bad_none hs).elim
    · exact (bad_none hs).elim
  all_goals exact (bad_none hs).elim

end
end Go.Ab
