/- The abstract layer, part 24: running closed code by computation is sound. -/
import Derived.Test.YtiacdfhaopnekaaAbExec
namespace Go.Ab
set_option linter.unusedVariables false
set_option linter.unusedSimpArgs false

section
variable {P : Program} {N n0 : Nat}

theorem WP.seq {a b : Code} {K : Kont} {e : Env} {h : Hp} {n : Nat} (hw : WP P N n0 a (thenK K fun e h n => WP P N n0 b K e h n) e h n) : WP P N n0 (.seq a b) K e h n := by
  intro D0 φ0 H0 w0 h1 h2 D φ a w hR hS
  refine wp_seq (wp_mono (hw D0 φ0 H0 w0 h1 h2 D φ a w hR hS) (fun ex a' w' hp => ?_))
  obtain ⟨D', φ', e', h', n', hk, hn', hR', hS'⟩ := hp
  cases ex with
  | normal => exact hk D0 φ0 H0 w0 h1 hn' D' φ' a' w' hR' hS'
  | exit id => exact ⟨D', φ', e', h', n', hk, hn', hR', hS'⟩
  | goto l => exact ⟨D', φ', e', h', n', hk, hn', hR', hS'⟩
  | ret => exact ⟨D', φ', e', h', n', hk, hn', hR', hS'⟩
  | panic ch => exact ⟨D', φ', e', h', n', hk, hn', hR', hS'⟩
  | outgrown => exact ⟨D', φ', e', h', n', hk, hn', hR', hS'⟩

theorem WP.scope {c : Code} {K : Kont} {e : Env} {h : Hp} {n : Nat} (hw : WP P N n0 c (scopeK K) e h n) : WP P N n0 (.scope c) K e h n := by
  intro D0 φ0 H0 w0 h1 h2 D φ a w hR hS
  refine wp_scope_straight (wp_mono (hw D0 φ0 H0 w0 h1 h2 D φ a w hR hS) (fun ex a' w' hp => ?_))
  obtain ⟨D', φ', e', h', n', hk, hn', hR', hS'⟩ := hp
  cases ex with
  | goto l => exact hk.elim
  | _ => exact ⟨D', φ', e', h', n', hk, hn', hR', hS'⟩
theorem WP.block {c : Code} {id : Nat} {K : Kont} {e : Env} {h : Hp} {n : Nat} (hw : WP P N n0 c (blockK id K) e h n) : WP P N n0 (.block id c) K e h n := by
  intro D0 φ0 H0 w0 h1 h2 D φ a w hR hS
  refine wp_block (wp_mono (hw D0 φ0 H0 w0 h1 h2 D φ a w hR hS) (fun ex a' w' hp => ?_))
  obtain ⟨D', φ', e', h', n', hk, hn', hR', hS'⟩ := hp
  cases ex with
  | exit i =>
    simp only [blockK] at hk
    simp only [Exit.inBlock]
    split
    · rename_i hid; rw [if_pos hid] at hk; exact ⟨D', φ', e', h', n', hk, hn', hR', hS'⟩
    · rename_i hid; rw [if_neg hid] at hk; exact ⟨D', φ', e', h', n', hk, hn', hR', hS'⟩
  | normal => exact ⟨D', φ', e', h', n', hk, hn', hR', hS'⟩
  | goto l => exact ⟨D', φ', e', h', n', hk, hn', hR', hS'⟩
  | ret => exact ⟨D', φ', e', h', n', hk, hn', hR', hS'⟩
  | panic ch => exact ⟨D', φ', e', h', n', hk, hn', hR', hS'⟩
  | outgrown => exact ⟨D', φ', e', h', n', hk, hn', hR', hS'⟩

theorem WP.cond {c : Operand} {x : Opd} {a b : Code} {K : Kont} {e : Env} {h : Hp} {n : Nat} {v : Bool} (hc : cO c = some x) (hg : ∀ g, x ≠ .g g) (hv : x.ev e h = some (.b v))
    (hw : match v with | true => WP P N n0 a K e h n | false => WP P N n0 b K e h n) : WP P N n0 (.cond c a b) K e h n := by
  intro D0 φ0 H0 w0 h1 h2 D φ a w hR hS
  have hvr : VRel D φ (.b v) (a.eval c) := opd_rel (fun t v _ hv => hR.env t v hv) hc (fun g hgg => by subst hgg; simp only [cO, Option.some.injEq] at hc; exact hg g hc.symm) hv
  generalize hu : a.eval c = u at hvr
  cases hvr
  cases v
  · exact wp_cond_false hu (hw D0 φ0 H0 w0 h1 h2 D φ a w hR hS)
  · exact wp_cond_true hu (hw D0 φ0 H0 w0 h1 h2 D φ a w hR hS)
end

section
variable {P : Program} {ct : List Nat} {N : Nat}

theorem inv_seq {c : Code} {a b : ICode} (h : compC P ct N c = .seq a b) : ∃ a' b', c = .seq a' b' ∧ compC P ct N a' = a ∧ compC P ct N b' = b := by
  cases c with
  | seq a' b' => simp only [compC, ICode.seq.injEq] at h; exact ⟨a', b', rfl, h.1, h.2⟩
  | region id ops draw => simp only [compC] at h; split at h <;> (try split at h) <;> cases h
  | cond x y z => simp only [compC] at h; split at h <;> cases h
  | _ => simp [compC] at h

theorem inv_block {c : Code} {id : Nat} {a : ICode} (h : compC P ct N c = .block id a) : ∃ a', c = .block id a' ∧ compC P ct N a' = a := by
  cases c with
  | block i a' => simp only [compC, ICode.block.injEq] at h; obtain ⟨rfl, h⟩ := h; exact ⟨a', rfl, h⟩
  | region id ops draw => simp only [compC] at h; split at h <;> (try split at h) <;> cases h
  | cond x y z => simp only [compC] at h; split at h <;> cases h
  | _ => simp [compC] at h

theorem inv_loop {c : Code} {a : ICode} (h : compC P ct N c = .loop a) : ∃ a', c = .loop a' ∧ compC P ct N a' = a := by
  cases c with
  | loop a' => simp only [compC, ICode.loop.injEq] at h; exact ⟨a', rfl, h⟩
  | region id ops draw => simp only [compC] at h; split at h <;> (try split at h) <;> cases h
  | cond x y z => simp only [compC] at h; split at h <;> cases h
  | _ => simp [compC] at h

theorem inv_scope {c : Code} {a : ICode} (h : compC P ct N c = .scope a) : ∃ a', c = .scope a' ∧ compC P ct N a' = a := by
  cases c with
  | scope a' => simp only [compC, ICode.scope.injEq] at h; exact ⟨a', rfl, h⟩
  | region id ops draw => simp only [compC] at h; split at h <;> (try split at h) <;> cases h
  | cond x y z => simp only [compC] at h; split at h <;> cases h
  | _ => simp [compC] at h
theorem inv_cond {c : Code} {x : Opd} {a b : ICode} (h : compC P ct N c = .cond x a b) : ∃ y a' b', c = .cond y a' b' ∧ cO y = some x ∧ (∀ g, x ≠ .g g) ∧ compC P ct N a' = a ∧ compC P ct N b' = b := by
  cases c with
  | cond y a' b' =>
    simp only [compC] at h
    split at h
    · cases h
    · rename_i x' hng hc
      simp only [ICode.cond.injEq] at h
      obtain ⟨rfl, h1, h2⟩ := h
      exact ⟨y, a', b', rfl, hc, fun g hg => hng g hg, h1, h2⟩
    · cases h
  | region id ops draw => simp only [compC] at h; split at h <;> (try split at h) <;> cases h
  | _ => simp [compC] at h
end

def RunOK (P : Program) (run : XR) : Prop := ∀ ct N n0 c e h n out, run c e h n = some out → ∀ c', compC P ct N c' = c → WP P N n0 c' (isOut out) e h n

def Valid (P : Program) (T : List (Nat × IFn)) : Prop := ∀ f I, iget T f = some I → ∃ fn, P.funcs[f]? = some fn ∧ compF P fn = some I ∧ callable P f = true

theorem Valid.nil {P : Program} : Valid P [] := fun f I h => by cases h
theorem Valid.cons {P : Program} {T : List (Nat × IFn)} {f : Nat} {I : IFn} {fn : Func} (h1 : P.funcs[f]? = some fn) (h2 : compF P fn = some I) (h3 : callable P f = true) (h : Valid P T) : Valid P ((f, I) :: T) := fun g J hg => by
  simp only [iget] at hg
  cases hfg : Nat.beq f g
  · rw [hfg] at hg; exact h g J hg
  · rw [hfg] at hg
    have := Nat.eq_of_beq_eq_true hfg
    subst this
    simp only [cond_true, Option.some.injEq] at hg
    subst hg
    exact ⟨fn, h1, h2, h3⟩

theorem mdOf_spec {χ : Nat → Nat} {hL hR : Hp} : ∀ {r : List Nat} {i : Nat} {c : Nat} {x : Option Blk}, nodup r = true → mget (mdOf χ hL hR r i) c = some x → inl r c = true ∧ x = (hget hR (i + idx r c)).map (Blk.ren χ)
  | [], i, c, x, _, h => by simp [mdOf, mget] at h
  | b :: r, i, c, x, hnd, h => by
    simp only [nodup, Bool.and_eq_true, Bool.not_eq_true'] at hnd
    have tail : mget (mdOf χ hL hR r (i + 1)) c = some x → inl (b :: r) c = true ∧ x = (hget hR (i + idx (b :: r) c)).map (Blk.ren χ) := fun h => by
      obtain ⟨h1, h2⟩ := mdOf_spec hnd.2 h
      simp only [inl, idx]
      cases hb : Nat.beq b c
      · refine ⟨by simp [h1], ?_⟩
        simp only [cond_false]
        rw [h2, show i + (idx r c + 1) = i + 1 + idx r c by omega]
      · have := Nat.eq_of_beq_eq_true hb
        subst this
        rw [hnd.1] at h1; cases h1
    have head : ∀ y, y = (hget hR i).map (Blk.ren χ) → mget ((b, y) :: mdOf χ hL hR r (i + 1)) c = some x → inl (b :: r) c = true ∧ x = (hget hR (i + idx (b :: r) c)).map (Blk.ren χ) := fun y hy h => by
      simp only [mget] at h
      cases hb : Nat.beq b c
      · rw [hb] at h
        exact tail h
      · rw [hb] at h
        simp only [cond_true, Option.some.injEq] at h
        simp only [inl, idx, hb]
        exact ⟨by simp, by simp [← h, hy]⟩
    simp only [mdOf] at h
    split at h
    · rename_i k hk
      split at h
      · exact tail h
      · exact head _ (by rw [hk]; rfl) h
    · rename_i hk
      exact head _ (by rw [hk]; rfl) h

theorem mdOf_none {χ : Nat → Nat} {hL hR : Hp} : ∀ {r : List Nat} {i : Nat} {c : Nat}, nodup r = true → mget (mdOf χ hL hR r i) c = none → inl r c = false ∨ ∃ k, hget hR (i + idx r c) = some k ∧ hget hL (i + idx r c) = some k
  | [], i, c, _, h => .inl rfl
  | b :: r, i, c, hnd, h => by
    simp only [nodup, Bool.and_eq_true, Bool.not_eq_true'] at hnd
    have tail : Nat.beq b c = false → mget (mdOf χ hL hR r (i + 1)) c = none → inl (b :: r) c = false ∨ ∃ k, hget hR (i + idx (b :: r) c) = some k ∧ hget hL (i + idx (b :: r) c) = some k := fun hb h => by
      rcases mdOf_none hnd.2 h with h1 | ⟨k, h1, h2⟩
      · left; simp [inl, hb, h1]
      · right
        refine ⟨k, ?_, ?_⟩
        · simp only [idx, hb, cond_false]
          rw [show i + (idx r c + 1) = i + 1 + idx r c by omega]; exact h1
        · simp only [idx, hb, cond_false]
          rw [show i + (idx r c + 1) = i + 1 + idx r c by omega]; exact h2
    simp only [mdOf] at h
    cases hb : Nat.beq b c
    · refine tail hb ?_
      split at h
      · split at h
        · exact h
        · simp only [mget, hb, cond_false] at h; exact h
      · simp only [mget, hb, cond_false] at h; exact h
    · right
      simp only [idx, hb, cond_true, Nat.add_zero]
      split at h
      · rename_i k hk
        split at h
        · rename_i hr; exact ⟨k, hk, asWas_spec hr⟩
        · simp only [mget, hb, cond_true] at h; cases h
      · simp only [mget, hb, cond_true] at h; cases h

theorem nwOf_spec {χ : Nat → Nat} {m n : Nat} (hχ : ∀ b, m ≤ b → χ b = n + (b - m)) : ∀ {hR : Hp} {c : Nat} {kk : Blk}, hget (nwOf χ m hR) c = some kk → ∃ b kb, hget hR b = some kb ∧ m ≤ b ∧ c = χ b ∧ kk = kb.ren χ
  | [], c, kk, h => by simp [nwOf, hget] at h
  | (b0, k0) :: r, c, kk, h => by
    simp only [nwOf] at h
    cases hb : Nat.blt b0 m
    · rw [hb] at h
      simp only [cond_false, hget] at h
      have hm : m ≤ b0 := by
        rcases Nat.lt_or_ge b0 m with h' | h'
        · have : Nat.blt b0 m = true := by rw [Nat.blt_eq]; exact h'
          rw [this] at hb; cases hb
        · exact h'
      by_cases hc : c = χ b0
      · subst hc
        simp at h
        exact ⟨b0, k0, by simp [hget], hm, rfl, h.symm⟩
      · rw [beq_ne hc] at h
        obtain ⟨b, kb, h1, h2, h3, h4⟩ := nwOf_spec hχ h
        refine ⟨b, kb, ?_, h2, h3, h4⟩
        have : b ≠ b0 := fun e => hc (by rw [h3, e])
        simp only [hget, beq_ne this]; exact h1
    · rw [hb] at h
      simp only [cond_true] at h
      obtain ⟨b, kb, h1, h2, h3, h4⟩ := nwOf_spec hχ h
      refine ⟨b, kb, ?_, h2, h3, h4⟩
      have : b ≠ b0 := fun e => by have := blt_lt hb; omega
      simp only [hget, beq_ne this]; exact h1

theorem xFn_FTL {P : Program} {run : XR} (hrun : RunOK P run) {f : FuncId} {fn : Func} {I : IFn} (hf : P.funcs[f]? = some fn) (hI : compF P fn = some I) {args : List AV} {h : Hp} {n : Nat} {v : AV} {hR : Hp} {k : Nat}
    (hx : xFn run I args h n = some (v, hR, k)) : FTL P f args h n v hR k ∧ n ≤ k ∧ v.bel k = true ∧ hOK h n k hR = true := by
  simp only [xFn] at hx
  split at hx
  · rename_i hlen
    simp only [Option.bind_eq_some_iff] at hx
    obtain ⟨o, ho, hx⟩ := hx
    have main : ∀ (x : XE) (e : Env) (h' : Hp) (n' : Nat), (x = .n ∨ x = .r) → o = (x, e, h', n') → (∃ q, retV I.res e h' = some q ∧ (match q with
      | (true, v) =>
        (match Nat.ble n n' && v.bel n' && hOK h n n' (keepH (reach h' 100000 [] (v.names ++ List.range n)) h') with
        | true => some (v, keepH (reach h' 100000 [] (v.names ++ List.range n)) h', n')
        | false => none)
      | _ => none) = some (v, hR, k)) → FTL P f args h n v hR k ∧ n ≤ k ∧ v.bel k = true ∧ hOK h n k hR = true := by
      rintro x e h' n' hxx rfl ⟨q, hq, hr⟩
      split at hr
      · rename_i v1
        split at hr
        · rename_i hc
          simp only [Option.some.injEq, Prod.mk.injEq] at hr
          obtain ⟨rfl, rfl, rfl⟩ := hr
          simp only [Bool.and_eq_true] at hc
          refine ⟨FTL.of_wp hf hI (Nat.le_of_ble_eq_true hlen) (fun c hc' => WP.mono ?_ (hrun _ _ _ _ _ _ _ _ ho c hc')), Nat.le_of_ble_eq_true hc.1.1, hc.1.2, hc.2⟩
          rintro ex e2 h2 n2 ⟨rfl, rfl, rfl, rfl⟩
          rcases hxx with rfl | rfl
          · show gd (retV I.res e2 h2) _
            rw [hq]
            exact ⟨rfl, Ends.prune (Nat.le_of_ble_eq_true hc.1.1) hc.1.2 hc.2 (fun b k hb => keepH_spec hb)⟩
          · show gd (retV I.res e2 h2) _
            rw [hq]
            exact ⟨rfl, Ends.prune (Nat.le_of_ble_eq_true hc.1.1) hc.1.2 hc.2 (fun b k hb => keepH_spec hb)⟩
        · cases hr
      · cases hr
    obtain ⟨x, e, h', n'⟩ := o
    cases x with
    | x i => cases hx
    | n => simp only [Option.bind_eq_some_iff] at hx; exact main _ _ _ _ (.inl rfl) rfl hx
    | r => simp only [Option.bind_eq_some_iff] at hx; exact main _ _ _ _ (.inr rfl) rfl hx
  · cases hx

theorem call_sound {P : Program} {f : FuncId} {args : List AV} {h : Hp} {n : Nat} {R : List Nat} {hL : Hp} {v : AV} {hR : Hp} {k : Nat} (hcall : callable P f = true) (hnd : nodup R = true) (hin : inRL R args = true) (hmk : mkL R h R 0 = some hL)
    (hft : FTL P f (renL (idx R) args) hL R.length v hR k) (hk : R.length ≤ k) (hok : hOK hL R.length k hR = true) :
    CallOK P f args h n { v := v.ren (chi R n), n := n + (k - R.length), rd := R, md := mdOf (chi R n) hL hR R 0, nw := nwOf (chi R n) R.length hR } := by
  obtain ⟨g1, g2⟩ := mkL_spec hmk
  have hchi : chi R n = fun b => if b < R.length then nth R b else n + (b - R.length) := rfl
  have hχ : ∀ b, R.length ≤ b → chi R n b = n + (b - R.length) := fun b hb => by simp only [chi]; rw [if_neg (by omega)]
  refine CallOK.of_FTL (ψ := nth R) hcall hft hk (renL_idx args hin).2 (fun b hb => g2 b (Nat.zero_le _) (by omega)) (fun b kk hb => ?_) (renL_idx args hin).1.symm (fun b kk hb => ?_) (fun b1 b2 k1 k2 hb1 hb2 _ he => ?_) rfl rfl (fun b r hb => (mdOf_spec hnd hb).1)
    (fun b kk hb => ?_) (fun c kk hc => ?_)
  · obtain ⟨q1, q2, k0, q3, rfl, q5⟩ := g1 b kk hb
    exact ⟨by omega, (renL_idx k0.cells q5).2⟩
  · obtain ⟨q1, q2, k0, q3, rfl, q5⟩ := g1 b kk hb
    have hb' : b < R.length := by omega
    simp only [only, nth_inl hb', cond_true]
    simp only [Nat.sub_zero] at q3
    rw [q3]
    simp only [Blk.ren, (renL_idx k0.cells q5).1]
  · obtain ⟨q1, q2, _⟩ := g1 b1 k1 hb1
    obtain ⟨r1, r2, _⟩ := g1 b2 k2 hb2
    have h1 := idx_nth (R := R) (i := b1) hnd (by omega)
    have h2 := idx_nth (R := R) (i := b2) hnd (by omega)
    rw [← h1, ← h2, he]
  · obtain ⟨b', kb, h1, h2, rfl, _⟩ := nwOf_spec hχ hb
    have := (hOK_spec hok b' kb h1).1
    rw [hχ b' h2]
    exact ⟨by omega, by show _ < n + (k - R.length); omega⟩
  · simp only [Eff.app] at hc
    split at hc
    · rename_i r hr
      obtain ⟨h1, rfl⟩ := mdOf_spec hnd hr
      rw [Nat.zero_add] at hc
      obtain ⟨kb, hkb, rfl⟩ := Option.map_eq_some_iff.1 hc
      obtain ⟨h2, h3⟩ := inl_idx h1
      obtain ⟨h4, _, h6⟩ := hOK_spec hok _ kb hkb
      exact ⟨idx R c, kb, hkb, h4, by rw [if_pos h2, h3], rfl, h6⟩
    · rename_i hmn
      split at hc
      · rename_i k1 hnw
        cases hc
        obtain ⟨b', kb, h1, h2, rfl, rfl⟩ := nwOf_spec hχ hnw
        obtain ⟨h4, _, h6⟩ := hOK_spec hok _ kb h1
        exact ⟨b', kb, h1, h4, rfl, rfl, h6⟩
      · rcases mdOf_none hnd hmn with hi | ⟨kb, hkb, hro⟩
        · simp only [only, hi, cond_false] at hc
          cases hc
        · rw [Nat.zero_add] at hkb hro
          cases hi : inl R c
          · simp only [only, hi, cond_false] at hc
            cases hc
          · obtain ⟨h2, h3⟩ := inl_idx hi
            obtain ⟨h4, _, h6⟩ := hOK_spec hok _ kb hkb
            obtain ⟨q1, q2, k0, q3, q4, q5⟩ := g1 _ kb hro
            simp only [Nat.sub_zero] at q3
            rw [h3] at q3
            simp only [only, hi, cond_true] at hc
            rw [q3] at hc
            have hkk : kk = k0 := (Option.some.inj hc).symm
            rw [hkk]
            refine ⟨idx R c, kb, hkb, h4, by rw [if_pos h2, h3], ?_, h6⟩
            have hbk := (renL_idx k0.cells q5).1
            have hfix : renL (fun b => if b < R.length then nth R b else n + (b - R.length)) (renL (idx R) k0.cells) = renL (nth R) (renL (idx R) k0.cells) :=
              renL_congr (m := R.length) (fun b hb => by simp [hb]) _ (renL_idx k0.cells q5).2
            rw [q4]
            simp only [Blk.ren]
            show k0 = { cells := renL (fun b => if b < R.length then nth R b else n + (b - R.length)) (renL (idx R) k0.cells), ro := k0.ro, gr := k0.gr, gid := k0.gid }
            rw [hfix, hbk]

theorem xCx_sound {P : Program} {T : List (Nat × IFn)} (hT : Valid P T) {run : XR} (hrun : RunOK P run) : Sound P (xCx T run) := by
  intro f args h n c E hx hc
  simp only [xCx, Option.bind_eq_some_iff] at hx
  obtain ⟨I, hI, hx⟩ := hx
  obtain ⟨fn, hf, hcomp, hcall⟩ := hT f I hI
  generalize hR0 : reach h 100000 [] (gidsOf h ++ namesL args) = R at hx
  split at hx
  · rename_i hnd
    simp only [Bool.and_eq_true] at hnd
    obtain ⟨hnd, hin⟩ := hnd
    simp only [Option.bind_eq_some_iff] at hx
    obtain ⟨hL, hmk, ⟨v, hR, k⟩, hxf, hx⟩ := hx
    simp only [Option.some.injEq, Prod.mk.injEq] at hx
    obtain ⟨_, rfl⟩ := hx
    obtain ⟨hft, hk, hvb, hok⟩ := xFn_FTL hrun hf hcomp hxf
    exact call_sound hcall hnd hin hmk hft hk hok
  · cases hx

theorem xBody_ok {P : Program} {T : List (Nat × IFn)} (hm : P.follows .mixedOrders = true) (hT : Valid P T) (m : Nat) {run : XR} (hrun : RunOK P run) : RunOK P (xBody T m run) := by
  intro ct N n0 c e h n out hx c' hc'
  have hcx := xCx_sound hT hrun
  have viaI : iw ⟨P, xCx T run, ct, N, n0⟩ c (isOut out) e h n → WP P N n0 c' (isOut out) e h n := fun hi =>
    iw_sound ⟨P, xCx T run, ct, N, n0⟩ hcx hm c' _ _ _ _ (by show iw _ (compC P ct N c') _ _ _ _; rw [hc']; exact hi)
  cases c with
  | skip => simp only [xBody, Option.some.injEq] at hx; subst hx; exact viaI ⟨rfl, rfl, rfl, rfl⟩
  | reg ops =>
    simp only [xBody, Option.bind_eq_some_iff, Option.some.injEq] at hx
    obtain ⟨⟨e', h', n'⟩, ho, rfl⟩ := hx
    exact viaI (xOps_run ho ⟨rfl, rfl, rfl, rfl⟩)
  | dreg ops =>
    simp only [xBody, Option.bind_eq_some_iff, Option.some.injEq] at hx
    obtain ⟨⟨e', h', n'⟩, ho, rfl⟩ := hx
    exact viaI (xDr_run ho ⟨rfl, rfl, rfl, rfl⟩)
  | exit id => simp only [xBody, Option.some.injEq] at hx; subst hx; exact viaI ⟨rfl, rfl, rfl, rfl⟩
  | ret => simp only [xBody, Option.some.injEq] at hx; subst hx; exact viaI ⟨rfl, rfl, rfl, rfl⟩
  | bad => cases hx
  | seq a b =>
    simp only [xBody, Option.bind_eq_some_iff] at hx
    obtain ⟨⟨x, e1, h1, n1⟩, ho, hx⟩ := hx
    obtain ⟨a', b', rfl, ha, hb⟩ := inv_seq hc'
    refine WP.seq (WP.mono ?_ (hrun _ _ _ _ _ _ _ _ ho a' ha))
    rintro ex e2 h2 n2 ⟨rfl, rfl, rfl, rfl⟩
    cases x with
    | n => exact hrun _ _ _ _ _ _ _ _ hx b' hb
    | x i => simp only [Option.some.injEq] at hx; subst hx; exact ⟨rfl, rfl, rfl, rfl⟩
    | r => simp only [Option.some.injEq] at hx; subst hx; exact ⟨rfl, rfl, rfl, rfl⟩
  | cond x a b =>
    simp only [xBody, Option.bind_eq_some_iff] at hx
    obtain ⟨v, hv, hx⟩ := hx
    obtain ⟨y, a', b', rfl, hy, hg, ha, hb⟩ := inv_cond hc'
    split at hx
    · exact WP.cond hy hg hv (hrun _ _ _ _ _ _ _ _ hx a' ha)
    · exact WP.cond hy hg hv (hrun _ _ _ _ _ _ _ _ hx b' hb)
    · cases hx
  | block id a =>
    simp only [xBody, Option.bind_eq_some_iff] at hx
    obtain ⟨⟨x, e1, h1, n1⟩, ho, hx⟩ := hx
    obtain ⟨a', rfl, ha⟩ := inv_block hc'
    refine WP.block (WP.mono ?_ (hrun _ _ _ _ _ _ _ _ ho a' ha))
    rintro ex e2 h2 n2 ⟨rfl, rfl, rfl, rfl⟩
    cases x with
    | n => simp only [Option.some.injEq] at hx; subst hx; exact ⟨rfl, rfl, rfl, rfl⟩
    | r => simp only [Option.some.injEq] at hx; subst hx; exact ⟨rfl, rfl, rfl, rfl⟩
    | x i =>
      simp only at hx
      simp only [XE.toExit, blockK]
      by_cases hid : i = id
      · subst hid
        have hii : Nat.beq i i = true := by simp
        rw [hii] at hx
        simp only [cond_true, Option.some.injEq] at hx
        subst hx
        rw [if_pos rfl]
        exact ⟨rfl, rfl, rfl, rfl⟩
      · rw [beq_ne (fun e => hid e.symm)] at hx
        simp only [cond_false, Option.some.injEq] at hx
        subst hx
        rw [if_neg hid]
        exact ⟨rfl, rfl, rfl, rfl⟩
  | scope a =>
    simp only [xBody] at hx
    obtain ⟨a', rfl, ha⟩ := inv_scope hc'
    refine WP.scope (WP.mono ?_ (hrun _ _ _ _ _ _ _ _ hx a' ha))
    rintro ex e2 h2 n2 ⟨rfl, rfl, rfl, rfl⟩
    obtain ⟨x, e3, h3, n3⟩ := out
    cases x <;> exact ⟨rfl, rfl, rfl, rfl⟩
  | loop a =>
    simp only [xBody] at hx
    obtain ⟨a', rfl, ha⟩ := inv_loop hc'
    intro D0 φ0 H0 w0 h1 h2 D φ ac w hR hS
    refine wp_loop_rounds m ?_
    clear viaI hc' 
    induction m generalizing e h n D φ ac w with
    | zero => cases hx
    | succ m ih =>
      simp only [xLoop, Option.bind_eq_some_iff] at hx
      obtain ⟨⟨x, e1, h1', n1⟩, ho, hx⟩ := hx
      refine wp_mono (hrun _ N n0 _ _ _ _ _ ho a' ha D0 φ0 H0 w0 h1 h2 D φ ac w hR hS) (fun ex ac' w' hp => ?_)
      obtain ⟨D', φ', e', h', n', ⟨rfl, rfl, rfl, rfl⟩, hn', hR', hS'⟩ := hp
      cases x with
      | n => exact ih e' h' n' hx hn' D' φ' ac' w' hR' hS'
      | x i => simp only [Option.some.injEq] at hx; subst hx; exact ⟨D', φ', _, _, _, ⟨rfl, rfl, rfl, rfl⟩, hn', hR', hS'⟩
      | r => simp only [Option.some.injEq] at hx; subst hx; exact ⟨D', φ', _, _, _, ⟨rfl, rfl, rfl, rfl⟩, hn', hR', hS'⟩

theorem xrun_ok {P : Program} {T : List (Nat × IFn)} (hm : P.follows .mixedOrders = true) (hT : Valid P T) : ∀ fuel, RunOK P (xrun T fuel)
  | 0 => fun ct N n0 c e h n out hx => by cases hx
  | m + 1 => xBody_ok hm hT m (xrun_ok hm hT m)

/-- A closed call, computed. -/
theorem FTL.of_run {P : Program} {T : List (Nat × IFn)} (fuel : Nat) (hm : P.follows .mixedOrders = true) (hT : Valid P T) {f : FuncId} {fn : Func} {I : IFn} (hf : P.funcs[f]? = some fn) (hI : compF P fn = some I) {args : List AV} {h : Hp} {n : Nat} {v : AV} {hR : Hp} {k : Nat}
    (hx : xFn (xrun T fuel) I args h n = some (v, hR, k)) : FTL P f args h n v hR k := (xFn_FTL (xrun_ok hm hT fuel) hf hI hx).1

end Go.Ab
