/- The abstract layer, part 57: at a function's end, blocks that nobody writes any more are frozen. -/
import Derived.Test.YtndbgcmgjnjnhaaAbNest
import Derived.Test.YtndbgcmgjnjnhaaAbShs
namespace Go.Ab
set_option linter.unusedVariables false
set_option linter.unusedSimpArgs false

/-- The state behind covers the state ahead, perhaps with blocks frozen. -/
def CovS (n0 : Nat) (v : AV) (h : Hp) (n : Nat) (v2 : AV) (h2 : Hp) (n2 : Nat) : Prop :=
  ∀ (D : Nat → Prop) (φ : Phi) (w : World) (D0 : Nat → Prop) (φ0 : Phi) (H0 : Hf) (w0 : World) (u : Value), (∀ b, D0 b → b < n0) → (∀ b, D b → b < n) → VRel D φ v u → HR D φ (hget h) w → Stp D0 φ0 H0 w0 D φ (hget h) w →
    ∃ D' φ', (∀ b, D' b → b < n2) ∧ VRel D' φ' v2 u ∧ Stp D0 φ0 H0 w0 D' φ' (hget h2) w

theorem CovS.ends {n0 n n2 : Nat} {v v2 : AV} {h h2 : Hp} (he : Ends n0 v h n v2 h2 n2) : CovS n0 v h n v2 h2 n2 := by
  obtain ⟨ψ, hW⟩ := he
  intro D φ w D0 φ0 H0 w0 u hD0 hD hv hH hS
  have hR2 : Rel D φ [(0, v)] h n 1 { tmps := #[u], defers := [] } w := by
    refine ⟨hD, fun t x hx => ?_, hH, rfl, rfl⟩
    simp only [eget] at hx
    by_cases ht : t = 0
    · subst ht; simp at hx; subst hx; exact hv
    · rw [beq_ne ht] at hx; simp at hx
  obtain ⟨hR3, hS3⟩ := Rel.weaken hW hD0 hR2 hS
  exact ⟨_, _, hR3.lt, hR3.env 0 v2 (by simp [eget]), hS3⟩

theorem FTL.of_covs {f : FuncId} {P : Program} {fn : Func} {I : IFn} {args : List AV} {n : Nat} {h : Hp} {v2 : AV} {h2 : Hp} {n2 : Nat} (hf : P.funcs[f]? = some fn) (hI : compF P fn = some I) (hnp : args.length ≤ I.N)
    (hi : ∀ c, compC P I.ct I.N c = I.code → WP P I.N n c (retK I.res fun v h' n' => CovS n v h' n' v2 h2 n2) (argEnv 0 args) h n) : FTL P f args h n v2 h2 n2 := by
  intro D φ w us hD0 hH hargs
  have hD : ∀ b, (fun b => b < n) b → b < n := fun b hb => hb
  have hH : HR (fun b => b < n) φ (hget h) w := hH.grow hD0
  have hargs : All2 (fun b => b < n) φ args us := hargs.mono hD0 (Agree.refl _ _)
  have hout : ∀ D' φ' H' w', Stp (fun b => b < n) φ (hget h) w D' φ' H' w' → Stp D φ (hget h) w D' φ' H' w' := fun D' φ' H' w' hs => ⟨fun b hb => hs.sub b (hD0 b hb), ⟨fun b hb => hs.agree b (hD0 b hb), hs.agree.fz⟩, hs.hr, hs.frm, hs.img, hs.fnew⟩
  simp only [compF, Option.bind_eq_some_iff] at hI
  obtain ⟨c, hc, rs, hrs, hI⟩ := hI
  split at hI
  · rename_i hle
    simp only [Option.some.injEq] at hI
    subst hI
    simp only at hi hnp
    refine calls_of_wp hf hc ?_
    have hsz : (us.toArray ++ Array.replicate (fn.ntmps - us.toArray.size) undef).size = fn.ntmps := by
      have := hargs.1; simp; omega
    have hR : Rel (fun b => b < n) φ (argEnv 0 args) h n fn.ntmps { tmps := us.toArray ++ Array.replicate (fn.ntmps - us.toArray.size) undef, defers := [] } w := by
      refine ⟨hD, fun t v hv => ?_, hH, hsz, rfl⟩
      obtain ⟨_, hv'⟩ := argEnv_get hv
      obtain ⟨u, hu, hr⟩ := hargs.get hv'
      have hlt : t < us.length := by
        rcases Nat.lt_or_ge t us.length with h' | h'
        · exact h'
        · rw [Nat.sub_zero, List.getElem?_eq_none h'] at hu; cases hu
      have : (us.toArray ++ Array.replicate (fn.ntmps - us.toArray.size) undef).getD t undef = u := by
        rw [Array.getD_eq_getD_getElem?, Array.getElem?_append_left (by simpa using hlt)]
        simp at hu ⊢
        simp [hu]
      rw [this]; exact hr
    have hw := hi c rfl _ φ (hget h) w hD (Nat.le_refl _) _ φ _ w hR (Stp.refl hH)
    refine wp_mono hw (fun ex a' w' hp => ?_)
    have fin : (∃ D' φ' e' h' n', (gd (retV rs e' h') fun r => r.1 = true ∧ CovS n r.2 h' n' v2 h2 n2) ∧ Rel D' φ' e' h' n' fn.ntmps a' w' ∧ Stp (fun b => b < n) φ (hget h) w D' φ' (hget h') w') →
        a'.defers = [] ∧ ∃ v, (results fn a'.tmps).run P w' = .ok v w' ∧ ∃ D' φ' u, Ending.returned v = .returned u ∧ (∀ b, D' b → b < n2) ∧ VRel D' φ' v2 u ∧ Stp D φ (hget h) w D' φ' (hget h2) w' := by
      rintro ⟨D', φ', e', h', n', hret, hR', hS'⟩
      obtain ⟨r, hr, hrc, hW⟩ := gd_elim hret
      simp only [retV, Option.bind_eq_some_iff] at hr
      obtain ⟨q, hq, hr⟩ := hr
      simp only [Option.some.injEq] at hr
      subst hr
      obtain ⟨us', g1, g2⟩ := retVs_rel hR' hrs hq hrc
      have hres : (results fn a'.tmps).run P w' = .ok (packV us') w' := by
        rw [results_eq]
        simp only [Sem.run_bind]
        rw [Array.mapM_eq_mapM_toList]
        simp only [Sem.run_map]
        rw [g1]
        simp only [Result.andThen_ok, Sem.run_pure]
        congr 1
        match us' with
        | [] => rfl
        | [u] => rfl
        | _ :: _ :: _ => simp [packV]
      have hvr : VRel D' φ' (packA q.2) (packV us') := pack_rel g2
      obtain ⟨D3, φ3, k1, k2, k3⟩ := hW D' φ' w' _ φ _ w _ hD hR'.lt hvr hR'.heap hS'
      exact ⟨hR'.defers, _, hres, _, _, _, rfl, k1, k2, hout _ _ _ _ k3⟩
    obtain ⟨D', φ', e', h', n', hk, hn', hR', hS'⟩ := hp
    cases ex with
    | normal => exact fin ⟨D', φ', e', h', n', hk, hR', hS'⟩
    | ret => exact fin ⟨D', φ', e', h', n', hk, hR', hS'⟩
    | _ => exact hk.elim
  · cases hI

theorem FTL.of_cov {f : FuncId} {P : Program} {fn : Func} {I : IFn} {cx : Cx} {args : List AV} {n : Nat} {h : Hp} {v2 : AV} {h2 : Hp} {n2 : Nat} (hcx : Sound P cx) (hm : P.follows .mixedOrders = true) (hf : P.funcs[f]? = some fn) (hI : compF P fn = some I) (hnp : args.length ≤ I.N)
    (hi : iw ⟨P, cx, I.ct, I.N, n⟩ I.code (retK I.res fun v h' n' => CovS n v h' n' v2 h2 n2) (argEnv 0 args) h n) : FTL P f args h n v2 h2 n2 :=
  FTL.of_covs hf hI hnp (fun c hc => iw_sound ⟨P, cx, I.ct, I.N, n⟩ hcx hm c _ _ _ _ (by show iw _ (compC P I.ct I.N c) _ _ _ _; rw [hc]; exact hi))

theorem FTL.of_seamC {f : FuncId} {P : Program} {fn : Func} {I : IFn} {cx : Cx} {args : List AV} {n : Nat} {h : Hp} {v2 : AV} {h2 : Hp} {n2 : Nat} (hf : P.funcs[f]? = some fn) (hI : compF P fn = some I) (hnp : args.length ≤ I.N)
    (hi : Seam ⟨P, cx, I.ct, I.N, n⟩ I.code (retK I.res fun v h' n' => CovS n v h' n' v2 h2 n2) (argEnv 0 args) h n) : FTL P f args h n v2 h2 n2 :=
  FTL.of_covs hf hI hnp (fun c hc => hi c hc)

/-- One value in place of another, where a slice's value is given as a frozen one. -/
def FzV (x y : AV) (v v' : AV) : Prop := ∀ (D : Nat → Prop) (φ : Phi) (u : Value), (∀ u1, VRel D φ x u1 → VRel D φ y u1) → VRel D φ v u → VRel D φ v' u
theorem FzV.hit {x y : AV} : FzV x y x y := fun D φ u h hv => h u hv
theorem FzV.refl {x y v : AV} : FzV x y v v := fun D φ u h hv => hv
def FzVs (x y : AV) : List AV → List AV → Prop
  | [], [] => True
  | a :: l, b :: m => FzV x y a b ∧ FzVs x y l m
  | _, _ => False
theorem FzVs.len {x y : AV} : ∀ {l m : List AV}, FzVs x y l m → l.length = m.length
  | [], [], _ => rfl
  | a :: l, b :: m, h => by simp [FzVs.len h.2]
  | [], _ :: _, h => h.elim
  | _ :: _, [], h => h.elim
theorem FzVs.get {x y : AV} : ∀ {l m : List AV} {i : Nat} {b : AV}, FzVs x y l m → m[i]? = some b → ∃ a, l[i]? = some a ∧ FzV x y a b
  | [], [], i, b, _, hi => by simp at hi
  | a :: l, c :: m, 0, b, h, hi => by simp at hi; subst hi; exact ⟨a, rfl, h.1⟩
  | a :: l, c :: m, i + 1, b, h, hi => by
    obtain ⟨a', h1, h2⟩ := FzVs.get h.2 (by simpa using hi)
    exact ⟨a', by simpa using h1, h2⟩
  | [], _ :: _, _, _, h, _ => h.elim
  | _ :: _, [], _, _, h, _ => h.elim
theorem FzV.agg {x y : AV} {l m : List AV} (h : FzVs x y l m) : FzV x y (.agg l) (.agg m) := fun D φ u hx hv => by
  cases hv with
  | agg _ cs hl hh =>
    refine .agg m cs (by rw [← hl, h.len]) (fun i b u hb hu => ?_)
    obtain ⟨a, h1, h2⟩ := h.get hb
    exact h2 D φ u hx (hh i a u h1 hu)
theorem FzV.tup {x y : AV} {l m : List AV} (h : FzVs x y l m) : FzV x y (.tup l) (.tup m) := fun D φ u hx hv => by
  cases hv with
  | tup _ cs hl hh =>
    refine .tup m cs (by rw [← hl, h.len]) (fun i b u hb hu => ?_)
    obtain ⟨a, h1, h2⟩ := h.get hb
    exact h2 D φ u hx (hh i a u h1 hu)

/-- A block is frozen. -/
theorem CovS.frz {n0 n n2 : Nat} {v v' v2 : AV} {h h' h2 : Hp} {x : AV} {b : Nat} {k : Blk} {cs : List AV} {m o : Nat} (hk : hget h b = some k) (hro : k.ro = false) (hx : (∃ cap, x = .sl b o m cap ∧ m ≤ cap) ∨ x = .sg b o m) (hcs : cs = k.cells.drop o ∨ cs = (k.cells.drop o).take cs.length) (hf : FzV x (.fz cs m) v v')
    (hh : ∀ c kk, hget h' c = some kk → c ≠ b ∧ hget h c = some kk) (hc : CovS n0 v' h' n v2 h2 n2) : CovS n0 v h n v2 h2 n2 := by
  intro D φ w D0 φ0 H0 w0 u hD0 hD hv hH hS
  obtain ⟨hdb, ⟨⟨vs, elem, fr, q1, q2, q3, q4⟩, q5⟩⟩ := hH.at_ b k hk
  let φ1 : Phi := { φ with fz := fun B => if B = φ.blk b then some vs else φ.fz B }
  have ag : Agree D φ φ1 := ⟨fun c _ => ⟨rfl, rfl, rfl, rfl⟩, fun B vs' hB => by
    simp only [φ1]
    split
    · rename_i hBb
      subst hBb
      obtain ⟨elem', fr', h1⟩ := hH.fz _ _ hB
      rw [q1] at h1
      simp only [Option.some.injEq, Obj.cells.injEq] at h1
      rw [h1.1]
    · exact hB⟩
  have hxy : ∀ u1, VRel D φ1 x u1 → VRel D φ1 (.fz cs m) u1 := fun u1 h1 => by
    have get : ∀ (i : Nat) (a : AV), cs[i]? = some a → ∃ u, vs[φ.off b + o + i]? = some u ∧ VRel D φ a u := fun i a ha => by
      have ha' : k.cells[o + i]? = some a := by
        rcases hcs with e | e
        · rw [e, List.getElem?_drop] at ha; exact ha
        · rw [e, List.getElem?_take, List.getElem?_drop] at ha
          split at ha
          · exact ha
          · cases ha
      obtain ⟨u, hu, hr⟩ := q2 _ a ha'
      exact ⟨u, by rw [Nat.add_assoc]; exact hu, hr⟩
    have g1 : φ1.fz (φ.blk b) = some vs := by simp [φ1]
    have g2 : ∀ i, i < cs.length → φ.off b + o + i < vs.size := fun i hi => by
      obtain ⟨u, hu, _⟩ := get i _ (List.getElem?_eq_getElem hi)
      rcases Nat.lt_or_ge (φ.off b + o + i) vs.size with h' | h'
      · exact h'
      · rw [Array.getElem?_eq_none h'] at hu; cases hu
    have g3 : ∀ (i : Nat) (a : AV) (u : Value), cs[i]? = some a → vs[φ.off b + o + i]? = some u → VRel D φ1 a u := fun i a u ha hu => by
      obtain ⟨u', hu', hr⟩ := get i a ha
      rw [hu] at hu'; cases hu'
      exact hr.mono (fun _ h => h) ag
    rcases hx with ⟨cap, rfl, hcap⟩ | rfl
    · cases h1 with
      | sl _ _ _ _ _ => exact .fz _ _ _ _ _ vs g1 hcap g2 g3
    · cases h1 with
      | sg _ _ _ j cap _ _ _ hl => exact .fz _ _ _ _ _ vs g1 hl g2 g3
  have hv1 : VRel D φ1 v' u := hf D φ1 u hxy (hv.mono (fun _ h => h) ag)
  have hH1 : HR D φ1 (hget h') w := by
    refine ⟨⟨fun c kk hc => ?_, fun b1 b2 k1 k2 hne h1 h2 hr => ?_⟩, fun B vs' hB => ?_, fun c kk B vs' hc hr hB => ?_⟩
    · obtain ⟨_, h2⟩ := hh c kk hc
      have h3 := hH.at_ c kk h2
      exact ⟨h3.1, h3.2.mono (fun _ h => h) ag h3.1 rfl⟩
    · exact hH.sep b1 b2 k1 k2 hne (hh _ _ h1).2 (hh _ _ h2).2 hr
    · simp only [φ1] at hB
      split at hB
      · rename_i e; subst e; cases hB; exact ⟨elem, fr, q1⟩
      · exact hH.fz B vs' hB
    · obtain ⟨h1, h2⟩ := hh c kk hc
      simp only [φ1] at hB
      split at hB
      · rename_i e; subst e
        exact hH.sep c b kk k h1 h2 hk hr
      · exact hH.fsep c kk B vs' h2 hr hB
  refine hc D φ1 w D0 φ0 H0 w0 u hD0 hD hv1 hH1 ⟨hS.sub, ⟨hS.agree.at_, fun B vs' hB => ag.fz B vs' (hS.agree.fz B vs' hB)⟩, hH1, hS.frm, fun c kk hc hr => hS.img c kk (hh c kk hc).2 hr, fun B vs' hB => ?_⟩
  simp only [φ1] at hB
  split at hB
  · rename_i e; subst e
    exact .inr (hS.img b k hk hro)
  · exact hS.fnew B vs' hB
/-- An empty slice is a frozen one. -/
theorem CovS.frzN {n0 n n2 : Nat} {v v' v2 : AV} {h h2 : Hp} {l : List AV} (hf : FzV .ns (.fz l 0) v v') (hc : CovS n0 v' h n v2 h2 n2) : CovS n0 v h n v2 h2 n2 := by
  intro D φ w D0 φ0 H0 w0 u hD0 hD hv hH hS
  exact hc D φ w D0 φ0 H0 w0 u hD0 hD (hf D φ u (fun u1 h1 => by cases h1; exact .fz0 _ _ _) hv) hH hS
/-- A slice's length is within its capacity. -/
def Sh.capOK : Sh → Prop
  | .sl _ _ m c => m ≤ c
  | _ => True
/-- An open slice is frozen. -/
theorem CovS.frzS {α : Type} {f : α → List AV} {z : Nat} {l : List α} {s : Sh} {b : Nat} {n0 n n2 : Nat} {v v' v2 : AV} {h h' h2 : Hp} (hs : s.is f z l) (hfr : s.fresh = true) (hcap : s.capOK) (hh0 : hasS h s b) (hf : FzV (s.v b) (.fz (rows f l) l.length) v v')
    (hh : ∀ c kk, hget h' c = some kk → c ≠ b ∧ hget h c = some kk) (hc : CovS n0 v' h' n v2 h2 n2) : CovS n0 v h n v2 h2 n2 := by
  obtain ⟨h1, h2', h3⟩ := hs
  cases s with
  | nil =>
    have h0 : l.length = 0 := h2'.symm
    rw [h0] at hf
    refine CovS.frzN hf ?_
    intro D φ w D0 φ0 H0 w0 u hD0 hD hv hH hS
    exact hc D φ w D0 φ0 H0 w0 u hD0 hD hv (hH.sub fun c kk hc => (hh c kk hc).2) ⟨hS.sub, hS.agree, hH.sub fun c kk hc => (hh c kk hc).2, hS.frm, fun c kk hc hr => hS.img c kk (hh c kk hc).2 hr, hS.fnew⟩
  | sl k o m c =>
    have hm : m = l.length := h2'
    subst hm
    refine CovS.frz (k := k) (o := o) (cs := rows f l) (hh0 b k (by simp [Sh.h, hget])) (by simpa [Sh.fresh] using hfr) (.inl ⟨c, rfl, hcap⟩) (.inr ?_) hf hh hc
    have h3 : cellsAt k.cells o (l.length * z) = rows f l := h3
    rw [← h3, cellsAt, List.length_take]
    exact List.take_eq_take_min
  | sg k o m =>
    have hm : m = l.length := h2'
    subst hm
    refine CovS.frz (k := k) (o := o) (cs := rows f l) (hh0 b k (by simp [Sh.h, hget])) (by simpa [Sh.fresh] using hfr) (.inr rfl) (.inr ?_) hf hh hc
    have h3 : cellsAt k.cells o (l.length * z) = rows f l := h3
    rw [← h3, cellsAt, List.length_take]
    exact List.take_eq_take_min
end Go.Ab
