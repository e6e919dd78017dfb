/- The abstract layer, part 17: the theorem on regions that draw their order. -/
import Derived.Test.YtiacdfhaopnekaaAbDraw
namespace Go.Ab
set_option linter.unusedVariables false
set_option linter.unusedSimpArgs false

theorem djM_spec : ∀ {l : List (Nat × Option Blk)} {rd : List Nat}, djM l rd = true → ∀ b r, mget l b = some r → inl rd b = false
  | [], _, _, b, r, h => by simp [mget] at h
  | (c, k) :: l, rd, hd, b, r, h => by
    simp only [djM, Bool.and_eq_true, Bool.not_eq_true'] at hd
    simp only [mget] at h
    by_cases hc : Nat.beq c b = true
    · have := Nat.eq_of_beq_eq_true hc; subst this; exact hd.1
    · rw [Bool.not_eq_true] at hc
      rw [hc] at h
      exact djM_spec hd.2 b r h

theorem djN_spec : ∀ {l : List (Nat × Blk)} {rd : List Nat}, djN l rd = true → ∀ b r, hget l b = some r → inl rd b = false
  | [], _, _, b, r, h => by simp [hget] at h
  | (c, k) :: l, rd, hd, b, r, h => by
    simp only [djN, Bool.and_eq_true, Bool.not_eq_true'] at hd
    simp only [hget] at h
    by_cases hc : Nat.beq c b = true
    · have := Nat.eq_of_beq_eq_true hc; subst this; exact hd.1
    · rw [Bool.not_eq_true] at hc
      rw [hc] at h
      exact djN_spec hd.2 b r h

theorem subM_spec : ∀ {l : List (Nat × Option Blk)} {rd : List Nat}, subM l rd = true → ∀ b r, mget l b = some r → inl rd b = true
  | [], _, _, b, r, h => by simp [mget] at h
  | (c, k) :: l, rd, hd, b, r, h => by
    simp only [subM, Bool.and_eq_true] at hd
    simp only [mget] at h
    by_cases hc : Nat.beq c b = true
    · have := Nat.eq_of_beq_eq_true hc; subst this; exact hd.1
    · rw [Bool.not_eq_true] at hc
      rw [hc] at h
      exact subM_spec hd.2 b r h

theorem rngN_spec : ∀ {l : List (Nat × Blk)} {n m : Nat}, rngN n m l = true → ∀ b r, hget l b = some r → n ≤ b ∧ b < m
  | [], _, _, _, b, r, h => by simp [hget] at h
  | (c, k) :: l, n, m, hd, b, r, h => by
    simp only [rngN, Bool.and_eq_true, decide_eq_true_eq] at hd
    simp only [hget] at h
    by_cases hc : Nat.beq c b = true
    · have := Nat.eq_of_beq_eq_true hc; subst this; exact hd.1
    · rw [Bool.not_eq_true] at hc
      rw [hc] at h
      exact rngN_spec hd.2 b r h

/-- What an effect says of a block. -/
def upd (E : Eff) (b : Nat) : Option (Option Blk) :=
  match mget E.md b with
  | some r => some r
  | none => (hget E.nw b).map some

theorem app_upd (E : Eff) (H : Hf) (b : Nat) : E.app H b = (upd E b).getD (H b) := by
  unfold Eff.app upd
  cases mget E.md b with
  | some r => rfl
  | none => cases hget E.nw b <;> rfl

/-- The heap behind those of the first m operations that have come up. -/
def HS (H0 : Hf) (T : Nat → Option Eff) (p : Nat → Bool) : Nat → Hf
  | 0 => H0
  | m + 1 => fun b => match p m, T m with
    | true, some E => (upd E b).getD (HS H0 T p m b)
    | _, _ => HS H0 T p m b

section
variable {P : Program} {N n0 : Nat} {cx : Cx}

theorem HR.world {D : Nat → Prop} {φ : Phi} {H : Hf} {w w' : World} (h : HR D φ H w) (hw : w'.heap = w.heap) : HR D φ H w' :=
  ⟨fun b k hb => ⟨(h.at_ b k hb).1, ⟨by rw [hw]; exact (h.at_ b k hb).2.ex, (h.at_ b k hb).2.gid⟩⟩, h.sep⟩

theorem HR.sub {D : Nat → Prop} {φ : Phi} {H H' : Hf} {w : World} (h : HR D φ H w) (hs : ∀ b k, H' b = some k → H b = some k) : HR D φ H' w :=
  ⟨fun b k hb => h.at_ b k (hs b k hb), fun b1 b2 k1 k2 hne h1 h2 hk => h.sep b1 b2 k1 k2 hne (hs _ _ h1) (hs _ _ h2) hk⟩

theorem HS_ext (H0 : Hf) (T : Nat → Option Eff) (p q : Nat → Bool) (b : Nat) : ∀ m, (∀ j E r, j < m → T j = some E → upd E b = some r → p j = q j) → HS H0 T p m b = HS H0 T q m b
  | 0, _ => rfl
  | m + 1, h => by
    have ih := HS_ext H0 T p q b m (fun j E r hj => h j E r (by omega))
    simp only [HS]
    cases hT : T m with
    | none => cases p m <;> cases q m <;> exact ih
    | some E =>
      cases hu : upd E b with
      | none => cases p m <;> cases q m <;> simp [hu, ih]
      | some r =>
        have := h m E r (by omega) hT hu
        rw [this]
        cases q m <;> simp [hu, ih]

theorem HS_stop (H0 : Hf) (T : Nat → Option Eff) (p : Nat → Bool) (b i : Nat) : ∀ m, i ≤ m → (∀ j E r, i ≤ j → j < m → p j = true → T j = some E → upd E b = some r → False) → HS H0 T p m b = HS H0 T p i b
  | 0, hi, _ => by have : i = 0 := by omega
                   subst this; rfl
  | m + 1, hi, h => by
    by_cases him : i = m + 1
    · subst him; rfl
    · have ih := HS_stop H0 T p b i m (by omega) (fun j E r h1 h2 => h j E r h1 (by omega))
      simp only [HS]
      split
      · rename_i E hp hT
        cases hu : upd E b with
        | none => simpa using ih
        | some r => exact (h m E r (by omega) (by omega) hp hT hu).elim
      · exact ih

set_option maxHeartbeats 1000000 in
theorem runD_sound (hcx : Sound P cx) (hm : P.follows .mixedOrders = true) {K : Kont} {D0 : Nat → Prop} {φ0 : Phi} {H0 : Hf} {w0 : World} {ops : Array Oper} {sp : List Nat} {id : Nat} (hn0 : ∀ b, D0 b → b < n0)
    (hgu : guardOK ops.toList = true) (hdst : dstOK N ops.toList = true) (hgl : globOK ops.toList = true) (hdr : drawOK ops = true)
    {e : Env} {h : Hp} {n : Nat} {D : Nat → Prop} {φ : Phi} {a : Act} {w : World} (hn : n0 ≤ n)
    (hrun : runD cx (List.zip (ops.toList.map (compOper P ops.toList sp)) (uns ops)) 0 [] e h n (fun e h n => K .normal e h n)) (hR : Rel D φ e h n N a w) (hS : Stp D0 φ0 H0 w0 D φ (hget h) w) :
    (Code.region id ops true).wp P (fun ex a' w' => PostK N n0 D0 φ0 H0 w0 K ex a' w') a w := by
  obtain ⟨S, T, hS0, hK, hst⟩ := runD_trace _ 0 [] e h n _ (fun _ _ => False) (fun _ _ h => h.elim) hrun
  have hlen : (List.zip (ops.toList.map (compOper P ops.toList sp)) (uns ops)).length = ops.size := by simp [uns]
  rw [hlen] at hK
  -- static facts
  simp only [drawOK, Bool.and_eq_true] at hdr
  obtain ⟨htm, hed⟩ := hdr
  have hgeq : ∀ o, (compOper P ops.toList sp o).guard = (compOper P ops.toList [] o).guard := fun o => by
    unfold compOper; split
    · rfl
    · split <;> rfl
  have hdeq : ∀ o, (compOper P ops.toList sp o).dst = o.dst := fun o => by
    unfold compOper; split
    · rfl
    · split <;> rfl
  have hog : ∀ o ∈ ops.toList, ∀ j c, o.guard = some (j, c) → ((ops.toList[j]?).bind (·.dst)).isSome = true := fun o ho j c hg => by
    have := List.all_eq_true.1 hgu o ho; simpa [hg] using this
  have hopeq : ∀ o ∈ ops.toList, (compOper P ops.toList sp o).op = compOp P o.op := fun o ho => by
    unfold compOper; split
    · rfl
    · rename_i j c hg
      obtain ⟨d, hd⟩ := Option.isSome_iff_exists.1 (hog o ho j c hg)
      rw [hd]
  have hdN : ∀ o ∈ ops.toList, ∀ t, o.dst = some t → t < N := fun o ho t ht => by
    have := List.all_eq_true.1 hdst o ho; rw [ht] at this; exact of_decide_eq_true this
  have hmem : ∀ i o, ops[i]? = some o → o ∈ ops.toList := fun i o ho => by
    exact List.mem_of_getElem? (i := i) (by simpa using ho)
  have hun : ∀ i j, i < ops.size → j < i → ((Region.before ops).getD i 0).testBit j = false → inl ((uns ops).getD i []) j = true := fun i j hi hj hb => by
    have : (uns ops).getD i [] = (List.range i).filter fun j => !((Region.before ops).getD i 0).testBit j := by
      simp [uns, List.getD_eq_getElem?_getD, hi]
    rw [this]
    have hin : j ∈ (List.range i).filter fun j => !((Region.before ops).getD i 0).testBit j := by
      rw [List.mem_filter]; exact ⟨List.mem_range.2 hj, by rw [hb]; rfl⟩
    revert hin
    generalize (List.range i).filter (fun j => !((Region.before ops).getD i 0).testBit j) = l
    intro hin
    induction l with
    | nil => cases hin
    | cons x l ih =>
      simp only [inl, Bool.or_eq_true]
      rcases List.mem_cons.1 hin with rfl | hin
      · left; simp
      · right; exact ih hin
  have hstep : ∀ i o, ops[i]? = some o → StepOK cx (compOper P ops.toList sp o) ((uns ops).getD i []) (S i) (S (i + 1)) (T i) (fun j Ej => j < i ∧ T j = some Ej) := fun i o ho => by
    have hi : i < ops.size := (Array.getElem?_eq_some_iff.1 ho).1
    have hz : (List.zip (ops.toList.map (compOper P ops.toList sp)) (uns ops))[i]? = some (compOper P ops.toList sp o, (uns ops).getD i []) := by
      rw [List.getElem?_zip_eq_some]
      refine ⟨by simp; exact ⟨o, by simpa using ho, rfl⟩, ?_⟩
      rw [List.getD_eq_getElem?_getD, List.getElem?_eq_getElem (by simp [uns]; exact hi)]; rfl
    rcases hst i _ _ hz with h1 | ⟨E, h1, h2, h3, h4, h5, h6⟩
    · exact .inl h1
    · exact .inr ⟨E, h1, h2, h3, h4, h5, fun j Ej hj hu => h6 j Ej (.inr ⟨j, hj.1, by omega, hj.2⟩) hu⟩
  have hdd : ∀ i j oi oj t, ops[i]? = some oi → ops[j]? = some oj → oj.dst = some t → (i = j ∨ oi.dst ≠ some t) ∧ ((looksOf ops.toList oi).contains t = true → (j < i ∧ ((Region.before ops).getD i 0).testBit j = true) ∨ (i < j ∧ ((Region.before ops).getD j 0).testBit i = true)) := fun i j oi oj t hi hj ht => by
    have hli := (Array.getElem?_eq_some_iff.1 hi).1
    have hlj := (Array.getElem?_eq_some_iff.1 hj).1
    have h1 := List.all_eq_true.1 htm i (List.mem_range.2 hli)
    have h2 := List.all_eq_true.1 h1 j (List.mem_range.2 hlj)
    simp only [hi, hj, ht, Bool.and_eq_true, Bool.or_eq_true, beq_iff_eq, bne_iff_ne, ne_eq, Bool.not_eq_true', decide_eq_true_eq] at h2
    refine ⟨h2.1, fun hc => ?_⟩
    rcases h2.2 with (h3 | h3) | h3
    · rw [hc] at h3; cases h3
    · exact .inl h3
    · exact .inr h3
  -- numbers grow
  have hnle : ∀ i, i < ops.size → (S i).2.2 ≤ (S (i + 1)).2.2 := fun i hi => by
    rcases hstep i ops[i] (by simp [hi]) with ⟨_, _, h3⟩ | ⟨E, _, _, _, h4, h5, _⟩
    · rw [h3]; exact Nat.le_refl _
    · rw [h5]; simp only [effOK, Bool.and_eq_true, decide_eq_true_eq] at h4; exact h4.1.1.1
  have hnmono : ∀ j i, i ≤ j → j ≤ ops.size → (S i).2.2 ≤ (S j).2.2 := fun j => by
    induction j with
    | zero => intro i hi _; have : i = 0 := by omega
              subst this; exact Nat.le_refl _
    | succ j ih =>
      intro i hi hj
      by_cases hij : i = j + 1
      · subst hij; exact Nat.le_refl _
      · exact Nat.le_trans (ih i (by omega) (by omega)) (hnle j (by omega))
  have hn00 : (S 0).2.2 = n := by rw [hS0]
  -- the text's states
  have htext : ∀ m, m ≤ ops.size → hget (S m).2.1 = HS (hget h) T (fun _ => true) m := fun m => by
    induction m with
    | zero => intro _; rw [hS0]; rfl
    | succ m ih =>
      intro hm
      rcases hstep m ops[m] (by simp) with ⟨h1, _, h3⟩ | ⟨E, h1, _, _, _, h5, _⟩
      · rw [h3]; simp only [HS, h1]; rw [← ih (by omega)]
      · rw [h5]; simp only [HS, h1]; rw [appL_app, ih (by omega)]; funext b; exact app_upd _ _ _
  have heff : ∀ i E, i < ops.size → T i = some E → effOK (S i).2.1 (S i).2.2 E = true ∧ (S (i + 1)).2.2 = E.n := fun i E hi hT => by
    rcases hstep i ops[i] (by simp [hi]) with ⟨h1, _, _⟩ | ⟨E', h1, _, _, h4, h5, _⟩
    · rw [hT] at h1; cases h1
    · rw [hT] at h1; cases h1; exact ⟨h4, by rw [h5]⟩
  have hnew : ∀ i E b k, i < ops.size → T i = some E → hget E.nw b = some k → (S i).2.2 ≤ b ∧ b < (S (i + 1)).2.2 := fun i E b k hi hT hb => by
    obtain ⟨h1, h2⟩ := heff i E hi hT
    simp only [effOK, Bool.and_eq_true] at h1
    rw [h2]; exact rngN_spec h1.1.2 b k hb
  have hsub : ∀ i E b r, i < ops.size → T i = some E → mget E.md b = some r → inl E.rd b = true := fun i E b r hi hT hb => by
    obtain ⟨h1, h2⟩ := heff i E hi hT
    simp only [effOK, Bool.and_eq_true] at h1
    exact subM_spec h1.1.1.2 b r hb
  have hhas : ∀ i E b r, i < ops.size → T i = some E → mget E.md b = some r → ∃ k, hget (S i).2.1 b = some k := fun i E b r hi hT hb => by
    obtain ⟨h1, h2⟩ := heff i E hi hT
    simp only [effOK, Bool.and_eq_true] at h1
    have h3 := h1.2
    revert h3 hb
    generalize E.md = l
    intro hb h3
    induction l with
    | nil => simp [mget] at hb
    | cons x l ih =>
      obtain ⟨c, k⟩ := x
      simp only [hasM, Bool.and_eq_true] at h3
      simp only [mget] at hb
      by_cases hc : Nat.beq c b = true
      · have := Nat.eq_of_beq_eq_true hc; subst this; exact Option.isSome_iff_exists.1 h3.1
      · rw [Bool.not_eq_true] at hc; rw [hc] at hb; exact ih hb h3.2
  -- names in the text's heaps are below the number
  have hbelow : ∀ m, m ≤ ops.size → ∀ b k, hget (S m).2.1 b = some k → b < (S m).2.2 := fun m => by
    induction m with
    | zero => intro _ b k hb; rw [hS0] at hb ⊢; exact hR.lt b (hR.heap.at_ b k hb).1
    | succ m ih =>
      intro hm b k hb
      rcases hstep m ops[m] (by simp) with ⟨_, _, h3⟩ | ⟨E, h1, _, _, _, h5, _⟩
      · rw [h3] at hb ⊢; exact ih (by omega) b k hb
      · have hle := hnle m (by omega)
        rw [h5] at hb
        rw [appL_app, app_upd] at hb
        cases hu : upd E b with
        | none => rw [hu] at hb; exact Nat.lt_of_lt_of_le (ih (by omega) b k hb) hle
        | some r =>
          unfold upd at hu
          cases hmd : mget E.md b with
          | some r' =>
            obtain ⟨k', hk'⟩ := hhas m E b r' (by omega) h1 hmd
            exact Nat.lt_of_lt_of_le (ih (by omega) b k' hk') hle
          | none =>
            rw [hmd] at hu
            obtain ⟨k', hk', _⟩ := Option.map_eq_some_iff.1 hu
            exact (hnew m E b k' (by omega) h1 hk').2
  -- the text's environments
  have henv : ∀ m, m ≤ ops.size → ∀ t, (∀ j o, j < m → ops[j]? = some o → o.dst = some t → eget (S m).1 t = some (match T j with | some E => E.v | none => .tup [])) ∧
      ((∀ j o, j < m → ops[j]? = some o → o.dst ≠ some t) → eget (S m).1 t = eget e t) := fun m => by
    induction m with
    | zero => intro _ t; exact ⟨fun j o hj => by omega, fun _ => by rw [hS0]⟩
    | succ m ih =>
      intro hm t
      have hmlt : m < ops.size := by omega
      have hom : ops[m]? = some ops[m] := by simp [hmlt]
      obtain ⟨v, hv1, hv2⟩ : ∃ v, (S (m + 1)).1 = eput (compOper P ops.toList sp ops[m]).dst v (S m).1 ∧ v = (match T m with | some E => E.v | none => .tup []) := by
        rcases hstep m ops[m] hom with ⟨h1, _, h3⟩ | ⟨E, h1, _, _, _, h5, _⟩
        · exact ⟨_, by rw [h3], by rw [h1]⟩
        · exact ⟨_, by rw [h5], by rw [h1]⟩
      rw [hdeq] at hv1
      have hput : ∀ t, eget (eput ops[m].dst v (S m).1) t = if ops[m].dst = some t then some v else eget (S m).1 t := fun t => by
        cases hd : ops[m].dst with
        | none => simp [eput]
        | some s =>
          simp only [eput, eget]
          by_cases hs : t = s
          · subst hs; simp
          · rw [beq_ne hs]; simp [show ¬ s = t from fun e => hs e.symm]
      rw [hv1, hput]
      refine ⟨fun j o hj ho hd => ?_, fun hno => ?_⟩
      · by_cases hjm : j = m
        · subst hjm
          rw [hom] at ho; cases ho
          rw [if_pos hd, hv2]
        · have hne : ops[m].dst ≠ some t := ((hdd m j _ _ t hom ho hd).1).resolve_left (fun e => hjm e.symm)
          rw [if_neg hne]
          exact (ih (by omega) t).1 j o (by omega) ho hd
      · rw [if_neg (hno m _ (by omega) hom)]
        exact (ih (by omega) t).2 (fun j o hj => hno j o (by omega))
  -- the invariant
  let pl : Array Bool → Nat → Bool := fun listed j => listed.getD j false
  let DS : Array Bool → Nat → Prop := fun listed b => D b ∨ ∃ j, j < ops.size ∧ listed.getD j false = true ∧ (S j).2.2 ≤ b ∧ b < (S (j + 1)).2.2
  let V : Nat → AV := fun j => match T j with | some E => E.v | none => .tup []
  let Inv : Array Bool → Act → World → Prop := fun listed a' w' => listed.size = ops.size ∧ Cl ops listed ∧ a'.tmps.size = N ∧ a'.defers = [] ∧ ∃ φ',
    (∀ j o t, ops[j]? = some o → listed.getD j false = true → o.dst = some t → VRel (DS listed) φ' (V j) (a'.tmps.getD t undef)) ∧
    (∀ t v, (∀ j o, ops[j]? = some o → listed.getD j false = true → o.dst ≠ some t) → eget e t = some v → VRel (DS listed) φ' v (a'.tmps.getD t undef)) ∧
    Stp D φ (hget h) w (DS listed) φ' (HS (hget h) T (pl listed) ops.size) w'
  have hone : ∀ listed a' w' i, Inv listed a' w' → i ∈ Region.ready .any ops listed → wpOp P ops (fun ex a' w' => PostK N n0 D0 φ0 H0 w0 K ex a' w') i (fun a'' w'' => Inv (listed.setIfInBounds i true) a'' w'') a' w' := by
    intro listed a' w' i hI hr
    obtain ⟨hsz, hcl, hN, hdef, φ', hE1, hE2, hStp⟩ := hI
    obtain ⟨hun_i, o, ho, hall⟩ := mem_ready.1 hr
    have hi : i < ops.size := (Array.getElem?_eq_some_iff.1 ho).1
    have hpre : ∀ ed ∈ o.after.toList, Region.binds .any ed = true → listed.getD ed.on false = true := fun ed hed hb => hall ed (by simpa using hed) hb
    have hul : listed.getD i false = false := by
      have : i < listed.size := by omega
      simp [Array.getD, this] at hun_i ⊢
      exact hun_i
    have hanc : ∀ j, ((Region.before ops).getD i 0).testBit j = true → listed.getD j false = true := before_listed hcl hsz i o ho hpre
    have hdesc : ∀ j, listed.getD j false = true → ((Region.before ops).getD j 0).testBit i = true → False := fun j hj hb => by
      have hj' : j < ops.size := by
        rcases Nat.lt_or_ge j listed.size with h' | h'
        · omega
        · simp [Array.getD_eq_getD_getElem?, Array.getElem?_eq_none h'] at hj
      have := before_listed hcl hsz j ops[j] (by simp [hj']) (hcl j _ hj (by simp [hj'])) i hb
      rw [hul] at this; cases this
    -- the new row of marks
    have hnl : ∀ j, (listed.setIfInBounds i true).getD j false = if j = i then true else listed.getD j false := fun j => by
      by_cases hji : j = i
      · subst hji; simp [show j < listed.size by omega]
      · rw [getD_set_ne false (Ne.symm hji), if_neg hji]
    have hcl' : Cl ops (listed.setIfInBounds i true) := fun j o' hj ho' ed hed hb => by
      rw [hnl] at hj ⊢
      by_cases hji : j = i
      · subst hji
        rw [ho] at ho'; cases ho'
        split
        · rfl
        · exact hpre ed hed hb
      · rw [if_neg hji] at hj
        split
        · rfl
        · exact hcl j o' hj ho' ed hed hb
    have hlook : ∀ t v, (looksOf ops.toList o).contains t = true → eget (S i).1 t = some v → VRel (DS listed) φ' v (a'.tmps.getD t undef) := fun t v ht hv => by
      by_cases hex : ∃ (j : Nat) (oj : Oper), ops[j]? = some oj ∧ oj.dst = some t
      · obtain ⟨j, oj, hoj, hd⟩ := hex
        rcases (hdd i j o oj t ho hoj hd).2 ht with ⟨hji, hb⟩ | ⟨hij, hb⟩
        · have h1 := (henv i (by omega) t).1 j oj hji hoj hd
          rw [h1] at hv; cases hv
          exact hE1 j oj t hoj (hanc j hb) hd
        · have h1 := (henv i (by omega) t).2 (fun j' o' hj' ho' hd' => by
            rcases (hdd j' j o' oj t ho' hoj hd).1 with h2 | h2
            · omega
            · exact h2 hd')
          rw [h1] at hv
          refine hE2 t v (fun j' o' ho' hl' hd' => ?_) hv
          rcases (hdd j' j o' oj t ho' hoj hd).1 with h2 | h2
          · subst h2; exact hdesc j' hl' hb
          · exact h2 hd'
      · have h1 := (henv i (by omega) t).2 (fun j' o' hj' ho' hd' => hex ⟨j', o', ho', hd'⟩)
        rw [h1] at hv
        exact hE2 t v (fun j' o' ho' hl' hd' => hex ⟨j', o', ho', hd'⟩) hv
    -- wanted
    have hw : ∀ b, wantedI (S i).1 (compOper P ops.toList sp o).guard = some b → Region.wanted o (yielded ops a'.tmps) = b := fun b hb => by
      refine wanted_rel (P := P) (o := o) (D := DS listed) (φ := φ') (a := a') (fun d c v hg hv => hlook d v ?_ hv) (hgeq o) (hog o (hmem i o ho)) hb
      unfold looksOf
      rw [hgeq] at hg
      cases hoguard : o.guard with
      | none => simp [compOper, hoguard] at hg
      | some q =>
        obtain ⟨j, c'⟩ := q
        obtain ⟨d', hd'⟩ := Option.isSome_iff_exists.1 (hog o (hmem i o ho) j c' hoguard)
        simp only [compOper, hoguard, hd', Option.some.injEq, Prod.mk.injEq] at hg
        obtain ⟨rfl, rfl⟩ := hg
        simp only [hd']
        simp
    have hDSsub : ∀ b, DS listed b → DS (listed.setIfInBounds i true) b := fun b hb => hb.imp _root_.id (fun ⟨j, h1, h2, h3⟩ => ⟨j, h1, by rw [hnl]; split <;> simp_all, h3⟩)
    -- the new temporaries
    have hE : ∀ (u : Value) (φ2 : Phi), VRel (DS (listed.setIfInBounds i true)) φ2 (V i) u → Agree (DS listed) φ' φ2 →
        (∀ j o' t, ops[j]? = some o' → (listed.setIfInBounds i true).getD j false = true → o'.dst = some t → VRel (DS (listed.setIfInBounds i true)) φ2 (V j) ((a'.put o.dst u).tmps.getD t undef)) ∧
        (∀ t v, (∀ j o', ops[j]? = some o' → (listed.setIfInBounds i true).getD j false = true → o'.dst ≠ some t) → eget e t = some v → VRel (DS (listed.setIfInBounds i true)) φ2 v ((a'.put o.dst u).tmps.getD t undef)) := fun u φ2 hu hag => by
      refine ⟨fun j o' t ho' hl hd => ?_, fun t v hno hv => ?_⟩
      · rw [hnl] at hl
        by_cases hji : j = i
        · subst hji
          rw [ho] at ho'; cases ho'
          rw [hd, put_getD_self (by rw [hN]; exact hdN o (hmem j o ho) t hd)]
          exact hu
        · rw [if_neg hji] at hl
          have hne : o.dst ≠ some t := ((hdd i j o o' t ho ho' hd).1).resolve_left (fun e => hji e.symm)
          rw [put_getD hne]
          exact (hE1 j o' t ho' hl hd).mono hDSsub hag
      · have hne : o.dst ≠ some t := hno i o ho (by rw [hnl]; simp)
        rw [put_getD hne]
        exact (hE2 t v (fun j o' ho' hl => hno j o' ho' (by rw [hnl]; split <;> simp_all)) hv).mono hDSsub hag
    unfold wpOp
    rw [ho]
    simp only
    rcases hstep i o ho with ⟨hT, hwi, hSn⟩ | ⟨E, hT, hwi, hsc, heo, hSn, hpair⟩
    · -- passed over
      rw [hw false hwi]
      simp only [Bool.false_eq_true, if_false]
      have hV : V i = .tup [] := by simp [V, hT]
      obtain ⟨g1, g2⟩ := hE undef φ' (by rw [hV]; exact und_rel) (Agree.refl _ _)
      refine ⟨by simp [hsz], hcl', by rw [put_size]; exact hN, by rw [put_defers]; exact hdef, φ', g1, g2, ?_⟩
      have hHS : HS (hget h) T (pl (listed.setIfInBounds i true)) ops.size = HS (hget h) T (pl listed) ops.size := by
        funext b
        refine HS_ext _ _ _ _ b ops.size (fun j E r hj hTj hu => ?_)
        show (listed.setIfInBounds i true).getD j false = listed.getD j false
        rw [hnl]
        split
        · rename_i hji; subst hji; rw [hT] at hTj; cases hTj
        · rfl
      rw [hHS]
      refine ⟨fun b hb => hDSsub b (hStp.sub b hb), hStp.agree, ⟨fun b k hb => ?_, hStp.hr.sep⟩, hStp.frm, hStp.img⟩
      have h1 := hStp.hr.at_ b k hb
      exact ⟨hDSsub b h1.1, h1.2.mono hDSsub (Agree.refl _ _) h1.1 rfl⟩
    · -- carried out
      rw [hw true hwi]
      simp only [if_true]
      left
      have hni : (S (i + 1)).2.2 = E.n := by rw [hSn]
      have hfresh : ∀ b, (S i).2.2 ≤ b → b < E.n → ¬ DS listed b := fun b hb1 hb2 hD => by
        rcases hD with hD | ⟨j, hj, hl, h1, h2⟩
        · have := hR.lt b hD
          have := hnmono i 0 (by omega) (by omega)
          omega
        · by_cases hji : j = i
          · subst hji; rw [hul] at hl; cases hl
          · rcases Nat.lt_or_ge j i with h3 | h3
            · have := hnmono i (j + 1) (by omega) (by omega); omega
            · have := hnmono j (i + 1) (by omega) (by omega); omega
      -- what is looked at is as in the text
      have hpairs : ∀ j Ej b r, j < ops.size → j ≠ i → listed.getD j false = true → T j = some Ej → upd Ej b = some r → inl E.rd b = true → i < j → (S i).2.2 ≤ b → False ∨ True := fun _ _ _ _ _ _ _ _ _ _ _ _ => .inr trivial
      have hAfter : ∀ j Ej b r k, i < j → j < ops.size → listed.getD j false = true → T j = some Ej → upd Ej b = some r → inl E.rd b = true → hget (S i).2.1 b = some k → False := fun j Ej b r k hij hj hl hTj hu hrd hk => by
        have hnb : ((Region.before ops).getD j 0).testBit i = false := by
          cases hb : ((Region.before ops).getD j 0).testBit i
          · rfl
          · exact (hdesc j hl hb).elim
        rcases hstep j ops[j] (by simp [hj]) with ⟨h1, _, _⟩ | ⟨Ej', h1, _, _, _, _, h6⟩
        · rw [hTj] at h1; cases h1
        · rw [hTj] at h1; cases h1
          have hp := h6 i E ⟨hij, hT⟩ (hun j i hj hij hnb)
          simp only [okPair, Bool.and_eq_true] at hp
          unfold upd at hu
          cases hmd : mget Ej.md b with
          | some r' => have := djM_spec hp.1.2 b r' hmd; rw [hrd] at this; cases this
          | none =>
            rw [hmd] at hu
            obtain ⟨k', hk', _⟩ := Option.map_eq_some_iff.1 hu
            have h7 := hnew j Ej b k' hj hTj hk'
            have h8 := hbelow i (by omega) b k hk
            have := hnmono j i (by omega) (by omega)
            omega
      have hBefore : ∀ j Ej b r, j < i → T j = some Ej → upd Ej b = some r → inl E.rd b = true → listed.getD j false = true := fun j Ej b r hji hTj hu hrd => by
        cases hb : ((Region.before ops).getD i 0).testBit j
        · exfalso
          have hp := hpair j Ej ⟨hji, hTj⟩ (hun i j hi hji hb)
          simp only [okPair, Bool.and_eq_true] at hp
          unfold upd at hu
          cases hmd : mget Ej.md b with
          | some r' => have := djM_spec hp.1.1 b r' hmd; rw [hrd] at this; cases this
          | none =>
            rw [hmd] at hu
            obtain ⟨k', hk', _⟩ := Option.map_eq_some_iff.1 hu
            have := djN_spec hp.2 b k' hk'; rw [hrd] at this; cases this
        · exact hanc j hb
      have hA : ∀ b k, only (hget (S i).2.1) E.rd b = some k → HS (hget h) T (pl listed) ops.size b = some k := fun b k hb => by
        unfold only at hb
        cases hrd : inl E.rd b
        · simp [hrd] at hb
        · simp only [hrd, cond_true] at hb
          rw [HS_stop (hget h) T (pl listed) b i ops.size (by omega) (fun j Ej r hij hj hl hTj hu => by
            by_cases hji : j = i
            · subst hji; have : listed.getD j false = true := hl
              rw [hul] at this; cases this
            · exact hAfter j Ej b r k (by omega) hj hl hTj hu hrd hb)]
          rw [HS_ext (hget h) T (pl listed) (fun _ => true) b i (fun j Ej r hji hTj hu => hBefore j Ej b r hji hTj hu hrd), ← htext i (by omega)]
          exact hb
      have hHR := hStp.hr.sub hA
      refine op_wp hcx (by rw [← hopeq o (hmem i o ho)]; exact hsc) hfresh (fun y hy x hx v hv => ?_) hHR (fun φ2 u w2 hle hv hst hro hmd hnw => ?_)
      · refine opd_rel (fun t v ht hv => hlook t v ?_ hv) hx (fun g hg => ?_) hv
        · unfold looksOf
          have : Operand.tmp t ∈ o.op.operands.toList := by rw [← ht]; exact hy
          simp only [List.contains_eq_mem, List.mem_append, List.mem_filterMap, decide_eq_true_eq]
          left
          exact ⟨_, this, rfl⟩
        · have := List.all_eq_true.1 hgl o (hmem i o ho)
          rw [Array.all_eq_true_iff_forall_mem] at this
          have := this y (by simpa using hy)
          rw [hg] at this
          simp at this
      · -- the new state
        have hfull := lift_frame hStp.hr hA hmd hst hro (fun _ _ _ _ _ => .inr trivial)
        have hDSeq : ∀ b, Dn (DS listed) (S i).2.2 E.n b ↔ DS (listed.setIfInBounds i true) b := fun b => by
          constructor
          · rintro (hb | ⟨h1, h2⟩)
            · exact hDSsub b hb
            · exact .inr ⟨i, hi, by rw [hnl]; simp, h1, by rw [hni]; exact h2⟩
          · rintro (hb | ⟨j, hj, hl, h1, h2⟩)
            · exact .inl (.inl hb)
            · rw [hnl] at hl
              by_cases hji : j = i
              · subst hji; rw [hni] at h2; exact .inr ⟨h1, h2⟩
              · rw [if_neg hji] at hl; exact .inl (.inr ⟨j, hj, hl, h1, h2⟩)
        have hDSe : Dn (DS listed) (S i).2.2 E.n = DS (listed.setIfInBounds i true) := by funext b; exact propext (hDSeq b)
        rw [hDSe] at hfull hv
        have hHS : E.app (HS (hget h) T (pl listed) ops.size) = HS (hget h) T (pl (listed.setIfInBounds i true)) ops.size := by
          funext b
          rw [app_upd]
          have hsame : ∀ j, j ≠ i → pl (listed.setIfInBounds i true) j = pl listed j := fun j hji => by
            show (listed.setIfInBounds i true).getD j false = listed.getD j false
            rw [hnl, if_neg hji]
          cases hu : upd E b with
          | none =>
            simp only [Option.getD_none]
            refine HS_ext _ _ _ _ b ops.size (fun j Ej r hj hTj huj => ?_)
            by_cases hji : j = i
            · subst hji; rw [hT] at hTj; cases hTj; rw [hu] at huj; cases huj
            · exact (hsame j hji).symm
          | some r =>
            simp only [Option.getD_some]
            rw [HS_stop (hget h) T (pl (listed.setIfInBounds i true)) b (i + 1) ops.size (by omega) (fun j Ej rj hij hj hl hTj huj => by
              have hl' : listed.getD j false = true := by
                have := hsame j (by omega)
                have hl2 : pl listed j = true := by rw [← this]; exact hl
                exact hl2
              unfold upd at hu
              cases hmd' : mget E.md b with
              | some r' =>
                obtain ⟨k, hk⟩ := hhas i E b r' hi hT hmd'
                exact hAfter j Ej b rj k (by omega) hj hl' hTj huj (hsub i E b r' hi hT hmd') hk
              | none =>
                rw [hmd'] at hu
                obtain ⟨k', hk', _⟩ := Option.map_eq_some_iff.1 hu
                have hrng := hnew i E b k' hi hT hk'
                unfold upd at huj
                cases hmdj : mget Ej.md b with
                | some r' =>
                  have hrdj := hsub j Ej b r' hj hTj hmdj
                  have hnb : ((Region.before ops).getD j 0).testBit i = false := by
                    cases hb : ((Region.before ops).getD j 0).testBit i
                    · rfl
                    · exact (hdesc j hl' hb).elim
                  rcases hstep j ops[j] (by simp [hj]) with ⟨h1, _, _⟩ | ⟨Ej', h1, _, _, _, _, h6⟩
                  · rw [hTj] at h1; cases h1
                  · rw [hTj] at h1; cases h1
                    have hp := h6 i E ⟨by omega, hT⟩ (hun j i hj (by omega) hnb)
                    simp only [okPair, Bool.and_eq_true] at hp
                    have := djN_spec hp.2 b k' hk'
                    rw [hrdj] at this; cases this
                | none =>
                  rw [hmdj] at huj
                  obtain ⟨k2, hk2, _⟩ := Option.map_eq_some_iff.1 huj
                  have h7 := hnew j Ej b k2 hj hTj hk2
                  have := hnmono j (i + 1) (by omega) (by omega)
                  omega)]
            simp only [HS]
            have hpi : pl (listed.setIfInBounds i true) i = true := by
              show (listed.setIfInBounds i true).getD i false = true
              rw [hnl]; simp
            rw [hpi, hT]
            simp [hu]
        rw [hHS] at hfull
        have hV : V i = E.v := by simp [V, hT]
        obtain ⟨g1, g2⟩ := hE u φ2 (by rw [hV]; exact hv) hfull.agree
        exact ⟨by simp [hsz], hcl', by rw [put_size]; exact hN, by rw [put_defers]; exact hdef, φ2, g1, g2, hStp.trans hfull⟩
  -- the end
  have hend : ∀ listed a' w', Inv listed a' w' → (∀ i, i < ops.size → listed.getD i false = true) → PostK N n0 D0 φ0 H0 w0 K .normal a' w' := by
    intro listed a' w' hI hall
    obtain ⟨hsz, hcl, hN, hdef, φ', hE1, hE2, hStp⟩ := hI
    have hHS : HS (hget h) T (pl listed) ops.size = hget (S ops.size).2.1 := by
      rw [htext ops.size (Nat.le_refl _)]
      funext b
      exact HS_ext _ _ _ _ b ops.size (fun j Ej r hj _ _ => hall j hj)
    rw [hHS] at hStp
    have hnn : n ≤ (S ops.size).2.2 := by rw [← hn00]; exact hnmono ops.size 0 (by omega) (by omega)
    refine ⟨DS listed, φ', (S ops.size).1, (S ops.size).2.1, (S ops.size).2.2, hK, by omega, ⟨fun b hb => ?_, fun t v hv => ?_, hStp.hr, hN, hdef⟩, hS.trans hStp⟩
    · rcases hb with hb | ⟨j, hj, _, _, h2⟩
      · have := hR.lt b hb; omega
      · have := hnmono ops.size (j + 1) (by omega) (by omega); omega
    · by_cases hex : ∃ (j : Nat) (oj : Oper), ops[j]? = some oj ∧ oj.dst = some t
      · obtain ⟨j, oj, hoj, hd⟩ := hex
        have hj := (Array.getElem?_eq_some_iff.1 hoj).1
        have h1 := (henv ops.size (Nat.le_refl _) t).1 j oj hj hoj hd
        rw [h1] at hv; cases hv
        exact hE1 j oj t hoj (hall j hj) hd
      · have h1 := (henv ops.size (Nat.le_refl _) t).2 (fun j' o' hj' ho' hd' => hex ⟨j', o', ho', hd'⟩)
        rw [h1] at hv
        exact hE2 t v (fun j' o' ho' hl' hd' => hex ⟨j', o', ho', hd'⟩) hv
  have hready : ∀ listed a' w', Inv listed a' w' → Region.ready .any ops listed = [] → ∀ i, i < ops.size → listed.getD i false = true := by
    intro listed a' w' hI hnil i
    induction i using Nat.strongRecOn with
    | _ i ih =>
      intro hi
      cases hl : listed.getD i false
      · exfalso
        have hsz := hI.1
        have : i ∈ Region.ready .any ops listed := mem_ready.2 ⟨by
          have : i < listed.size := by omega
          simp [Array.getD, this] at hl ⊢; exact hl, ops[i], by simp [hi], fun ed hed' hb => by
            have h1 := List.all_eq_true.1 hed i (List.mem_range.2 hi)
            simp only [Array.getElem?_eq_getElem hi, Array.all_eq_true_iff_forall_mem] at h1
            have h2 := h1 ed hed'
            rw [hb] at h2
            simp at h2
            exact ih ed.on h2 (by omega)⟩
        rw [hnil] at this; cases this
      · rfl
  -- the count
  have hloop : ∀ (fuel : Nat) (listed : Array Bool) (a' : Act) (w' : World), Inv listed a' w' → ((List.range ops.size).filter (fun i => !listed.getD i false)).length ≤ fuel →
      wpAny P .any ops (fun ex a' w' => PostK N n0 D0 φ0 H0 w0 K ex a' w') fuel listed a' w' := by
    intro fuel
    induction fuel with
    | zero =>
      intro listed a' w' hI hc
      have hall : ∀ i, i < ops.size → listed.getD i false = true := fun i hi => by
        cases hl : listed.getD i false
        · exfalso
          have : i ∈ (List.range ops.size).filter (fun i => !listed.getD i false) := by rw [List.mem_filter]; exact ⟨List.mem_range.2 hi, by simp [hl]⟩
          have := List.length_pos_of_mem this
          omega
        · rfl
      refine ⟨?_, hend listed a' w' hI hall⟩
      cases hr : Region.ready .any ops listed with
      | nil => rfl
      | cons x l =>
        exfalso
        have hx : x ∈ Region.ready .any ops listed := by rw [hr]; exact List.mem_cons_self
        obtain ⟨h1, o, ho, _⟩ := mem_ready.1 hx
        have hlt := (Array.getElem?_eq_some_iff.1 ho).1
        have h2 := hall x hlt
        have hsz := hI.1
        have : x < listed.size := by omega
        simp [Array.getD, this] at h1 h2
        rw [h1] at h2; cases h2
    | succ fuel ih =>
      intro listed a' w' hI hc
      refine ⟨fun hnil => hend listed a' w' hI (hready listed a' w' hI hnil), fun i hi => ?_⟩
      refine wpOp_mono (fun a'' w'' hI' => ih _ a'' w'' hI' ?_) (hone listed a' w' i hI hi)
      -- one fewer
      obtain ⟨h1, o, ho, _⟩ := mem_ready.1 hi
      have hlt := (Array.getElem?_eq_some_iff.1 ho).1
      have hsz := hI.1
      have hcount : ∀ m, ((List.range m).filter (fun j => !(listed.setIfInBounds i true).getD j false)).length + (if i < m then 1 else 0) ≤ ((List.range m).filter (fun j => !listed.getD j false)).length := fun m => by
        induction m with
        | zero => simp
        | succ m ihm =>
          rw [List.range_succ, List.filter_append, List.filter_append, List.length_append, List.length_append]
          by_cases him : i = m
          · subst him
            have e1 : (listed.setIfInBounds i true).getD i false = true := by simp [show i < listed.size by omega]
            have e2 : listed.getD i false = false := by
              have : i < listed.size := by omega
              simp [Array.getD, this] at h1 ⊢; exact h1
            simp only [List.filter_cons, List.filter_nil, e1, e2, Bool.not_true, Bool.not_false, if_true, Bool.false_eq_true, if_false, List.length_nil, List.length_cons] at *
            simp at ihm ⊢
            omega
          · have e1 : (listed.setIfInBounds i true).getD m false = listed.getD m false := getD_set_ne false him
            simp only [List.filter_cons, List.filter_nil, e1]
            have : (if i < m + 1 then 1 else 0) = (if i < m then 1 else 0 : Nat) := by
              by_cases hh : i < m
              · simp [hh, show i < m + 1 by omega]
              · simp [hh, show ¬ i < m + 1 by omega]
            rw [this]
            omega
      have := hcount ops.size
      rw [if_pos hlt] at this
      omega
  refine wp_region_any hm (hloop ops.size _ a _ ?_ (by
    refine Nat.le_trans (List.length_filter_le _ _) (by simp)))
  have hfalse : ∀ j, (Array.replicate ops.size false).getD j false = false := fun j => by
    rw [Array.getD_eq_getD_getElem?]
    cases hj : (Array.replicate ops.size false)[j]? with
    | none => rfl
    | some x =>
      rw [Array.getElem?_replicate] at hj
      split at hj
      · cases hj; rfl
      · cases hj
  have hHS0 : HS (hget h) T (pl (Array.replicate ops.size false)) ops.size = hget h := by
    funext b
    rw [HS_stop (hget h) T _ b 0 ops.size (by omega) (fun j Ej r _ _ hl => by
      have : (Array.replicate ops.size false).getD j false = true := hl
      rw [hfalse] at this; cases this)]
    rfl
  refine ⟨by simp, (fun j o hj => by rw [hfalse] at hj; cases hj), hR.size, hR.defers, φ, (fun j o t _ hj => by rw [hfalse] at hj; cases hj), fun t v _ hv => (hR.env t v hv).mono (fun b hb => .inl hb) (Agree.refl _ _), ?_⟩
  rw [hHS0]
  have hsubD : ∀ b, D b → DS (Array.replicate ops.size false) b := fun b hb => .inl hb
  have hR1 := hR.heap.world (w' := { w with drawn := w.drawn + 1 }) rfl
  exact ⟨hsubD, Agree.refl _ _, ⟨fun b k hb => ⟨hsubD b (hR1.at_ b k hb).1, (hR1.at_ b k hb).2.mono hsubD (Agree.refl _ _) (hR1.at_ b k hb).1 rfl⟩, hR1.sep⟩, ⟨rfl, rfl, rfl, Nat.le_refl _, fun _ _ _ => rfl⟩, fun b k hb hk => .inr ⟨b, k, hb, hk, rfl⟩⟩

end
end Go.Ab
