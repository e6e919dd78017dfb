/- The abstract layer, part 34: laws beside which package variables stand that were laid. -/
import Derived.Test.YthnmkedknannhaaAbOpens
namespace Go.Ab
open Go.ChangeShapes Go.WideShapes Go.RowKit
set_option linter.unusedVariables false

/-- A package variable's block holds these values. -/
def GlobOK (W : World) (x : Nat × List AV) : Prop := ∃ cs elem fr, W.heap[x.1]? = some (.cells cs elem fr) ∧ ∀ (D : Nat → Prop) (φ : Phi) (i : Nat) v, x.2[i]? = some v → ∃ u, cs[i]? = some u ∧ VRel D φ v u

def glH : Nat → List (Nat × List AV) → Hp
  | _, [] => []
  | j, (g, c) :: r => (j, { cells := c, ro := true, gid := some g }) :: glH (j + 1) r

theorem glH_get : ∀ {Gs : List (Nat × List AV)} {j b : Nat} {k : Blk}, hget (glH j Gs) b = some k → j ≤ b ∧ b < j + Gs.length ∧ ∃ g c, Gs[b - j]? = some (g, c) ∧ k = { cells := c, ro := true, gid := some g }
  | [], j, b, k, h => by simp [glH, hget] at h
  | (g, c) :: r, j, b, k, h => by
    simp only [glH, hget] at h
    by_cases hb : b = j
    · subst hb
      simp at h
      exact ⟨Nat.le_refl _, by simp, g, c, by simp, h.symm⟩
    · rw [beq_ne hb] at h
      obtain ⟨h1, h2, g', c', h3, h4⟩ := glH_get h
      refine ⟨by omega, by simp; omega, g', c', ?_, h4⟩
      rw [show b - j = (b - (j + 1)) + 1 by omega]
      simpa using h3

section
variable {H : Type} {enc : TypeId × Value → H} {P : Program} {W : World}

theorem law_callsG {f : FuncId} {Ts : List Ty2} {ts : List TypeId} {args : Array Value} {ds : List (DataW H)} {ps : List MemPlace} {r : Reach} {base n' : Nat} {h' : Hp} {v : Bool} (Gs : List (Nat × List AV)) (hG : ∀ x ∈ Gs, GlobOK W x) (hT : tys2 P Ts ts = true)
    (hv : ∀ (i : Nat) t v, ts[i]? = some t → args.toList[i]? = some v → Value.okWide P W r base t v) (h : DataW.TrodAll enc P W 0 (fun _ => true) true ts args.toList ds ps)
    (core : ∀ avs hp, ArgsShp Ts 0 avs hp → FTL P f avs (hp ++ glH Ts.length Gs) (Ts.length + Gs.length) (.b v) h' n') (hy : f ≠ YB := by decide) : Calls P f args W fun e W' => e = .returned (.bool v) ∧ Below W.heap.size W W' := by
  obtain ⟨avs, hp, F, g1, g2⟩ := open_args (j := 0) hT hv h
  let φ : Phi := ⟨fun b => if b < Ts.length then (F b).1 else ((Gs[b - Ts.length]?).map (·.1)).getD 0, fun b => if b < Ts.length then (F b).2 else 0, fun _ => 0, fun _ => 0, fun _ => none, fun _ => none⟩
  obtain ⟨k1, k2⟩ := g2 (fun b => b < Ts.length + Gs.length) φ (fun b _ hb => by
    simp at hb
    exact ⟨by simp [φ, hb], by simp [φ, hb], by show b < Ts.length + Gs.length; omega⟩)
  have k3 : RoOK Ts.length (Ts.length + Gs.length) (glH Ts.length Gs) (fun b => b < Ts.length + Gs.length) φ W := ⟨fun b k hb => by
    obtain ⟨q1, q2, g, c, q3, rfl⟩ := glH_get hb
    obtain ⟨cs, elem, fr, q4, q5⟩ := hG (g, c) (List.mem_of_getElem? q3)
    have hblk : φ.blk b = g := by simp [φ, show ¬ b < Ts.length by omega, q3]
    have hoff : φ.off b = 0 := by simp [φ, show ¬ b < Ts.length by omega]
    refine ⟨q1, q2, rfl, q2, ⟨⟨cs, elem, fr, by rw [hblk]; exact q4, fun i v hi => ?_, fun hr => (by cases hr), fun e he => (by cases he)⟩, fun g' hg' => ?_⟩⟩
    · obtain ⟨u, h1, h2⟩ := q5 (fun b => b < Ts.length + Gs.length) φ i v hi
      exact ⟨u, by rw [hoff, Nat.zero_add]; exact h1, h2⟩
    · simp only [Option.some.injEq] at hg'; subst hg'; exact ⟨hblk, hoff⟩⟩
  rw [Nat.zero_add] at k2
  have k4 := RoOK.append k2 k3 (by omega) (by omega)
  have hH : HR (fun b => b < Ts.length + Gs.length) φ (hget (hp ++ glH Ts.length Gs)) W :=
    ⟨⟨fun b k hb => ⟨(k4.at_ b k hb).2.2.2.1, (k4.at_ b k hb).2.2.2.2⟩, fun b1 b2 x1 x2 _ hb1 _ hro => by rw [(k4.at_ b1 x1 hb1).2.2.1] at hro; cases hro⟩, (fun B vs h => by cases h), (fun L r h => by cases h), (fun b k B vs _ _ h => by cases h)⟩
  have := core avs hp g1 (fun b => b < Ts.length + Gs.length) φ W args.toList (fun b hb => hb) hH k1
  simp only [Array.toArray_toList] at this
  refine (this.calls hy).mono fun e w' hx => ?_
  obtain ⟨D', φ', u, rfl, _, hr, hS⟩ := hx
  cases hr
  exact ⟨rfl, FRM.below k4 hS.frm⟩

/-- A law's contract, beside variables that were laid. -/
theorem law_postG {f : FuncId} {fn : Func} {s : ChangeSpec} {Ts : List Ty2} {args : Array Value} {ds gs : List (DataW H)} {before : List MemPlace} {r : Reach} {base n' : Nat} {h' : Hp} {tb : TypeId} {fresh handsOn : Bool} (Gs : List (Nat × List AV)) (hG : ∀ x ∈ Gs, GlobOK W x)
    (hT : tys2 P Ts fn.params.toList = true) (hl : laidOutB P = true) (hread : (fn.params.toList.all fun t => P.readableRec t && decide (t < P.types.size)) = true) (hres : fn.resultTypes = #[tb]) (htb : P.underlying tb = some .bool) (hvars : s.vars = [])
    (hspec : ∀ (l : List (DataW H)), l.length = Ts.length → s.fn H l = { results := [.lit (.bool true)], args := l })
    (hv : ∀ (j : Nat) t v, fn.params[j]? = some t → args[j]? = some v → Value.okWide P W r base t v) (hW : DataW.Whole enc P fn.params.toList s.vars false W args.toList ds gs before)
    (core : ∀ avs hp, ArgsShp Ts 0 avs hp → FTL P f avs (hp ++ glH Ts.length Gs) (Ts.length + Gs.length) (.b true) h' n') (hy : f ≠ YB := by decide) : Calls P f args W fun e W' => ∃ v, e = .returned v ∧ s.post enc P fn false fresh handsOn false W args v W' := by
  have hW' := hW
  have hlt := hW.lt
  obtain ⟨p, q, hA, hV, rfl, hfz, hnd⟩ := hW
  rw [hvars] at hV
  obtain ⟨rfl, rfl⟩ := trodVars_none hV
  refine (law_callsG Gs hG hT (fun i t v ht hv' => hv i t v (by simpa using ht) (by simpa using hv')) hA core hy).mono fun e W' hx => ?_
  obtain ⟨rfl, hB⟩ := hx
  have hlen : ds.length = Ts.length := by
    have h1 : ∀ {ts : List TypeId} {vs : List Value} {ds : List (DataW H)} {ps : List MemPlace}, DataW.TrodAll enc P W 0 (fun _ => true) true ts vs ds ps → ds.length = ts.length := by
      intro ts
      induction ts with
      | nil => intro vs ds ps h; obtain ⟨_, rfl, _⟩ := trodAll_nil h; rfl
      | cons t ts ih => intro vs ds ps h; obtain ⟨_, _, _, _, _, _, _, rfl, _, _, h2⟩ := trodAll_cons h; simp [ih h2]
    have h2 : ∀ {Ts : List Ty2} {ts : List TypeId}, tys2 P Ts ts = true → Ts.length = ts.length := by
      intro Ts
      induction Ts with
      | nil => intro ts h; cases ts with
        | nil => rfl
        | cons => simp [tys2] at h
      | cons T Ts ih => intro ts h; cases ts with
        | nil => simp [tys2] at h
        | cons t ts => simp only [tys2, Bool.and_eq_true] at h; simp [ih h.2]
    rw [h1 hA, h2 hT]
  have hfn := hspec (ds ++ []) (by simpa using hlen)
  have hlt' : ∀ x ∈ p, x.block < W.heap.size := fun x hx => hlt x (by simpa using hx)
  refine ⟨_, rfl, ds, [], p ++ [], [], p, [], hW', ?_, ?_, ?_, hB.frame _, fun h => by cases h⟩
  · rw [hfn, hres]
    exact trodAll_mk1 (shut_bool htb _)
  · rw [hfn]
    simpa using Below.trodAll hl hB hread hlt' hA
  · rw [hfn, hvars]; rfl

end

theorem var_heap {P : Program} {w : World} {n : String} {g : Nat} {cs : Array Value} (hg : P.globalNamed n = some g) (h : w.var? P n = some cs) : ∃ elem fr, w.heap[g]? = some (.cells cs elem fr) := by
  simp only [World.var?, hg, Option.bind_some] at h
  split at h <;> simp_all

/-- An array of one-cell things, read. -/
theorem open_arr1 {H : Type} {enc : TypeId × Value → H} {P : Program} {w : World} {base : Nat} {sp : Nat → Bool} {held : Bool} {t e : TypeId} {n : Nat} {fuel : Nat} {cs : List Value} {ds : List (DataW H)} {p : List MemPlace}
    (ht : P.underlying t = some (.array n e)) (he : P.cellsOf e = 1) (hc : P.cellsOf t = n) (h : DataW.trod enc P w base sp held fuel t cs = some (.agg ds, p)) :
    cs.length = P.cellsOf t ∧ ds.length = n ∧ ∀ (i : Nat) (d : DataW H), ds[i]? = some d → ∃ m v q, cs[i]? = some v ∧ DataW.trod enc P w base sp held m e [v] = some (d, q) := by
  have hcc : n = n → P.cellsOf t = n := fun _ => hc
  clear hc
  cases fuel with
  | zero => simp [DataW.trod] at h
  | succ m =>
    unfold DataW.trod at h
    rw [ht] at h
    simp only at h
    split at h
    · rename_i hl
      rw [Option.map_eq_some_iff] at h
      obtain ⟨xs, hp, hd⟩ := h
      have h1 := mapM_some_length hp
      simp at h1
      simp only [Prod.mk.injEq, DataW.agg.injEq] at hd
      obtain ⟨hd1, hd2⟩ := hd
      subst hd1
      have hc := hcc rfl
      refine ⟨hl, by simp [h1], fun i d hi => ?_⟩
      have hin : i < n := by
        rcases Nat.lt_or_ge i n with h' | h'
        · exact h'
        · rw [List.getElem?_eq_none (by simp [h1, h'])] at hi; cases hi
      have h2 := mapM_some_get hp i i (by simp [hin])
      rw [List.getElem?_eq_getElem (by omega)] at h2
      rw [List.getElem?_map, List.getElem?_eq_getElem (by omega)] at hi
      simp at hi
      cases hcs : cs[i]? with
      | none =>
        exfalso
        have hge : cs.length ≤ i := by
          rcases Nat.lt_or_ge i cs.length with h' | h'
          · rw [List.getElem?_eq_getElem h'] at hcs; cases hcs
          · exact h'
        omega
      | some v =>
        have hlt : i < cs.length := by
          rcases Nat.lt_or_ge i cs.length with h' | h'
          · exact h'
          · rw [List.getElem?_eq_none h'] at hcs; cases hcs
        have hz : List.take 1 (List.drop i cs) = [v] := by
          rw [List.drop_eq_getElem_cons hlt]
          rw [List.getElem?_eq_getElem hlt] at hcs
          simp at hcs
          simp [hcs]
        have h3 : DataW.trod enc P w base sp held m e [v] = some xs[i] := by
          have := h2
          simp only [he, Nat.mul_one, hz] at this
          exact this
        exact ⟨m, v, xs[i].2, rfl, by rw [h3, ← hi]⟩
    · cases h
end Go.Ab
