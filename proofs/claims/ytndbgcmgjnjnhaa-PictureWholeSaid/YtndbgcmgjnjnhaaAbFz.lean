/- The abstract layer, part 55: what is frozen at a function's end; calls that look at a slice of plain cells, of whatever form. -/
import Derived.Test.YtndbgcmgjnjnhaaAbShs
import Derived.Test.YtndbgcmgjnjnhaaAbDeep
namespace Go.Ab
set_option linter.unusedVariables false
set_option linter.unusedSimpArgs false

mutual
/-- Neither names nor frozen parts. -/
def AV.pl : AV → Bool
  | .p _ _ => false
  | .sl _ _ _ _ => false
  | .sg _ _ _ => false
  | .fn _ l => plL l
  | .agg l => plL l
  | .tup l => plL l
  | .b _ => true
  | .i _ _ => true
  | .s _ => true
  | .np => true
  | .ns => true
  | .nf => true
  | .ni => true
  | .fz _ _ => false
  | .fp _ _ => false
  | .ze => true
def plL : List AV → Bool
  | [] => true
  | v :: r => v.pl && plL r
end
theorem plL_spec : ∀ {l : List AV}, plL l = true → ∀ v ∈ l, v.pl = true
  | [], _, v, hv => by cases hv
  | x :: r, h, v, hv => by
    simp only [plL, Bool.and_eq_true] at h
    rcases List.mem_cons.1 hv with rfl | hv
    · exact h.1
    · exact plL_spec h.2 v hv
theorem VRel.pl {D D' : Nat → Prop} {φ φ' : Phi} {v : AV} {u : Value} (h : VRel D φ v u) : v.pl = true → VRel D' φ' v u := by
  induction h with
  | b x => intro _; exact .b x
  | i k n => intro _; exact .i k n
  | s l => intro _; exact .s l
  | np => intro _; exact .np
  | p b o h => intro hp; cases hp
  | ns => intro _; exact .ns
  | sl b o len cap h => intro hp; cases hp
  | sg b o len j cap h hj hc hl => intro hp; cases hp
  | fn f l cs hl h ih => intro hp; exact .fn f l cs hl (fun i a u ha hu => ih i a u ha hu (plL_spec hp a (List.mem_of_getElem? ha)))
  | nf => intro _; exact .nf
  | ni => intro _; exact .ni
  | agg l cs hl h ih => intro hp; exact .agg l cs hl (fun i a u ha hu => ih i a u ha hu (plL_spec hp a (List.mem_of_getElem? ha)))
  | tup l cs hl h ih => intro hp; exact .tup l cs hl (fun i a u ha hu => ih i a u ha hu (plL_spec hp a (List.mem_of_getElem? ha)))
  | fz l n B o cap vs hB hc hs h ih => intro hp; cases hp
  | fz0 l x cap => intro hp; cases hp
  | fp l k B o vs hB hs h ih => intro hp; cases hp
  | ze x => intro _; exact .ze x

/-- A value that bears no name needs none. -/
theorem VRel.bel0 {D D' : Nat → Prop} {φ : Phi} {v : AV} {u : Value} (h : VRel D φ v u) : v.bel 0 = true → VRel D' φ v u := by
  induction h with
  | b x => intro _; exact .b x
  | i k n => intro _; exact .i k n
  | s l => intro _; exact .s l
  | np => intro _; exact .np
  | p b o h => intro hp; simp [AV.bel, Nat.blt] at hp
  | ns => intro _; exact .ns
  | sl b o len cap h => intro hp; simp [AV.bel, Nat.blt] at hp
  | sg b o len j cap h hj hc hl => intro hp; simp [AV.bel, Nat.blt] at hp
  | fn f l cs hl h ih => intro hp; exact .fn f l cs hl (fun i a u ha hu => ih i a u ha hu (belL_spec hp a (List.mem_of_getElem? ha)))
  | nf => intro _; exact .nf
  | ni => intro _; exact .ni
  | agg l cs hl h ih => intro hp; exact .agg l cs hl (fun i a u ha hu => ih i a u ha hu (belL_spec hp a (List.mem_of_getElem? ha)))
  | tup l cs hl h ih => intro hp; exact .tup l cs hl (fun i a u ha hu => ih i a u ha hu (belL_spec hp a (List.mem_of_getElem? ha)))
  | fz l n B o cap vs hB hc hs h ih => intro hp; exact .fz l n B o cap vs hB hc hs (fun i a u ha hu => ih i a u ha hu (belL_spec hp a (List.mem_of_getElem? ha)))
  | fz0 l x cap => intro _; exact .fz0 l x cap
  | fp l k B o vs hB hs h ih => intro hp; exact .fp l k B o vs hB hs (fun i a u ha hu => ih i a u ha hu (belL_spec hp a (List.mem_of_getElem? ha)))
  | ze x => intro _; exact .ze x

/-- The blocks of a heap, frozen as they are. -/
noncomputable def Phi.frz (φ : Phi) (H : Hf) (w : World) : Phi := { φ with fz := fun B => open Classical in if (∃ b k, H b = some k ∧ φ.blk b = B) then fzW w B else φ.fz B }
theorem HR.fz_eq {D : Nat → Prop} {φ : Phi} {H : Hf} {w : World} (hH : HR D φ H w) {B : Nat} {vs : Array Value} (hB : φ.fz B = some vs) : fzW w B = some vs := by
  obtain ⟨elem, fr, h⟩ := hH.fz B vs hB
  simp [fzW, h]
theorem Phi.frz_agree {D : Nat → Prop} {φ : Phi} {H : Hf} {w : World} (hH : HR D φ H w) (D' : Nat → Prop) : Agree D' φ (φ.frz H w) := ⟨fun b _ => ⟨rfl, rfl, rfl, rfl⟩, fun B vs hB => by
  simp only [Phi.frz]
  split
  · exact hH.fz_eq hB
  · exact hB⟩
theorem Phi.frz_at {D : Nat → Prop} {φ : Phi} {H : Hf} {w : World} {b : Nat} {k : Blk} (hb : H b = some k) : (φ.frz H w).fz (φ.blk b) = fzW w (φ.blk b) := by
  simp only [Phi.frz]
  exact if_pos ⟨b, k, hb, rfl⟩

/-- A slice's cells, whatever its form: blocks looked at, length, cells, the condition. -/
def vwK {α : Type} (h : Hp) (z : Nat) (x : AV) (k : List Nat → Nat → List AV → Bool → Option α) : Option α := match x with
  | .ns => k [] 0 [] true
  | .ze => k [] 0 [] true
  | .fz l m => k [] m (cellsAt l 0 (m * z)) (decide ((cellsAt l 0 (m * z)).length = m * z))
  | .sl b o m c => (hget h b).bind fun q => k [b] m (cellsAt q.cells o (m * z)) (decide ((cellsAt q.cells o (m * z)).length = m * z) && decide (m ≤ c))
  | .sg b o m => (hget h b).bind fun q => k [b] m (cellsAt q.cells o (m * z)) (decide ((cellsAt q.cells o (m * z)).length = m * z))
  | _ => none
@[congr] theorem vwK_congr {α : Type} {h : Hp} {z : Nat} {x x' : AV} {k : List Nat → Nat → List AV → Bool → Option α} (hx : x = x') : vwK h z x k = vwK h z x' k := by rw [hx]
section
variable {α : Type} {h : Hp} {z : Nat} {k : List Nat → Nat → List AV → Bool → Option α}
theorem vwK_n : vwK h z .ns k = k [] 0 [] true := (rfl)
theorem vwK_z : vwK h z .ze k = k [] 0 [] true := (rfl)
theorem vwK_f {l : List AV} {m : Nat} : vwK h z (.fz l m) k = k [] m (cellsAt l 0 (m * z)) (decide ((cellsAt l 0 (m * z)).length = m * z)) := (rfl)
theorem vwK_s {b o m c : Nat} : vwK h z (.sl b o m c) k = (hget h b).bind fun q => k [b] m (cellsAt q.cells o (m * z)) (decide ((cellsAt q.cells o (m * z)).length = m * z) && decide (m ≤ c)) := (rfl)
theorem vwK_g {b o m : Nat} : vwK h z (.sg b o m) k = (hget h b).bind fun q => k [b] m (cellsAt q.cells o (m * z)) (decide ((cellsAt q.cells o (m * z)).length = m * z)) := (rfl)
end

/-- A slice seen as a frozen one. -/
theorem VRel.view {D D' : Nat → Prop} {φ : Phi} {h : Hp} {w : World} {z : Nat} {x : AV} {u : Value} {rd : List Nat} {m : Nat} {cs : List AV} (hH : HR D φ (only (hget h) rd) w) (hx : VRel D φ x u)
    (hv : vwK h z x (fun rd m cs ok => some (rd, m, cs, ok)) = some (rd, m, cs, true)) (hcs : belL 0 cs = true) : VRel D' (φ.frz (only (hget h) rd) w) (.fz cs m) u := by
  have cell : ∀ b k o, only (hget h) rd b = some k → cs = cellsAt k.cells o (m * z) → ∃ vs, (φ.frz (only (hget h) rd) w).fz (φ.blk b) = some vs ∧ (∀ i, i < cs.length → φ.off b + o + i < vs.size) ∧
      ∀ (i : Nat) (a : AV) (u : Value), cs[i]? = some a → vs[φ.off b + o + i]? = some u → VRel D' (φ.frz (only (hget h) rd) w) a u := fun b k o hb hc => by
    obtain ⟨_, ⟨⟨vs, elem, fr, h1, h2, _⟩, _⟩⟩ := hH.at_ b k hb
    have get : ∀ (i : Nat) (a : AV), cs[i]? = some a → ∃ u, vs[φ.off b + o + i]? = some u ∧ VRel D φ a u := fun i a ha => by
      rw [hc] at ha
      simp only [cellsAt, List.getElem?_take, List.getElem?_drop] at ha
      split at ha
      · obtain ⟨u, hu, hr⟩ := h2 _ a ha
        exact ⟨u, by rw [Nat.add_assoc]; exact hu, hr⟩
      · cases ha
    refine ⟨vs, by rw [Phi.frz_at (D := D) hb]; simp [fzW, h1], fun i hi => ?_, fun i a u ha hu => ?_⟩
    · obtain ⟨u, hu, _⟩ := get i _ (List.getElem?_eq_getElem hi)
      rcases Nat.lt_or_ge (φ.off b + o + i) vs.size with h' | h'
      · exact h'
      · rw [Array.getElem?_eq_none h'] at hu; cases hu
    · obtain ⟨u', hu', hr⟩ := get i a ha
      rw [hu] at hu'; cases hu'
      exact (hr.mono (D' := D) (fun _ h => h) (Phi.frz_agree hH D)).bel0 (belL_spec hcs a (List.mem_of_getElem? ha))
  cases hx with
  | ns => simp only [vwK_n, Option.some.injEq, Prod.mk.injEq] at hv; obtain ⟨_, rfl, _⟩ := hv; exact .fz0 _ _ _
  | ze x => simp only [vwK_z, Option.some.injEq, Prod.mk.injEq] at hv; obtain ⟨_, rfl, _⟩ := hv; exact .fz0 _ _ _
  | fz0 l x cap => simp only [vwK_f, Option.some.injEq, Prod.mk.injEq] at hv; obtain ⟨_, rfl, _⟩ := hv; exact .fz0 _ _ _
  | fz l n B o cap vs hB hc hs h =>
    simp only [vwK_f, Option.some.injEq, Prod.mk.injEq] at hv
    obtain ⟨_, rfl, rfl, _⟩ := hv
    have ag := Phi.frz_agree hH D
    refine .fz _ _ B o cap vs (ag.fz _ _ hB) hc (fun i hi => ?_) (fun i a u ha hu => ?_)
    · simp [cellsAt] at hi; exact hs i (by omega)
    · have hb := belL_spec hcs a (List.mem_of_getElem? ha)
      simp only [cellsAt, List.drop_zero, List.getElem?_take] at ha
      split at ha
      · exact ((h i a u ha hu).mono (D' := D) (fun _ h => h) ag).bel0 hb
      · cases ha
  | sl b o len cap hD =>
    simp only [vwK_s, Option.bind_eq_some_iff, Option.some.injEq, Prod.mk.injEq, Bool.and_eq_true, decide_eq_true_eq] at hv
    obtain ⟨k, hk, rfl, rfl, rfl, _, hc⟩ := hv
    obtain ⟨vs, g1, g2, g3⟩ := cell b k o (by rw [only_get (by simp [inl])]; exact hk) rfl
    exact .fz _ _ _ _ _ vs g1 hc g2 g3
  | sg b o len j cap hD hj hc hl =>
    simp only [vwK_g, Option.bind_eq_some_iff, Option.some.injEq, Prod.mk.injEq, decide_eq_true_eq] at hv
    obtain ⟨k, hk, rfl, rfl, rfl, _⟩ := hv
    obtain ⟨vs, g1, g2, g3⟩ := cell b k o (by rw [only_get (by simp [inl])]; exact hk) rfl
    exact .fz _ _ _ _ _ vs g1 hl g2 g3
  | b x => cases hv
  | i k n => cases hv
  | s l => cases hv
  | np => cases hv
  | p b o h => cases hv
  | fn f l cs hl h => cases hv
  | nf => cases hv
  | ni => cases hv
  | agg l cs hl h => cases hv
  | tup l cs hl h => cases hv
  | fp l k B o vs hB hs h => cases hv

/-- A call that looks at a slice of plain cells, by what the function does with a frozen one. -/
theorem CallOK.view {P : Program} {f : FuncId} {pre post : List AV} {x : AV} {h : Hp} {n z : Nat} {rd : List Nat} {m : Nat} {cs : List AV} {v : AV} (hc : Go.Ab.callable P f = true)
    (hv : vwK h z x (fun rd m cs ok => some (rd, m, cs, ok)) = some (rd, m, cs, true)) (hcs : belL 0 cs = true) (hpre : belL 0 pre = true) (hpost : belL 0 post = true) (hpl : v.pl = true)
    (hf : FTL P f (pre ++ .fz cs m :: post) [] 0 v [] 0) : CallOK P f (pre ++ x :: post) h n { v, n, rd } := by
  refine ⟨hc, Nat.le_refl _, fun b r hb => by simp [mget] at hb, fun b kk hb => by simp [hget] at hb, fun D φ w us hfresh hH hA => ?_⟩
  let φ1 := φ.frz (only (hget h) rd) w
  have ag := Phi.frz_agree hH D
  have hH1 : HR (fun _ => False) φ1 (hget []) w := ⟨⟨fun b k hb => by simp [hget] at hb, fun b1 b2 k1 k2 _ hb => by simp [hget] at hb⟩, fun B vs hB => by
    simp only [φ1, Phi.frz] at hB
    split at hB
    · exact fzW_spec hB
    · exact hH.fz B vs hB, fun b k B vs hb => by simp [hget] at hb⟩
  have plain : ∀ l : List AV, belL 0 l = true → ∀ us : List Value, All2 D φ l us → All2 (fun _ => False) φ1 l us := fun l hl us hA =>
    ⟨hA.1, fun i a u ha hu => ((hA.2 i a u ha hu).mono (D' := D) (fun _ h => h) ag).bel0 (belL_spec hl a (List.mem_of_getElem? ha))⟩
  have hA1 : All2 (fun _ => False) φ1 (pre ++ .fz cs m :: post) us := by
    have e1 := hA.take pre.length
    have e2 := hA.drop pre.length
    simp only [List.take_left, List.drop_left] at e1 e2
    obtain ⟨u, us', he, h1, h2⟩ := e2.uncons
    have e3 := (plain pre hpre _ e1).append (All2.cons (VRel.view hH h1 hv hcs) (plain post hpost _ h2))
    rw [← he, List.take_append_drop] at e3
    exact e3
  refine (hf (fun _ => False) φ1 w us (fun _ h => h.elim) hH1 hA1).mono fun e w' hx => ?_
  obtain ⟨D', φ', u, rfl, hD', hr, hS⟩ := hx
  have hd : ∀ b, D b → Dn D n n b := fun b h => .inl h
  have e : (Eff.app { v, n, rd } (only (hget h) rd)) = only (hget h) rd := by funext b; rfl
  have hst : ∀ c, c < w.heap.size → w'.heap[c]? = w.heap[c]? := fun c hc => hS.frm.block c hc (fun b k hb => by simp [hget] at hb)
  refine ⟨u, φ, rfl, hr.pl hpl, ?_, fun c kk hc _ => by rw [e] at hc; exact hc⟩
  show Stp D φ _ w (Dn D n n) φ (Eff.app _ _) w'
  rw [e]
  exact Stp.mk' hH rfl hd (Agree.refl D φ).at_ ⟨fun b k hb => ⟨hd b (hH.at_ b k hb).1, (hH.at_ b k hb).2.mono hd (Agree.refl _ _) (hH.at_ b k hb).1 (hst _ (hH.at_ b k hb).2.lt)⟩, hH.sep⟩
    ⟨hS.frm.os, hS.frm.tape, hS.frm.output, hS.frm.size, fun c hc _ => hst c hc⟩ (fun b k hb hk => .inr ⟨b, k, hb, hk, rfl⟩)
end Go.Ab
