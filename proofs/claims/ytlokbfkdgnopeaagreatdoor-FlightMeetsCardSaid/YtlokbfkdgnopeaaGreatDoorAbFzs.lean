/- Texts laid as one: AbFz AbNest AbFze AbVw AbVwF AbJoin AbMed. -/
import Derived.Test.YtlokbfkdgnopeaaGreatDoorAbShs
import Derived.Test.YtlokbfkdgnopeaaGreatDoorAbDeep
import Derived.Test.YtlokbfkdgnopeaaGreatDoorAbRead
section
/- The abstract layer, part 55: what is frozen at a function's end; calls that look at a slice of plain cells, of whatever form. -/
namespace Go.Ab
set_option linter.unusedVariables false
set_option linter.unusedSimpArgs false
mutual
def AV.pl : AV → Bool
 | .p _ _ => false
 | .sl _ _ _ _ => false
 | .sg _ _ _ => false
 | .fn _ l => plL l
 | .bm _ l => plL l
 | .agg l => plL l
 | .tup l => plL l
 | .b _ => true
 | .i _ _ => true
 | .s _ => true
 | .np => true
 | .ns => true
 | .nf => true
 | .ni => true
 | .fz _ _ => false
 | .fp _ _ => false
 | .ze => true
 | .en => true
 | .any => true
 | .k _ _ => true
 | .yl _ _ _ _ => false
def plL : List AV → Bool
 | [] => true
 | v :: r => v.pl && plL r
end
theorem plL_spec : ∀ {l : List AV}, plL l = true → ∀ v ∈ l, v.pl = true
 | [], _, v, hv => by cases hv
 | x :: r, h, v, hv => by
  simp only [plL, Bool.and_eq_true] at h
  rcases List.mem_cons.1 hv with rfl | hv
  · exact h.1
  · exact plL_spec h.2 v hv
theorem VRel.pl {D D' : Nat → Prop} {φ φ' : Phi} {v : AV} {u : Value} (h : VRel D φ v u) : v.pl = true → VRel D' φ' v u := by
 induction h with
 | b x => intro _; exact .b x
 | i k n => intro _; exact .i k n
 | s l => intro _; exact .s l
 | np => intro _; exact .np
 | p b o h => intro hp; cases hp
 | ns => intro _; exact .ns
 | sl b o len cap h => intro hp; cases hp
 | sg b o len j cap h hj hc hl => intro hp; cases hp
 | fn f l cs hf hl h ih => intro hp; exact .fn f l cs hf hl (fun i a u ha hu => ih i a u ha hu (plL_spec hp a (List.mem_of_getElem? ha)))
 | bm f l cs hf hl h ih => intro hp; exact .bm f l cs hf hl (fun i a u ha hu => ih i a u ha hu (plL_spec hp a (List.mem_of_getElem? ha)))
 | nf => intro _; exact .nf
 | ni => intro _; exact .ni
 | agg l cs hl h ih => intro hp; exact .agg l cs hl (fun i a u ha hu => ih i a u ha hu (plL_spec hp a (List.mem_of_getElem? ha)))
 | tup l cs hl h ih => intro hp; exact .tup l cs hl (fun i a u ha hu => ih i a u ha hu (plL_spec hp a (List.mem_of_getElem? ha)))
 | fz l n B o cap vs hB hc hs h ih => intro hp; cases hp
 | fz0 l x cap hc => intro hp; cases hp
 | fp l k B o vs hB hs h ih => intro hp; cases hp
 | ze x => intro _; exact .ze x
 | en x cap => intro _; exact .en x cap
 | any u => intro _; exact .any u
 | k t u => intro _; exact .k t u
 | yl L r ts l hL h ih => intro hp; cases hp
theorem VRel.bel0 {D D' : Nat → Prop} {φ : Phi} {v : AV} {u : Value} (h : VRel D φ v u) : v.bel 0 = true → VRel D' φ v u := by
 induction h with
 | b x => intro _; exact .b x
 | i k n => intro _; exact .i k n
 | s l => intro _; exact .s l
 | np => intro _; exact .np
 | p b o h => intro hp; simp [AV.bel, Nat.blt] at hp
 | ns => intro _; exact .ns
 | sl b o len cap h => intro hp; simp [AV.bel, Nat.blt] at hp
 | sg b o len j cap h hj hc hl => intro hp; simp [AV.bel, Nat.blt] at hp
 | fn f l cs hf hl h ih => intro hp; exact .fn f l cs hf hl (fun i a u ha hu => ih i a u ha hu (belL_spec hp a (List.mem_of_getElem? ha)))
 | bm f l cs hf hl h ih => intro hp; exact .bm f l cs hf hl (fun i a u ha hu => ih i a u ha hu (belL_spec hp a (List.mem_of_getElem? ha)))
 | nf => intro _; exact .nf
 | ni => intro _; exact .ni
 | agg l cs hl h ih => intro hp; exact .agg l cs hl (fun i a u ha hu => ih i a u ha hu (belL_spec hp a (List.mem_of_getElem? ha)))
 | tup l cs hl h ih => intro hp; exact .tup l cs hl (fun i a u ha hu => ih i a u ha hu (belL_spec hp a (List.mem_of_getElem? ha)))
 | fz l n B o cap vs hB hc hs h ih => intro hp; exact .fz l n B o cap vs hB hc hs (fun i a u ha hu => ih i a u ha hu (belL_spec hp a (List.mem_of_getElem? ha)))
 | fz0 l x cap hc => intro _; exact .fz0 l x cap hc
 | fp l k B o vs hB hs h ih => intro hp; exact .fp l k B o vs hB hs (fun i a u ha hu => ih i a u ha hu (belL_spec hp a (List.mem_of_getElem? ha)))
 | ze x => intro _; exact .ze x
 | en x cap => intro _; exact .en x cap
 | any u => intro _; exact .any u
 | k t u => intro _; exact .k t u
 | yl L r ts l hL h ih => intro hp; exact .yl L r ts l hL (fun i t a ht ha => ih i t a ht ha (belL_spec hp a (List.mem_of_getElem? ha)))
noncomputable def Phi.frz (φ : Phi) (H : Hf) (w : World) : Phi := { φ with fz := fun B => open Classical in if (∃ b k, H b = some k ∧ φ.blk b = B) then fzW w B else φ.fz B }
theorem HR.fz_eq {D : Nat → Prop} {φ : Phi} {H : Hf} {w : World} (hH : HR D φ H w) {B : Nat} {vs : Array Value} (hB : φ.fz B = some vs) : fzW w B = some vs := by
 obtain ⟨elem, fr, h⟩ := hH.fz B vs hB
 simp [fzW, h]
theorem Phi.frz_agree {D : Nat → Prop} {φ : Phi} {H : Hf} {w : World} (hH : HR D φ H w) (D' : Nat → Prop) : Agree D' φ (φ.frz H w) := ⟨fun b _ => ⟨rfl, rfl, rfl, rfl⟩, fun B vs hB => by
 simp only [Phi.frz]
 split
 · exact hH.fz_eq hB
 · exact hB, rfl⟩
theorem Phi.frz_at {D : Nat → Prop} {φ : Phi} {H : Hf} {w : World} {b : Nat} {k : Blk} (hb : H b = some k) : (φ.frz H w).fz (φ.blk b) = fzW w (φ.blk b) := by
 simp only [Phi.frz]
 exact if_pos ⟨b, k, hb, rfl⟩
def vwK {α : Type} (h : Hp) (z : Nat) (x : AV) (k : List Nat → Nat → List AV → Bool → Option α) : Option α := match x with
 | .ns => k [] 0 [] true
 | .ze => k [] 0 [] true
 | .fz l m => k [] m (cellsAt l 0 (m * z)) (decide ((cellsAt l 0 (m * z)).length = m * z))
 | .sl b o m c => (hget h b).bind fun q => k [b] m (cellsAt q.cells o (m * z)) (decide ((cellsAt q.cells o (m * z)).length = m * z) && decide (m ≤ c))
 | .sg b o m => (hget h b).bind fun q => k [b] m (cellsAt q.cells o (m * z)) (decide ((cellsAt q.cells o (m * z)).length = m * z))
 | _ => none
@[congr] theorem vwK_congr {α : Type} {h : Hp} {z : Nat} {x x' : AV} {k : List Nat → Nat → List AV → Bool → Option α} (hx : x = x') : vwK h z x k = vwK h z x' k := by rw [hx]
section
variable {α : Type} {h : Hp} {z : Nat} {k : List Nat → Nat → List AV → Bool → Option α}
theorem vwK_n : vwK h z .ns k = k [] 0 [] true := (rfl)
theorem vwK_z : vwK h z .ze k = k [] 0 [] true := (rfl)
theorem vwK_f {l : List AV} {m : Nat} : vwK h z (.fz l m) k = k [] m (cellsAt l 0 (m * z)) (decide ((cellsAt l 0 (m * z)).length = m * z)) := (rfl)
theorem vwK_s {b o m c : Nat} : vwK h z (.sl b o m c) k = (hget h b).bind fun q => k [b] m (cellsAt q.cells o (m * z)) (decide ((cellsAt q.cells o (m * z)).length = m * z) && decide (m ≤ c)) := (rfl)
theorem vwK_g {b o m : Nat} : vwK h z (.sg b o m) k = (hget h b).bind fun q => k [b] m (cellsAt q.cells o (m * z)) (decide ((cellsAt q.cells o (m * z)).length = m * z)) := (rfl)
end
theorem VRel.view {D D' : Nat → Prop} {φ : Phi} {h : Hp} {w : World} {z : Nat} {x : AV} {u : Value} {rd : List Nat} {m : Nat} {cs : List AV} (hH : HR D φ (only (hget h) rd) w) (hx : VRel D φ x u)
 (hv : vwK h z x (fun rd m cs ok => some (rd, m, cs, ok)) = some (rd, m, cs, true)) (hcs : belL 0 cs = true) : VRel D' (φ.frz (only (hget h) rd) w) (.fz cs m) u := by
 have cell : ∀ b k o, only (hget h) rd b = some k → cs = cellsAt k.cells o (m * z) → ∃ vs, (φ.frz (only (hget h) rd) w).fz (φ.blk b) = some vs ∧ (∀ i, i < cs.length → φ.off b + o + i < vs.size) ∧
  ∀ (i : Nat) (a : AV) (u : Value), cs[i]? = some a → vs[φ.off b + o + i]? = some u → VRel D' (φ.frz (only (hget h) rd) w) a u := fun b k o hb hc => by
  obtain ⟨_, ⟨⟨vs, elem, fr, h1, h2, _⟩, _⟩⟩ := hH.at_ b k hb
  have get : ∀ (i : Nat) (a : AV), cs[i]? = some a → ∃ u, vs[φ.off b + o + i]? = some u ∧ VRel D φ a u := fun i a ha => by
   rw [hc] at ha
   simp only [cellsAt, List.getElem?_take, List.getElem?_drop] at ha
   split at ha
   · obtain ⟨u, hu, hr⟩ := h2 _ a ha
     exact ⟨u, by rw [Nat.add_assoc]; exact hu, hr⟩
   · cases ha
  refine ⟨vs, by rw [Phi.frz_at (D := D) hb]; simp [fzW, h1], fun i hi => ?_, fun i a u ha hu => ?_⟩
  · obtain ⟨u, hu, _⟩ := get i _ (List.getElem?_eq_getElem hi)
    rcases Nat.lt_or_ge (φ.off b + o + i) vs.size with h' | h'
    · exact h'
    · rw [Array.getElem?_eq_none h'] at hu; cases hu
  · obtain ⟨u', hu', hr⟩ := get i a ha
    rw [hu] at hu'; cases hu'
    exact (hr.mono (D' := D) (fun _ h => h) (Phi.frz_agree hH D)).bel0 (belL_spec hcs a (List.mem_of_getElem? ha))
 cases hx with
 | ns => simp only [vwK_n, Option.some.injEq, Prod.mk.injEq] at hv; obtain ⟨_, rfl, _⟩ := hv; exact .fz0 _ _ _ (fun _ => rfl)
 | ze x => simp only [vwK_z, Option.some.injEq, Prod.mk.injEq] at hv; obtain ⟨_, rfl, _⟩ := hv; exact .fz0 _ _ _ (fun _ => rfl)
 | fz0 l x cap hc0 => simp only [vwK_f, Option.some.injEq, Prod.mk.injEq] at hv; obtain ⟨_, rfl, _⟩ := hv; exact .fz0 _ _ _ hc0
 | fz l n B o cap vs hB hc hs h =>
  simp only [vwK_f, Option.some.injEq, Prod.mk.injEq] at hv
  obtain ⟨_, rfl, rfl, _⟩ := hv
  have ag := Phi.frz_agree hH D
  refine .fz _ _ B o cap vs (ag.fz _ _ hB) hc (fun i hi => ?_) (fun i a u ha hu => ?_)
  · simp [cellsAt] at hi; exact hs i (by omega)
  · have hb := belL_spec hcs a (List.mem_of_getElem? ha)
    simp only [cellsAt, List.drop_zero, List.getElem?_take] at ha
    split at ha
    · exact ((h i a u ha hu).mono (D' := D) (fun _ h => h) ag).bel0 hb
    · cases ha
 | sl b o len cap hD =>
  simp only [vwK_s, Option.bind_eq_some_iff, Option.some.injEq, Prod.mk.injEq, Bool.and_eq_true, decide_eq_true_eq] at hv
  obtain ⟨k, hk, rfl, rfl, rfl, _, hc⟩ := hv
  obtain ⟨vs, g1, g2, g3⟩ := cell b k o (by rw [only_get (by simp [inl])]; exact hk) rfl
  exact .fz _ _ _ _ _ vs g1 hc g2 g3
 | sg b o len j cap hD hj hc hl =>
  simp only [vwK_g, Option.bind_eq_some_iff, Option.some.injEq, Prod.mk.injEq, decide_eq_true_eq] at hv
  obtain ⟨k, hk, rfl, rfl, rfl, _⟩ := hv
  obtain ⟨vs, g1, g2, g3⟩ := cell b k o (by rw [only_get (by simp [inl])]; exact hk) rfl
  exact .fz _ _ _ _ _ vs g1 hl g2 g3
 | b x => cases hv
 | i k n => cases hv
 | s l => cases hv
 | np => cases hv
 | p b o h => cases hv
 | fn f l cs hf hl h => cases hv
 | bm f l cs hf hl h => cases hv
 | yl L r ts l hL h => cases hv
 | nf => cases hv
 | ni => cases hv
 | agg l cs hl h => cases hv
 | tup l cs hl h => cases hv
 | fp l k B o vs hB hs h => cases hv
 | en x cap => cases hv
 | any u => cases hv
 | k t v => cases hv
end Go.Ab
end
section
/- The abstract layer, part 56: a law's arguments as frozen values: structures and slices within each other. -/
namespace Go.Ab
open Go.ChangeShapes Go.WideShapes Go.RowKit
set_option linter.unusedVariables false
inductive TyF where
 | f (T : Ty)
 | sl (E : TyF)
 | st (l : List TyF)
 | an (n : Nat) (E : TyF)
mutual
def TyF.size : TyF → Nat
 | .f T => T.size
 | .sl _ => 1
 | .st l => fsizeL l
 | .an n E => n * E.size
def fsizeL : List TyF → Nat
 | [] => 0
 | T :: r => T.size + fsizeL r
end
mutual
def tyFIs (P : Program) : TyF → TypeId → Bool
 | .f T, t => tyIs P T t
 | .sl E, t => match P.underlying t with | some (.slice e) => tyFIs P E e && Nat.beq (P.cellsOf t) 1 && Nat.blt 0 E.size | _ => false
 | .st Ts, t => match P.underlying t with | some (.struct fs) => fldFIs P Ts fs.toList 0 && Nat.beq (P.cellsOf t) (fsizeL Ts) | _ => false
 | .an n E, t => match P.underlying t with | some (.array n' e) => Nat.beq n' n && tyFIs P E e && Nat.beq (P.cellsOf t) (n * E.size) | _ => false
def fldFIs (P : Program) : List TyF → List Field → Nat → Bool
 | [], [], _ => true
 | T :: Ts, f :: fs, o => Nat.beq f.offset o && tyFIs P T f.type && fldFIs P Ts fs (o + T.size)
 | _, _, _ => false
end
mutual
def FShp : TyF → List AV → Prop
 | .f T, l => Flat T l
 | .sl E, l => ∃ ls : List (List AV), (∀ x ∈ ls, FShp E x) ∧ ls.length ≤ maxLen ∧ l = [.fz ls.flatten ls.length]
 | .st Ts, l => FShps Ts l
 | .an n E, l => ∃ ls : List (List AV), ls.length = n ∧ (∀ x ∈ ls, FShp E x) ∧ l = ls.flatten
def FShps : List TyF → List AV → Prop
 | [], l => l = []
 | T :: Ts, l => ∃ a r, l = a ++ r ∧ FShp T a ∧ FShps Ts r
end
def mkArgF (T : TyF) (l : List AV) : AV :=
 match T with
 | .f T => mkArg T l
 | .sl _ => l.headD .np
 | .st _ => .agg l
 | .an _ _ => .agg l
def ArgsF : List TyF → List AV → Prop
 | [], vs => vs = []
 | T :: Ts, vs => ∃ l vs', vs = mkArgF T l :: vs' ∧ FShp T l ∧ ArgsF Ts vs'
def tysF (P : Program) : List TyF → List TypeId → Bool
 | [], [] => true
 | T :: Ts, t :: ts => tyFIs P T t && tysF P Ts ts
 | _, _ => false
section
variable {H : Type} {enc : TypeId × Value → H} {P : Program} {W : World} {sp : Nat → Bool} {held : Bool}
theorem tyFIs_cells : ∀ {T : TyF} {t : TypeId}, tyFIs P T t = true → P.cellsOf t = T.size
 | .f T, t, h => tyIs_cells (T := T) (by simpa only [tyFIs] using h)
 | .sl T, t, h => by
  simp only [tyFIs] at h
  split at h
  · simp only [Bool.and_eq_true] at h; exact Nat.eq_of_beq_eq_true h.1.2
  · cases h
 | .st Ts, t, h => by
  simp only [tyFIs] at h
  split at h
  · simp only [Bool.and_eq_true] at h; exact Nat.eq_of_beq_eq_true h.2
  · cases h
 | .an n E, t, h => by
  simp only [tyFIs] at h
  split at h
  · simp only [Bool.and_eq_true] at h; exact Nat.eq_of_beq_eq_true h.2
  · cases h
theorem cell_inv {a : Addr} {v : Value} (h : W.cell? a = some v) : a.spot = none ∧ ∃ vs, fzW W a.block = some vs ∧ vs[a.off]? = some v := by
 unfold World.cell? at h
 split at h
 · rename_i c e f hb
   split at h
   · cases h
   · rename_i hs
     exact ⟨by simpa using hs, c, by simp [fzW, hb], h⟩
 · cases h
theorem add_none (a : Addr) (n : Nat) (h : a.spot = none) : a.add n = ⟨a.block, a.off + n, none⟩ := by
 unfold Addr.add
 split
 · rename_i hn; subst hn; cases a; simp_all
 · rfl
theorem slice_openF {E : TyF} {t e : TypeId} {fuel : Nat} {cs : List Value} {x : DataW H × List MemPlace} (hu : P.underlying t = some (.slice e)) (hT : P.cellsOf e = E.size) (h0 : 0 < E.size)
 (one : ∀ {fuel : Nat} {cs : List Value} {x : DataW H × List MemPlace}, DataW.trod enc P W 0 (fun _ => true) held fuel e cs = some x → ∃ l, FShp E l ∧ ∀ (D : Nat → Prop) (φ : Phi), φ.fz = fzW W → All2 D φ l cs)
 (h : DataW.trod enc P W 0 (fun _ => true) held fuel t cs = some x) : ∃ l, FShp (.sl E) l ∧ ∀ (D : Nat → Prop) (φ : Phi), φ.fz = fzW W → All2 D φ l cs := by
 rcases DataW.trod_slice hu h with ⟨hc, _⟩ | ⟨a, l', c, elems, rest, n, _, hc, _, hb, hl, hm, hlen, hel, _⟩
 · subst hc
   exact ⟨[.fz [] 0], ⟨[], (fun x hx => by cases hx), by simp [maxLen], rfl⟩, fun D φ _ => .cons (.fz0 _ _ _ (fun _ => rfl)) .nil⟩
 · subst hc
   have key : ∀ m', m' ≤ l' → ∃ ls : List (List AV), ls.length = m' ∧ (∀ x ∈ ls, FShp E x) ∧ ∃ us : List Value, us.length = m' * E.size ∧ (∀ (D : Nat → Prop) (φ : Phi), φ.fz = fzW W → All2 D φ ls.flatten us) ∧ ∀ i, i < m' * E.size → (a.spot = none → W.cell? ⟨a.block, a.off + i, none⟩ = us[i]?) := by
    intro m'
    induction m' with
    | zero => intro _; exact ⟨[], rfl, (fun x hx => by cases hx), [], by simp, (fun D φ _ => by simpa using All2.nil), fun i hi => by simp at hi⟩
    | succ m' ih =>
     intro hm'
     obtain ⟨ls, h1, h2, us, h3, h4, h5⟩ := ih (by omega)
     have hy := hel m' (by omega)
     rw [List.getElem?_eq_getElem (by omega), Option.bind_eq_some_iff, hT] at hy
     obtain ⟨cs, hcs, hy⟩ := hy
     obtain ⟨_, g1, g2⟩ := World.cells?_some hcs
     obtain ⟨l, f1, f2⟩ := one hy
     refine ⟨ls ++ [l], by simp [h1], fun x hx => ?_, us ++ cs, by simp [h3, g1, Nat.add_mul], fun D φ hφ => ?_, fun i hi hspot => ?_⟩
     · rcases List.mem_append.1 hx with hx | hx
       · exact h2 x hx
       · simp at hx; subst hx; exact f1
     · simpa using (h4 D φ hφ).append (f2 D φ hφ)
     · by_cases hlt : i < m' * E.size
       · rw [List.getElem?_append_left (by omega)]; exact h5 i hlt hspot
       · rw [Nat.add_mul, Nat.one_mul] at hi
         rw [List.getElem?_append_right (by omega), h3]
         have := g2 (i - m' * E.size) (by omega)
         rw [← this]
         congr 1
         have hs2 : (a.add (m' * E.size)).spot = none := by rw [add_none a _ hspot]
         rw [add_none _ _ hs2, add_none a _ hspot]
         simp only [Addr.mk.injEq, and_true, true_and]
         omega
   obtain ⟨ls, h1, h2, us, h3, h4, h5⟩ := key l' (Nat.le_refl _)
   refine ⟨[.fz ls.flatten ls.length], ⟨ls, h2, by omega, rfl⟩, fun D φ hφ => .cons ?_ .nil⟩
   by_cases hz : l' = 0
   · rw [h1, hz]; exact .fz0 _ _ _ (fun h => by cases h)
   · -- the first cell shows where the row lies
     have hy := hel 0 (by omega)
     rw [List.getElem?_eq_getElem (by omega), Option.bind_eq_some_iff, hT, Nat.zero_mul] at hy
     obtain ⟨cs, hcs, _⟩ := hy
     obtain ⟨_, g1, g2⟩ := World.cells?_some hcs
     have g3 := g2 0 h0
     rw [List.getElem?_eq_getElem (by omega)] at g3
     have ha0 : (a.add 0).add 0 = a := by simp [Addr.add]
     rw [ha0] at g3
     obtain ⟨hs, vs, hvs, _⟩ := cell_inv g3
     have hA := h4 D φ hφ
     have cellv : ∀ i, i < us.length → vs[a.off + i]? = us[i]? := fun i hi => by
      have := h5 i (by omega) hs
      rw [List.getElem?_eq_getElem hi] at this ⊢
      obtain ⟨_, vs', q1, q2⟩ := cell_inv this
      rw [hvs] at q1; cases q1
      exact q2
     have ha : a = ⟨a.block, a.off, none⟩ := by cases a; simp_all
     rw [ha, h1]
     refine .fz _ _ a.block a.off c vs (by rw [hφ]; exact hvs) hl (fun i hi => ?_) (fun i v u hv' hu' => ?_)
     · have hi' : i < us.length := by rw [← hA.1]; exact hi
       have := cellv i hi'
       rw [List.getElem?_eq_getElem hi'] at this
       rcases Nat.lt_or_ge (a.off + i) vs.size with h' | h'
       · exact h'
       · rw [Array.getElem?_eq_none h'] at this; cases this
     · obtain ⟨u', q1, q2⟩ := hA.get hv'
       have hi' : i < us.length := (List.getElem?_eq_some_iff.1 q1).1
       have := cellv i hi'
       rw [hu', q1] at this
       cases this; exact q2
mutual
theorem open_f : ∀ {T : TyF} {t : TypeId} {fuel : Nat} {cs : List Value} {x : DataW H × List MemPlace}, tyFIs P T t = true → DataW.trod enc P W 0 (fun _ => true) held fuel t cs = some x →
 ∃ l, FShp T l ∧ ∀ (D : Nat → Prop) (φ : Phi), φ.fz = fzW W → All2 D φ l cs
 | .f T, t, fuel, cs, x, hT, h => by
  simp only [tyFIs] at hT
  obtain ⟨l, f1, f2⟩ := open_flat (D := fun _ => False) (φ := ⟨fun _ => 0, fun _ => 0, fun _ => 0, fun _ => 0, fun _ => none, fun _ => none⟩) hT h
  exact ⟨l, f1, fun D φ _ => ⟨f2.1, fun i x u hx hu => (f2.2 i x u hx hu).mono' (fun b hb => hb.elim) (fun b hb => hb.elim) (fun _ _ h => by cases h) (fun _ _ h => by cases h)⟩⟩
 | .sl E, t, fuel, cs, x, hT, h => by
  simp only [tyFIs] at hT
  split at hT
  · rename_i e hu
    simp only [Bool.and_eq_true] at hT
    have hb : Nat.blt 0 E.size = true := hT.2
    rw [Nat.blt_eq] at hb
    exact slice_openF hu (tyFIs_cells hT.1.1) hb (fun h => open_f hT.1.1 h) h
  · cases hT
 | .st Ts, t, fuel, cs, x, hT, h => by
  simp only [tyFIs] at hT
  split at hT
  · rename_i fs hu
    simp only [Bool.and_eq_true] at hT
    obtain ⟨xs, n, _, _, hl, hxl, hall⟩ := DataW.trod_struct hu h
    rw [Nat.eq_of_beq_eq_true hT.2] at hl
    obtain ⟨l, h1, h2⟩ := open_fs (fuel := n) (cs := cs) hT.1 (by omega) (fun f hf => by
     obtain ⟨i, hi⟩ := List.getElem?_of_mem hf
     have h1 := hall i f (by simpa using hi)
     have hlt : i < fs.size := by
      have := (List.getElem?_eq_some_iff.1 hi).1; simpa using this
     rw [h1]
     exact ⟨xs[i], by simp [hxl, hlt]⟩)
    exact ⟨l, h1, by simpa only [List.drop_zero] using h2⟩
  · cases hT
 | .an n E, t, fuel, cs, x, hT, h => by
  simp only [tyFIs] at hT
  split at hT
  · rename_i n' e hu
    simp only [Bool.and_eq_true] at hT
    obtain ⟨⟨hn, hT1⟩, hT2⟩ := hT
    have hn := Nat.eq_of_beq_eq_true hn
    subst hn
    obtain ⟨m, hl, hall⟩ := trod_array hu h
    rw [Nat.eq_of_beq_eq_true hT2] at hl
    have hsz := tyFIs_cells hT1
    have key : ∀ m', m' ≤ n' → ∃ ls : List (List AV), ls.length = m' ∧ (∀ x ∈ ls, FShp E x) ∧ ∀ (D : Nat → Prop) (φ : Phi), φ.fz = fzW W → All2 D φ ls.flatten (cs.take (m' * E.size)) := by
     intro m'
     induction m' with
     | zero => intro _; exact ⟨[], rfl, (fun x hx => by cases hx), fun D φ _ => by simpa using All2.nil⟩
     | succ m' ih =>
      intro hm
      obtain ⟨ls, h1, h2, h3⟩ := ih (by omega)
      obtain ⟨y, hy⟩ := hall m' (by omega)
      rw [hsz] at hy
      obtain ⟨l, g1, g2⟩ := open_f hT1 hy
      refine ⟨ls ++ [l], by simp [h1], fun x hx => ?_, fun D φ hφ => ?_⟩
      · rcases List.mem_append.1 hx with hx | hx
        · exact h2 x hx
        · simp at hx; subst hx; exact g1
      · have : cs.take ((m' + 1) * E.size) = cs.take (m' * E.size) ++ (cs.drop (m' * E.size)).take E.size := by
         rw [Nat.add_mul, Nat.one_mul, List.take_add]
        rw [this]
        simpa using (h3 D φ hφ).append (g2 D φ hφ)
    obtain ⟨ls, h1, h2, h3⟩ := key n' (Nat.le_refl _)
    refine ⟨ls.flatten, ⟨ls, h1, h2, rfl⟩, fun D φ hφ => ?_⟩
    have := h3 D φ hφ
    rwa [List.take_of_length_le (by omega)] at this
  · cases hT
theorem open_fs : ∀ {Ts : List TyF} {fs : List Field} {o : Nat} {fuel : Nat} {cs : List Value}, fldFIs P Ts fs o = true → cs.length = o + fsizeL Ts → (∀ f ∈ fs, ∃ y, DataW.trod enc P W 0 (fun _ => true) held fuel f.type ((cs.drop f.offset).take (P.cellsOf f.type)) = some y) →
 ∃ l, FShps Ts l ∧ ∀ (D : Nat → Prop) (φ : Phi), φ.fz = fzW W → All2 D φ l (cs.drop o)
 | [], [], o, fuel, cs, _, hl, _ => ⟨[], rfl, fun D φ _ => by
  rw [List.drop_of_length_le (by simp only [fsizeL] at hl; omega)]; exact .nil⟩
 | [], _ :: _, o, fuel, cs, h, _, _ => by simp [fldFIs] at h
 | _ :: _, [], o, fuel, cs, h, _, _ => by simp [fldFIs] at h
 | T :: Ts, f :: fs, o, fuel, cs, h, hl, hall => by
  simp only [fldFIs, Bool.and_eq_true] at h
  obtain ⟨⟨ho, hT⟩, hr⟩ := h
  have ho := Nat.eq_of_beq_eq_true ho
  obtain ⟨y, hy⟩ := hall f List.mem_cons_self
  rw [ho, tyFIs_cells hT] at hy
  obtain ⟨a, g1, g2⟩ := open_f hT hy
  simp only [fsizeL] at hl
  obtain ⟨r, g3, g4⟩ := open_fs (cs := cs) hr (by omega) (fun f hf => hall f (List.mem_cons_of_mem _ hf))
  refine ⟨a ++ r, ⟨a, r, rfl, g1, g3⟩, fun D φ hφ => ?_⟩
  have hA := (g2 D φ hφ).append (g4 D φ hφ)
  rwa [← List.drop_drop, List.take_append_drop] at hA
end
theorem arg_f {T : TyF} {t : TypeId} {r : Reach} {base : Nat} {v : Value} {d : DataW H} {ps : List MemPlace} (hT : tyFIs P T t = true) (hval : Value.okWide P W r base t v)
 (h : DataW.Trod enc P W 0 (fun _ => true) held t v d ps) : ∃ l, FShp T l ∧ ∀ (D : Nat → Prop) (φ : Phi), φ.fz = fzW W → VRel D φ (mkArgF T l) v := by
 match T with
 | .f T =>
  simp only [tyFIs] at hT
  obtain ⟨l, f1, f2⟩ := arg_plain (D := fun _ => False) (φ := ⟨fun _ => 0, fun _ => 0, fun _ => 0, fun _ => 0, fun _ => none, fun _ => none⟩) hT hval h
  exact ⟨l, f1, fun D φ _ => f2.mono' (fun b hb => hb.elim) (fun b hb => hb.elim) (fun _ _ h => by cases h) (fun _ _ h => by cases h)⟩
 | .sl E =>
  have hT0 := hT
  obtain ⟨fuel, h⟩ := h
  simp only [tyFIs] at hT
  split at hT
  · rename_i e hu
    simp only [Value.okWide, hu] at hval
    have hcs : v.cells.toList = [v] := by
     simp only [Cell.okWide, hu] at hval
     cases v <;> simp [Cell.ok, hu] at hval <;> rfl
    rw [hcs] at h
    obtain ⟨l, g1, g2⟩ := open_f hT0 h
    refine ⟨l, g1, fun D φ hφ => ?_⟩
    have k1 := g2 D φ hφ
    obtain ⟨ls, _, _, rfl⟩ := g1
    obtain ⟨u, m, he, hr, _⟩ := k1.uncons
    simp at he
    rw [← he.1] at hr; exact hr
  · cases hT
 | .st Ts =>
  have hT' := hT
  simp only [tyFIs] at hT'
  split at hT'
  · rename_i fs hu
    simp only [Value.okWide, hu] at hval
    obtain ⟨cs, rfl, _, ts, _, _, hrow⟩ := hval
    obtain ⟨fuel, h⟩ := h
    simp only [Value.cells] at h
    obtain ⟨l, g1, g2⟩ := open_f hT h
    refine ⟨l, g1, fun D φ hφ => ?_⟩
    have : VRel D φ (.agg l) (.agg cs) := by
     have := VRel.agg' (g2 D φ hφ)
     simpa using this
    exact this
  · cases hT'
 | .an n E =>
  have hT' := hT
  simp only [tyFIs] at hT'
  split at hT'
  · rename_i n' e hu
    simp only [Value.okWide, hu] at hval
    obtain ⟨cs, rfl, _⟩ := hval
    obtain ⟨fuel, h⟩ := h
    simp only [Value.cells] at h
    obtain ⟨l, g1, g2⟩ := open_f hT h
    refine ⟨l, g1, fun D φ hφ => ?_⟩
    have : VRel D φ (.agg l) (.agg cs) := by
     have := VRel.agg' (g2 D φ hφ)
     simpa using this
    exact this
  · cases hT'
theorem open_argsF {r : Reach} {base : Nat} : ∀ {Ts : List TyF} {ts : List TypeId} {vs : List Value} {ds : List (DataW H)} {ps : List MemPlace}, tysF P Ts ts = true → (∀ (i : Nat) t v, ts[i]? = some t → vs[i]? = some v → Value.okWide P W r base t v) →
 DataW.TrodAll enc P W 0 (fun _ => true) held ts vs ds ps → ∃ avs, ArgsF Ts avs ∧ ∀ (D : Nat → Prop) (φ : Phi), φ.fz = fzW W → All2 D φ avs vs
 | [], [], vs, ds, ps, _, _, h => by
  cases vs with
  | nil => exact ⟨[], rfl, fun D φ _ => .nil⟩
  | cons v vs => cases ds <;> exact h.elim
 | T :: Ts, t :: ts, vs, ds, ps, hT, hv, h => by
  simp only [tysF, Bool.and_eq_true] at hT
  match vs, ds, h with
  | v :: vs, d :: ds, ⟨p, q, h1, h2, _⟩ =>
   obtain ⟨avs, g1, g2⟩ := open_argsF hT.2 (fun i t v ht hv' => hv (i + 1) t v (by simpa using ht) (by simpa using hv')) h2
   obtain ⟨l, k1, k2⟩ := arg_f hT.1 (hv 0 t v rfl rfl) h1
   exact ⟨mkArgF T l :: avs, ⟨l, avs, rfl, k1, g1⟩, fun D φ hφ => .cons (k2 D φ hφ) (g2 D φ hφ)⟩
 | [], _ :: _, vs, ds, ps, hT, _, h => by simp [tysF] at hT
 | _ :: _, [], vs, ds, ps, hT, _, h => by simp [tysF] at hT
theorem law_callsF {f : FuncId} {Ts : List TyF} {ts : List TypeId} {args : Array Value} {ds : List (DataW H)} {ps : List MemPlace} {r : Reach} {base n' : Nat} {h' : Hp} {v : Bool} (Gs : List (Nat × List AV)) (hG : ∀ x ∈ Gs, GlobOK W x) (hT : tysF P Ts ts = true)
 (hv : ∀ (i : Nat) t v, ts[i]? = some t → args.toList[i]? = some v → Value.okWide P W r base t v) (h : DataW.TrodAll enc P W 0 (fun _ => true) true ts args.toList ds ps)
 (core : ∀ avs, ArgsF Ts avs → FTL P f avs (glH 0 Gs) Gs.length (.b v) h' n') (hy : f ≠ YB := by decide) (he : ext P f = false := by kernel_rfl) : Calls P f args W fun e W' => e = .returned (.bool v) ∧ Below W.heap.size W W' := by
 obtain ⟨avs, g1, g2⟩ := open_argsF hT hv h
 let φ : Phi := ⟨fun b => ((Gs[b]?).map (·.1)).getD 0, fun b => 0, fun _ => 0, fun _ => 0, fzW W, fun _ => none⟩
 have k1 := g2 (fun b => b < Gs.length) φ rfl
 have k4 : RoOK 0 Gs.length (glH 0 Gs) (fun b => b < Gs.length) φ W := ⟨fun b k hb => by
  obtain ⟨q1, q2, g, c, q3, rfl⟩ := glH_get hb
  obtain ⟨cs, elem, fr, q4, q5⟩ := hG (g, c) (List.mem_of_getElem? q3)
  have hblk : φ.blk b = g := by simp only [Nat.sub_zero] at q3; simp [φ, q3]
  refine ⟨q1, by omega, rfl, by simpa using q2, ⟨⟨cs, elem, fr, by rw [hblk]; exact q4, fun i v hi => ?_, fun hr => (by cases hr), fun e he => (by cases he)⟩, fun g' hg' => ?_⟩⟩
  · obtain ⟨u, h1, h2⟩ := q5 (fun b => b < Gs.length) φ i v hi
    exact ⟨u, by show cs[0 + i]? = _; rw [Nat.zero_add]; exact h1, h2⟩
  · simp only [Option.some.injEq] at hg'; subst hg'; exact ⟨hblk, rfl⟩⟩
 have hH : HR (fun b => b < Gs.length) φ (hget (glH 0 Gs)) W :=
  ⟨⟨fun b k hb => ⟨(k4.at_ b k hb).2.2.2.1, (k4.at_ b k hb).2.2.2.2⟩, fun b1 b2 x1 x2 _ hb1 _ hro => by rw [(k4.at_ b1 x1 hb1).2.2.1] at hro; cases hro⟩, (fun B vs h => fzW_spec h), (fun L r h => by cases h), (fun b k B vs hb hro _ => by rw [(k4.at_ b k hb).2.2.1] at hro; cases hro)⟩
 have := core avs g1 (fun b => b < Gs.length) φ W args.toList (fun b hb => hb) hH k1
 simp only [Array.toArray_toList] at this
 refine (this.calls hy he).mono fun e w' hx => ?_
 obtain ⟨D', φ', u, rfl, _, hr, hS⟩ := hx
 cases hr
 exact ⟨rfl, FRM.below k4 hS.frm⟩
theorem law_postF {f : FuncId} {fn : Func} {s : ChangeSpec} {Ts : List TyF} {args : Array Value} {ds gs : List (DataW H)} {before : List MemPlace} {r : Reach} {base n' : Nat} {h' : Hp} {tb : TypeId} {fresh handsOn : Bool} (Gs : List (Nat × List AV)) (hG : ∀ x ∈ Gs, GlobOK W x)
 (hT : tysF P Ts fn.params.toList = true) (hl : laidOutB P = true) (hread : (fn.params.toList.all fun t => P.readableRec t && decide (t < P.types.size)) = true) (hres : fn.resultTypes = #[tb]) (htb : P.underlying tb = some .bool) (hvars : s.vars = [])
 (hspec : ∀ (l : List (DataW H)), l.length = Ts.length → s.fn H l = { results := [.lit (.bool true)], args := l })
 (hv : ∀ (j : Nat) t v, fn.params[j]? = some t → args[j]? = some v → Value.okWide P W r base t v) (hW : DataW.Whole enc P fn.params.toList s.vars false W args.toList ds gs before)
 (core : ∀ avs, ArgsF Ts avs → FTL P f avs (glH 0 Gs) Gs.length (.b true) h' n') (hy : f ≠ YB := by decide) (he : ext P f = false := by kernel_rfl) : Calls P f args W fun e W' => ∃ v, e = .returned v ∧ s.post enc P fn false fresh handsOn false W args v W' := by
 have hW' := hW
 have hlt := hW.lt
 obtain ⟨p, q, hA, hV, rfl, hfz, hnd⟩ := hW
 rw [hvars] at hV
 obtain ⟨rfl, rfl⟩ := trodVars_none hV
 refine (law_callsF Gs hG hT (fun i t v ht hv' => hv i t v (by simpa using ht) (by simpa using hv')) hA core hy he).mono fun e W' hx => ?_
 obtain ⟨rfl, hB⟩ := hx
 have hlen : ds.length = Ts.length := by
  have h1 : ∀ {ts : List TypeId} {vs : List Value} {ds : List (DataW H)} {ps : List MemPlace}, DataW.TrodAll enc P W 0 (fun _ => true) true ts vs ds ps → ds.length = ts.length := by
   intro ts
   induction ts with
   | nil => intro vs ds ps h; obtain ⟨_, rfl, _⟩ := trodAll_nil h; rfl
   | cons t ts ih => intro vs ds ps h; obtain ⟨_, _, _, _, _, _, _, rfl, _, _, h2⟩ := trodAll_cons h; simp [ih h2]
  have h2 : ∀ {Ts : List TyF} {ts : List TypeId}, tysF P Ts ts = true → Ts.length = ts.length := by
   intro Ts
   induction Ts with
   | nil => intro ts h; cases ts with
    | nil => rfl
    | cons => simp [tysF] at h
   | cons T Ts ih => intro ts h; cases ts with
    | nil => simp [tysF] at h
    | cons t ts => simp only [tysF, Bool.and_eq_true] at h; simp [ih h.2]
  rw [h1 hA, h2 hT]
 have hfn := hspec (ds ++ []) (by simpa using hlen)
 have hlt' : ∀ x ∈ p, x.block < W.heap.size := fun x hx => hlt x (by simpa using hx)
 refine ⟨_, rfl, ds, [], p ++ [], [], p, [], hW', ?_, ?_, ?_, hB.frame _, fun h => by cases h⟩
 · rw [hfn, hres]
   exact trodAll_mk1 (shut_bool htb _)
 · rw [hfn]
   simpa using Below.trodAll hl hB hread hlt' hA
 · rw [hfn, hvars]; rfl
end
end Go.Ab
end
section
/- The abstract layer, part 57: at a function's end, blocks that nobody writes any more are frozen. -/
namespace Go.Ab
set_option linter.unusedVariables false
set_option linter.unusedSimpArgs false
def CovS (n0 : Nat) (v : AV) (h : Hp) (n : Nat) (v2 : AV) (h2 : Hp) (n2 : Nat) : Prop :=
 ∀ (D : Nat → Prop) (φ : Phi) (w : World) (D0 : Nat → Prop) (φ0 : Phi) (H0 : Hf) (w0 : World) (u : Value), (∀ b, D0 b → b < n0) → (∀ b, D b → b < n) → VRel D φ v u → HR D φ (hget h) w → Stp D0 φ0 H0 w0 D φ (hget h) w →
  ∃ D' φ', (∀ b, D' b → b < n2) ∧ VRel D' φ' v2 u ∧ Stp D0 φ0 H0 w0 D' φ' (hget h2) w
theorem CovS.ends {n0 n n2 : Nat} {v v2 : AV} {h h2 : Hp} (he : Ends n0 v h n v2 h2 n2) : CovS n0 v h n v2 h2 n2 := Cov.ends _ _ _ _ _ _ _ he
theorem Cov.covs : Cov CovS := fun _ _ _ _ _ _ _ hW => hW
theorem FTL.of_covs {f : FuncId} {P : Program} {fn : Func} {I : IFn} {args : List AV} {n : Nat} {h : Hp} {v2 : AV} {h2 : Hp} {n2 : Nat} (hf : P.funcs[f]? = some fn) (hI : compF P fn = some I) (hnp : args.length ≤ I.N)
 (hi : ∀ c, compC P I.ct I.N c = I.code → WP P I.N n c (retK I.res fun v h' n' => CovS n v h' n' v2 h2 n2) (argEnv 0 args) h n) : FTL P f args h n v2 h2 n2 :=
 FTLx.of_wpC Cov.covs hf hI hnp (fun c hc => (hi c hc).mono (retX_of_retK fun _ _ _ h => ⟨rfl, h⟩))
theorem FTL.of_cov {f : FuncId} {P : Program} {fn : Func} {I : IFn} {cx : Cx} {args : List AV} {n : Nat} {h : Hp} {v2 : AV} {h2 : Hp} {n2 : Nat} (hcx : Sound P cx) (hm : P.follows .mixedOrders = true) (hf : P.funcs[f]? = some fn) (hI : compF P fn = some I) (hnp : args.length ≤ I.N)
 (hi : iw ⟨P, cx, I.ct, I.N, n⟩ I.code (retK I.res fun v h' n' => CovS n v h' n' v2 h2 n2) (argEnv 0 args) h n) : FTL P f args h n v2 h2 n2 :=
 FTL.of_covs hf hI hnp (fun c hc => iw_sound ⟨P, cx, I.ct, I.N, n⟩ hcx hm c _ _ _ _ (by show iw _ (compC P I.ct I.N c) _ _ _ _; rw [hc]; exact hi))
theorem FTL.of_seamC {f : FuncId} {P : Program} {fn : Func} {I : IFn} {cx : Cx} {args : List AV} {n : Nat} {h : Hp} {v2 : AV} {h2 : Hp} {n2 : Nat} (hf : P.funcs[f]? = some fn) (hI : compF P fn = some I) (hnp : args.length ≤ I.N)
 (hi : Seam ⟨P, cx, I.ct, I.N, n⟩ I.code (retK I.res fun v h' n' => CovS n v h' n' v2 h2 n2) (argEnv 0 args) h n) : FTL P f args h n v2 h2 n2 :=
 FTL.of_covs hf hI hnp (fun c hc => hi c hc)
def FzV (x y : AV) (v v' : AV) : Prop := ∀ (D : Nat → Prop) (φ : Phi) (u : Value), (∀ u1, VRel D φ x u1 → VRel D φ y u1) → VRel D φ v u → VRel D φ v' u
theorem FzV.hit {x y : AV} : FzV x y x y := fun D φ u h hv => h u hv
theorem FzV.refl {x y v : AV} : FzV x y v v := fun D φ u h hv => hv
def FzVs (x y : AV) : List AV → List AV → Prop
 | [], [] => True
 | a :: l, b :: m => FzV x y a b ∧ FzVs x y l m
 | _, _ => False
theorem FzVs.len {x y : AV} : ∀ {l m : List AV}, FzVs x y l m → l.length = m.length
 | [], [], _ => rfl
 | a :: l, b :: m, h => by simp [FzVs.len h.2]
 | [], _ :: _, h => h.elim
 | _ :: _, [], h => h.elim
theorem FzVs.get {x y : AV} : ∀ {l m : List AV} {i : Nat} {b : AV}, FzVs x y l m → m[i]? = some b → ∃ a, l[i]? = some a ∧ FzV x y a b
 | [], [], i, b, _, hi => by simp at hi
 | a :: l, c :: m, 0, b, h, hi => by simp at hi; subst hi; exact ⟨a, rfl, h.1⟩
 | a :: l, c :: m, i + 1, b, h, hi => by
  obtain ⟨a', h1, h2⟩ := FzVs.get h.2 (by simpa using hi)
  exact ⟨a', by simpa using h1, h2⟩
 | [], _ :: _, _, _, h, _ => h.elim
 | _ :: _, [], _, _, h, _ => h.elim
theorem FzV.agg {x y : AV} {l m : List AV} (h : FzVs x y l m) : FzV x y (.agg l) (.agg m) := fun D φ u hx hv => by
 cases hv with
 | agg _ cs hl hh =>
  refine .agg m cs (by rw [← hl, h.len]) (fun i b u hb hu => ?_)
  obtain ⟨a, h1, h2⟩ := h.get hb
  exact h2 D φ u hx (hh i a u h1 hu)
theorem FzV.tup {x y : AV} {l m : List AV} (h : FzVs x y l m) : FzV x y (.tup l) (.tup m) := fun D φ u hx hv => by
 cases hv with
 | tup _ cs hl hh =>
  refine .tup m cs (by rw [← hl, h.len]) (fun i b u hb hu => ?_)
  obtain ⟨a, h1, h2⟩ := h.get hb
  exact h2 D φ u hx (hh i a u h1 hu)
theorem CovS.frz {n0 n n2 : Nat} {v v' v2 : AV} {h h' h2 : Hp} {x : AV} {b : Nat} {k : Blk} {cs : List AV} {m o : Nat} (hk : hget h b = some k) (hro : k.ro = false) (hx : (∃ cap, x = .sl b o m cap ∧ m ≤ cap) ∨ x = .sg b o m) (hcs : cs = k.cells.drop o ∨ cs = (k.cells.drop o).take cs.length) (hf : FzV x (.fz cs m) v v')
 (hh : ∀ c kk, hget h' c = some kk → c ≠ b ∧ hget h c = some kk) (hc : CovS n0 v' h' n v2 h2 n2) : CovS n0 v h n v2 h2 n2 := by
 intro D φ w D0 φ0 H0 w0 u hD0 hD hv hH hS
 obtain ⟨hdb, ⟨⟨vs, elem, fr, q1, q2, q3, q4⟩, q5⟩⟩ := hH.at_ b k hk
 let φ1 : Phi := { φ with fz := fun B => if B = φ.blk b then some vs else φ.fz B }
 have ag : Agree D φ φ1 := ⟨fun c _ => ⟨rfl, rfl, rfl, rfl⟩, fun B vs' hB => by
  simp only [φ1]
  split
  · rename_i hBb
    subst hBb
    obtain ⟨elem', fr', h1⟩ := hH.fz _ _ hB
    rw [q1] at h1
    simp only [Option.some.injEq, Obj.cells.injEq] at h1
    rw [h1.1]
  · exact hB, rfl⟩
 have hxy : ∀ u1, VRel D φ1 x u1 → VRel D φ1 (.fz cs m) u1 := fun u1 h1 => by
  have get : ∀ (i : Nat) (a : AV), cs[i]? = some a → ∃ u, vs[φ.off b + o + i]? = some u ∧ VRel D φ a u := fun i a ha => by
   have ha' : k.cells[o + i]? = some a := by
    rcases hcs with e | e
    · rw [e, List.getElem?_drop] at ha; exact ha
    · rw [e, List.getElem?_take, List.getElem?_drop] at ha
      split at ha
      · exact ha
      · cases ha
   obtain ⟨u, hu, hr⟩ := q2 _ a ha'
   exact ⟨u, by rw [Nat.add_assoc]; exact hu, hr⟩
  have g1 : φ1.fz (φ.blk b) = some vs := by simp [φ1]
  have g2 : ∀ i, i < cs.length → φ.off b + o + i < vs.size := fun i hi => by
   obtain ⟨u, hu, _⟩ := get i _ (List.getElem?_eq_getElem hi)
   rcases Nat.lt_or_ge (φ.off b + o + i) vs.size with h' | h'
   · exact h'
   · rw [Array.getElem?_eq_none h'] at hu; cases hu
  have g3 : ∀ (i : Nat) (a : AV) (u : Value), cs[i]? = some a → vs[φ.off b + o + i]? = some u → VRel D φ1 a u := fun i a u ha hu => by
   obtain ⟨u', hu', hr⟩ := get i a ha
   rw [hu] at hu'; cases hu'
   exact hr.mono (fun _ h => h) ag
  rcases hx with ⟨cap, rfl, hcap⟩ | rfl
  · cases h1 with
    | sl _ _ _ _ _ => exact .fz _ _ _ _ _ vs g1 hcap g2 g3
  · cases h1 with
    | sg _ _ _ j cap _ _ _ hl => exact .fz _ _ _ _ _ vs g1 hl g2 g3
 have hv1 : VRel D φ1 v' u := hf D φ1 u hxy (hv.mono (fun _ h => h) ag)
 have hH1 : HR D φ1 (hget h') w := by
  refine ⟨⟨fun c kk hc => ?_, fun b1 b2 k1 k2 hne h1 h2 hr => ?_⟩, fun B vs' hB => ?_, hH.lp, fun c kk B vs' hc hr hB => ?_⟩
  · obtain ⟨_, h2⟩ := hh c kk hc
    have h3 := hH.at_ c kk h2
    exact ⟨h3.1, h3.2.mono (fun _ h => h) ag h3.1 rfl⟩
  · exact hH.sep b1 b2 k1 k2 hne (hh _ _ h1).2 (hh _ _ h2).2 hr
  · simp only [φ1] at hB
    split at hB
    · rename_i e; subst e; cases hB; exact ⟨elem, fr, q1⟩
    · exact hH.fz B vs' hB
  · obtain ⟨h1, h2⟩ := hh c kk hc
    simp only [φ1] at hB
    split at hB
    · rename_i e; subst e
      exact hH.sep c b kk k h1 h2 hk hr
    · exact hH.fsep c kk B vs' h2 hr hB
 refine hc D φ1 w D0 φ0 H0 w0 u hD0 hD hv1 hH1 ⟨hS.sub, ⟨hS.agree.at_, fun B vs' hB => ag.fz B vs' (hS.agree.fz B vs' hB), hS.agree.lp⟩, hH1, hS.frm, fun c kk hc hr => hS.img c kk (hh c kk hc).2 hr, fun B vs' hB => ?_⟩
 simp only [φ1] at hB
 split at hB
 · rename_i e; subst e
   exact .inr (hS.img b k hk hro)
 · exact hS.fnew B vs' hB
theorem CovS.frzN {n0 n n2 : Nat} {v v' v2 : AV} {h h2 : Hp} {l : List AV} (hf : FzV .ns (.fz l 0) v v') (hc : CovS n0 v' h n v2 h2 n2) : CovS n0 v h n v2 h2 n2 := by
 intro D φ w D0 φ0 H0 w0 u hD0 hD hv hH hS
 exact hc D φ w D0 φ0 H0 w0 u hD0 hD (hf D φ u (fun u1 h1 => by cases h1; exact .fz0 _ _ _ (fun _ => rfl)) hv) hH hS
end Go.Ab
end
section
/- The abstract layer, part 58: calls that look at slices and boxes of plain cells (general form); slices.IndexFunc and slices.ContainsFunc over frozen slices. -/
namespace Go.Ab
set_option linter.unusedVariables false
set_option linter.unusedSimpArgs false
set_option maxRecDepth 100000
def VwV (h : Hp) (rd : List Nat) (a aF : AV) : Prop := ∀ (D D' : Nat → Prop) (φ : Phi) (w : World) (u : Value), HR D φ (only (hget h) rd) w → VRel D φ a u → VRel D' (φ.frz (only (hget h) rd) w) aF u
def VwL (h : Hp) (rd : List Nat) : List AV → List AV → Prop
 | [], [] => True
 | a :: l, b :: m => VwV h rd a b ∧ VwL h rd l m
 | _, _ => False
section
variable {h : Hp} {rd : List Nat}
theorem VwV.same {a : AV} (ha : a.bel 0 = true) : VwV h rd a a := fun D D' φ w u hH hv => (hv.mono (D' := D) (fun _ h => h) (Phi.frz_agree hH D)).bel0 ha
theorem VwL.len : ∀ {l m : List AV}, VwL h rd l m → l.length = m.length
 | [], [], _ => rfl
 | a :: l, b :: m, h => by simp [VwL.len h.2]
 | [], _ :: _, h => h.elim
 | _ :: _, [], h => h.elim
theorem VwL.get : ∀ {l m : List AV} {i : Nat} {b : AV}, VwL h rd l m → m[i]? = some b → ∃ a, l[i]? = some a ∧ VwV h rd a b
 | [], [], i, b, _, hi => by simp at hi
 | a :: l, c :: m, 0, b, h, hi => by simp at hi; subst hi; exact ⟨a, rfl, h.1⟩
 | a :: l, c :: m, i + 1, b, h, hi => by
  obtain ⟨a', h1, h2⟩ := VwL.get h.2 (by simpa using hi)
  exact ⟨a', by simpa using h1, h2⟩
 | [], _ :: _, _, _, h, _ => h.elim
 | _ :: _, [], _, _, h, _ => h.elim
theorem VwV.fn {f : FuncId} {l m : List AV} (hl : VwL h rd l m) : VwV h rd (.fn f l) (.fn f m) := fun D D' φ w u hH hv => by
 cases hv with
 | fn _ _ cs hf hlen hh =>
  refine .fn f m cs hf (by rw [← hlen, hl.len]) (fun i b u hb hu => ?_)
  obtain ⟨a, h1, h2⟩ := hl.get hb
  exact h2 D D' φ w u hH (hh i a u h1 hu)
theorem VwV.p {b o : Nat} {k : Blk} (hb : only (hget h) rd b = some k) (hk : belL 0 k.cells = true) : VwV h rd (.p b o) (.fp k.cells o) := fun D D' φ w u hH hv => by
 cases hv with
 | p _ _ hD =>
  obtain ⟨_, ⟨⟨vs, elem, fr, h1, h2, _⟩, _⟩⟩ := hH.at_ b k hb
  have := VRel.fp (D := D') (φ := φ.frz (only (hget h) rd) w) k.cells o (φ.blk b) (φ.off b) vs (by rw [Phi.frz_at (D := D) hb]; simp [fzW, h1]) (fun i hi => by
   obtain ⟨u, hu, _⟩ := h2 i _ (List.getElem?_eq_getElem hi)
   rcases Nat.lt_or_ge (φ.off b + i) vs.size with h' | h'
   · exact h'
   · rw [Array.getElem?_eq_none h'] at hu; cases hu) (fun i a u ha hu => by
   obtain ⟨u', hu', hr⟩ := h2 i a ha
   rw [hu] at hu'; cases hu'
   exact (hr.mono (D' := D) (fun _ h => h) (Phi.frz_agree hH D)).bel0 (belL_spec hk a (List.mem_of_getElem? ha)))
  exact this
theorem vwK_sub {z : Nat} {x : AV} {rd' : List Nat} {m : Nat} {cs : List AV}
 (hv : vwK h z x (fun rd m cs ok => some (rd, m, cs, ok)) = some (rd', m, cs, true)) (hcs : belL 0 cs = true) (hrd : ∀ b, inl rd' b = true → inl rd b = true) : VwV h rd x (.fz cs m) := fun D D' φ w u hH hx => by
 have h1 := VRel.view (D' := D') (only_sub hH hrd) hx hv hcs
 refine VRel.mono (φ := φ.frz (only (hget h) rd') w) (fun _ h => h) ?_ h1
 refine ⟨fun b _ => ⟨rfl, rfl, rfl, rfl⟩, fun B vs hB => ?_, rfl⟩
 simp only [Phi.frz] at hB ⊢
 split at hB
 · rename_i hex
   obtain ⟨b, k, hb, hbB⟩ := hex
   have hb2 : only (hget h) rd b = some k := by
    unfold only at hb ⊢
    cases hb' : inl rd' b
    · simp [hb'] at hb
    · rw [hrd b hb']; simpa [hb'] using hb
   rw [if_pos ⟨b, k, hb2, hbB⟩]
   exact hB
 · split
   · exact hH.fz_eq hB
   · exact hB
end
theorem CallOK.viewG {P : Program} {f : FuncId} {args argsF : List AV} {h : Hp} {n : Nat} {rd : List Nat} {v : AV} (hc : Go.Ab.callable P f = true)
 (hv : VwL h rd args argsF) (hpl : v.pl = true) (hf : FTL P f argsF [] 0 v [] 0) : CallOK P f args h n { v, n, rd } := by
 refine ⟨hc, Nat.le_refl _, fun b r hb => by simp [mget] at hb, fun b kk hb => by simp [hget] at hb, fun D φ w us hfresh hH hA => ?_⟩
 let φ1 := φ.frz (only (hget h) rd) w
 have hH1 : HR (fun _ => False) φ1 (hget []) w := ⟨⟨fun b k hb => by simp [hget] at hb, fun b1 b2 k1 k2 _ hb => by simp [hget] at hb⟩, fun B vs hB => by
  simp only [φ1, Phi.frz] at hB
  split at hB
  · exact fzW_spec hB
  · exact hH.fz B vs hB, hH.lp, fun b k B vs hb => by simp [hget] at hb⟩
 have hA1 : All2 (fun _ => False) φ1 argsF us := ⟨by rw [← hv.len]; exact hA.1, fun i a u ha hu => by
  obtain ⟨a', h1, h2⟩ := hv.get ha
  exact h2 D _ φ w u hH (hA.2 i a' u h1 hu)⟩
 refine (hf (fun _ => False) φ1 w us (fun _ h => h.elim) hH1 hA1).mono fun e w' hx => ?_
 obtain ⟨D', φ', u, rfl, hD', hr, hS⟩ := hx
 have hd : ∀ b, D b → Dn D n n b := fun b h => .inl h
 have e : (Eff.app { v, n, rd } (only (hget h) rd)) = only (hget h) rd := by funext b; rfl
 have hst : ∀ c, c < w.heap.size → w'.heap[c]? = w.heap[c]? := fun c hc => hS.frm.block c hc (fun b k hb => by simp [hget] at hb)
 refine ⟨u, φ, rfl, hr.pl hpl, ?_, fun c kk hc _ => by rw [e] at hc; exact hc⟩
 show Stp D φ _ w (Dn D n n) φ (Eff.app _ _) w'
 rw [e]
 exact Stp.mk' hH rfl rfl hd (Agree.refl D φ).at_ ⟨fun b k hb => ⟨hd b (hH.at_ b k hb).1, (hH.at_ b k hb).2.mono hd (Agree.refl _ _) (hH.at_ b k hb).1 (hst _ (hH.at_ b k hb).2.lt)⟩, hH.sep⟩
  ⟨hS.frm.os, hS.frm.tape, hS.frm.output, hS.frm.size, fun c hc _ => hst c hc⟩ (fun b k hb hk => .inr ⟨b, k, hb, hk, rfl⟩)
end Go.Ab
end
section
/- The abstract layer, part 59: slices.IndexFunc and slices.ContainsFunc over frozen slices. -/
namespace Go.Ab
set_option maxRecDepth 100000
set_option maxHeartbeats 4000000
set_option linter.unusedSimpArgs false
set_option linter.unusedVariables false
section
variable {P : Program} {α : Type} {row : α → List AV} {el : α → AV} {p : α → Bool} {g : FuncId} {caps : List AV}
end
end Go.Ab
end
section
/- The abstract layer, part 53: a law's arguments that are slices. -/
namespace Go.Ab
set_option linter.unusedVariables false
theorem flat_rows {α : Type} {T : Ty} {f : α → List AV} {ok : α → Bool} (h : ∀ x, Flat T x → ∃ a, x = f a ∧ ok a = true) : ∀ ls : List (List AV), (∀ x ∈ ls, Flat T x) → ∃ l : List α, ls.flatten = rows f l ∧ l.length = ls.length ∧ l.all ok = true
 | [], _ => ⟨[], rfl, rfl, rfl⟩
 | x :: ls, hx => by
  obtain ⟨a, rfl, ha⟩ := h x (hx x List.mem_cons_self)
  obtain ⟨l, h1, h2, h3⟩ := flat_rows h ls (fun y hy => hx y (List.mem_cons_of_mem _ hy))
  exact ⟨a :: l, by rw [List.flatten_cons, h1]; rfl, by simp [h2], by simp [ha, h3]⟩
end Go.Ab
end
section
/- Media packets as values: what is frozen in them; plain laws. -/
namespace Go.Ab
set_option maxRecDepth 100000
set_option linter.unusedSimpArgs false
set_option linter.unusedVariables false
abbrev Xt := Int × List UInt8
def xtR (x : Xt) : List AV := [.i .i64 x.1, .s x.2]
theorem xtR_len : ∀ x, (xtR x).length = 2 := fun _ => rfl
theorem xtR_bel : ∀ x, belL 0 (xtR x) = true := fun _ => rfl
structure Md where
 ma : Bool
 ty : Int
 sq : Int
 tm : Int
 ss : Int
 cs : List Int
 xs : List Xt
 pd : Int
 pl : List UInt8
def Md.l (p : Md) : List AV := [.b p.ma, .i .i64 p.ty, .i .i64 p.sq, .i .i64 p.tm, .i .i64 p.ss, .fz (rows int1 p.cs) p.cs.length, .fz (rows xtR p.xs) p.xs.length, .i .i64 p.pd, .s p.pl]
theorem Md.len : ∀ p : Md, p.l.length = 9 := fun _ => rfl
theorem Md.bel : ∀ p : Md, belL 0 p.l = true := fun p => by
 simp only [Md.l, belL, AV.bel, rows_bel int1_bel, rows_bel xtR_bel, Bool.and_self]
theorem rows_inj {α : Type} {f : α → List AV} {z : Nat} (hf : ∀ a, (f a).length = z) (hi : ∀ a b, f a = f b → a = b) : ∀ {l m : List α}, l.length = m.length → rows f l = rows f m → l = m
 | [], [], _, _ => rfl
 | a :: l, b :: m, hl, h => by
  rw [rows_cons, rows_cons] at h
  obtain ⟨h1, h2⟩ := List.append_inj h (by rw [hf, hf])
  rw [hi _ _ h1, rows_inj hf hi (by simpa using hl) h2]
 | [], _ :: _, h, _ => by simp at h
 | _ :: _, [], h, _ => by simp at h
theorem Md.inj {p q : Md} (h : p.l = q.l) : p = q := by
 obtain ⟨a1, a2, a3, a4, a5, a6, a7, a8, a9⟩ := p
 obtain ⟨b1, b2, b3, b4, b5, b6, b7, b8, b9⟩ := q
 simp only [Md.l, List.cons.injEq, AV.b.injEq, AV.i.injEq, AV.fz.injEq, AV.s.injEq, true_and, and_true] at h
 obtain ⟨rfl, rfl, rfl, rfl, rfl, ⟨h6, l6⟩, ⟨h7, l7⟩, rfl, rfl⟩ := h
 have e6 := rows_inj (f := int1) int1_len (fun a b e => by simpa [int1] using e) l6 h6
 have e7 := rows_inj (f := xtR) xtR_len (fun a b e => by
  simp only [xtR, List.cons.injEq, AV.i.injEq, AV.s.injEq, true_and, and_true] at e
  exact Prod.ext e.1 e.2) l7 h7
 rw [e6, e7]
def u32R (x : Int) : List AV := [.i .u32 x]
def pcR (x : Int × List UInt8) : List AV := [.i .u8 x.1, .s x.2]
theorem u32R_bel : ∀ x, belL 0 (u32R x) = true := fun _ => rfl
theorem pcR_bel : ∀ x, belL 0 (pcR x) = true := fun _ => rfl
structure Dm where
 ma : Bool
 ty : Int
 sq : Int
 tm : Int
 ss : Int
 cs : List Int
 xs : List Xt
 pd : Int
 pl : List UInt8
def Dm.l (p : Dm) : List AV := [.b p.ma, .i .u8 p.ty, .i .u16 p.sq, .i .u32 p.tm, .i .u32 p.ss, .fz (rows u32R p.cs) p.cs.length, .fz (rows pcR p.xs) p.xs.length, .i .u8 p.pd, .s p.pl]
theorem Dm.bel : ∀ p : Dm, belL 0 p.l = true := fun p => by
 simp only [Dm.l, belL, AV.bel, rows_bel u32R_bel, rows_bel pcR_bel, Bool.and_self]
def extD : Int → List Xt → List Xt
 | _, [] => []
 | id, x :: r => (id + 1 + x.1 % 60, x.2.take 20) :: extD (id + 1 + x.1 % 60) r
def Dm.md (p : Dm) : Md := ⟨p.ma, p.ty % 128, p.sq, p.tm, p.ss, p.cs.take 3, extD 0 (p.xs.take 4), p.pd, p.pl.take 60⟩
structure Dm.ok (p : Dm) : Prop where
 ty : 0 ≤ p.ty ∧ p.ty ≤ 255
 sq : 0 ≤ p.sq ∧ p.sq ≤ 65535
 tm : 0 ≤ p.tm ∧ p.tm ≤ 4294967295
 ss : 0 ≤ p.ss ∧ p.ss ≤ 4294967295
 pd : 0 ≤ p.pd ∧ p.pd ≤ 255
 cs : ∀ x ∈ p.cs, 0 ≤ x ∧ x ≤ 4294967295
 xs : ∀ x ∈ p.xs, 0 ≤ x.1 ∧ x.1 ≤ 255
theorem vwK_eq {α : Type} {h : Hp} {z : Nat} {x : AV} {k : List Nat → Nat → List AV → Bool → Option α} : vwK h z x k = (vwK h z x (fun a b c d => some (a, b, c, d))).bind fun r => k r.1 r.2.1 r.2.2.1 r.2.2.2 := by
 cases x <;> simp only [vwK, Option.bind_some, Option.bind_none] <;> (cases hget h _ <;> rfl)
def mapN {α : Type} (g : Nat → α) : Nat → List α
 | 0 => []
 | k + 1 => mapN g k ++ [g k]
theorem mapN_z {α : Type} {g : Nat → α} : mapN g 0 = [] := (rfl)
theorem mapN_s {α : Type} {g : Nat → α} {k : Nat} : mapN g (k + 1) = mapN g k ++ [g k] := (rfl)
theorem mapN_len {α : Type} {g : Nat → α} : ∀ k, (mapN g k).length = k
 | 0 => rfl
 | k + 1 => by rw [mapN_s, List.length_append, mapN_len k]; rfl
theorem mapN_get {α : Type} {g : Nat → α} : ∀ {k i : Nat}, i < k → (mapN g k)[i]? = some (g i)
 | k + 1, i, h => by
  rw [mapN_s]
  rcases Nat.lt_succ_iff_lt_or_eq.1 h with h' | h'
  · rw [List.getElem?_append_left (by rw [mapN_len]; exact h')]; exact mapN_get h'
  · subst h'; rw [List.getElem?_append_right (by rw [mapN_len]; omega), mapN_len]; simp
def strR (x : List UInt8) : List AV := [.s x]
theorem strR_len : ∀ x, (strR x).length = 1 := fun _ => rfl
theorem strR_bel : ∀ x, belL 0 (strR x) = true := fun _ => rfl
theorem splice_set {α : Type} {f : α → List AV} {z : Nat} (hf : ∀ a, (f a).length = z) {a : α} : ∀ {l : List α} {i : Nat}, i < l.length → splice (rows f l) (i * z) (f a) = rows f (l.set i a)
 | [], i, h => by simp at h
 | x :: l, 0, _ => by
  rw [List.set_cons_zero, rows_cons, rows_cons]
  unfold splice
  rw [Nat.zero_mul, List.take_zero, List.nil_append, Nat.zero_add, hf, ← hf x, List.drop_left]
 | x :: l, i + 1, h => by
  rw [List.set_cons_succ, rows_cons, rows_cons, ← splice_set hf (l := l) (i := i) (by simpa using h)]
  unfold splice
  rw [Nat.add_mul, Nat.one_mul, Nat.add_comm (i * z) z, ← hf x, List.take_length_add_append, Nat.add_assoc, List.drop_length_add_append, List.append_assoc, List.append_assoc, List.append_assoc]
end Go.Ab
end
