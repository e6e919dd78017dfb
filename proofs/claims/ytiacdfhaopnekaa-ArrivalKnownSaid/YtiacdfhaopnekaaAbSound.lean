/- The abstract layer, part 6: each single operation of the small language stands for the model's. -/
import Derived.Test.YtiacdfhaopnekaaAbComp
namespace Go.Ab
set_option linter.unusedVariables false
set_option linter.unusedSimpArgs false

theorem avOf1_rel {D : Nat → Prop} {φ : Phi} {u : Value} {v : AV} (h : avOf1 u = some v) : VRel D φ v u := by
  unfold avOf1 at h
  split at h <;> cases h
  · exact .b _
  · exact .i _ _
  · rename_i s; have := VRel.s (D := D) (φ := φ) s.data.toList; simpa using this
  · exact .np
  · exact .ns
  · exact .nf
  · exact .ni

theorem avOf1_one {u : Value} {v : AV} (h : avOf1 u = some v) : u.oneCell' = true ∧ v.one = true := by
  unfold avOf1 at h
  split at h <;> cases h <;> exact ⟨rfl, rfl⟩

theorem avsOf_rel {D : Nat → Prop} {φ : Phi} : ∀ {l : List Value} {m : List AV}, avsOf l = some m → All2 D φ m l
  | [], m, h => by simp [avsOf] at h; subst h; exact .nil
  | u :: l, m, h => by
    simp only [avsOf, Option.bind_eq_some_iff] at h
    obtain ⟨x, hx, xs, hxs, h⟩ := h
    cases h
    exact .cons (avOf1_rel hx) (avsOf_rel hxs)

theorem avOf_rel {D : Nat → Prop} {φ : Phi} {u : Value} {v : AV} (h : avOf u = some v) : VRel D φ v u := by
  unfold avOf at h
  split at h
  · obtain ⟨m, hm, rfl⟩ := Option.map_eq_some_iff.1 h
    have := VRel.agg' (avsOf_rel (D := D) (φ := φ) hm); simpa using this
  · obtain ⟨m, hm, rfl⟩ := Option.map_eq_some_iff.1 h
    have := VRel.tup' (avsOf_rel (D := D) (φ := φ) hm); simpa using this
  · exact avOf1_rel h

theorem VRel.one {D : Nat → Prop} {φ : Phi} {v : AV} {u : Value} (h : VRel D φ v u) (h1 : v.one = true) : u.oneCell' = true := by
  cases h <;> first | rfl | (simp [AV.one] at h1)

theorem VRel.cells {D : Nat → Prop} {φ : Phi} {v : AV} {u : Value} (h : VRel D φ v u) : All2 D φ v.cells u.cells.toList := by
  cases h with
  | agg l cs hl h => exact ⟨by simpa [AV.cells, Value.cells] using hl, fun i a u ha hu => h i a u ha (by simpa [Value.cells] using hu)⟩
  | sl b o len cap h => exact .cons (.sl b o len cap h) .nil
  | p b o h => exact .cons (.p b o h) .nil
  | sg b o len j cap h hj hc hl => exact .cons (.sg b o len j cap h hj hc hl) .nil
  | fn f l cs hl h => exact .cons (.fn f l cs hl h) .nil
  | tup l cs hl h => exact .cons (.tup l cs hl h) .nil
  | _ => exact .cons (by constructor) .nil

section
variable {P : Program} {D : Nat → Prop} {φ : Phi} {H : Hf} {w : World} {n : Nat}

theorem run_v (s : Sem Value) (w : World) : (do pure (Next.value (← s)) : Sem Next).run P w = (s.run P w).andThen fun a w' => .ok (.value a) w' := by simp
theorem run_u (s : Sem Unit) (w : World) : (do s; pure Next.skip : Sem Next).run P w = (s.run P w).andThen fun _ w' => .ok .skip w' := by simp

theorem run_typeInfo {t : TypeId} {i : TypeInfo} (h : P.info? t = some i) (w : World) : (typeInfo t).run P w = .ok i w := by
  simp [typeInfo, h]
theorem run_sizeOf {t : TypeId} {z : Nat} (h : tySz P t = some z) (w : World) : (sizeOf t).run P w = .ok z w := by
  obtain ⟨i, hi, rfl⟩ := Option.map_eq_some_iff.1 h
  simp [sizeOf, run_typeInfo hi]
theorem run_isAgg {t : TypeId} {g : Bool} (h : tyAgg P t = some g) (w : World) : (isAgg t).run P w = .ok g w := by
  unfold tyAgg at h
  split at h <;> cases h
  · rename_i hu; simp [isAgg, run_underlying hu]
  · rename_i hu; simp [isAgg, run_underlying hu]
  · rename_i d hs ha hu
    simp only [isAgg, Sem.run_bind, run_underlying hu, Result.andThen_ok]
    cases d <;> first | rfl | (exact absurd rfl (hs _)) | (exact absurd rfl (ha _ _))
theorem run_zero {t : TypeId} {z : List AV} (h : tyZero P t = some z) (w : World) : ∃ u, (zeroValue t).run P w = .ok u w ∧ avsOf u.cells.toList = some z := by
  simp only [tyZero, Option.bind_eq_some_iff] at h
  obtain ⟨i, hi, u, hu, hz⟩ := h
  exact ⟨u, by simp [zeroValue, run_typeInfo hi, hu], hz⟩

theorem HR.row (hH : HR D φ H w) {b : Nat} {k : Blk} (hb : H b = some k) {o z : Nat} (hz : (cellsAt k.cells o z).length = z) :
    ∃ us : List Value, (loadCells ⟨φ.blk b, φ.off b + o, none⟩ z).run P w = .ok us.toArray w ∧ All2 D φ (cellsAt k.cells o z) us := by
  obtain ⟨_, ⟨⟨cs, elem, fr, h1, h2, _, _⟩, _⟩⟩ := hH.at_ b k hb
  by_cases h0 : z = 0
  · subst h0
    exact ⟨[], by simp [loadCells, loadCellsFrom], by simp [cellsAt]; exact .nil⟩
  · have hz' := hz
    simp [cellsAt] at hz
    have hin : ∀ i, i < k.cells.length → φ.off b + i < cs.size := fun i hi => by
      obtain ⟨u, hu, _⟩ := h2 i _ (List.getElem?_eq_getElem hi)
      rcases Nat.lt_or_ge (φ.off b + i) cs.size with h' | h'
      · exact h'
      · rw [Array.getElem?_eq_none h'] at hu; cases hu
    have hle : φ.off b + o + z ≤ cs.size := by have := hin (o + z - 1) (by omega); omega
    refine ⟨(cs.toList.drop (φ.off b + o)).take z, run_loadCells h1 hle, by rw [hz']; simp; omega, fun i a u ha hu => ?_⟩
    simp only [cellsAt, List.getElem?_take, List.getElem?_drop] at ha hu
    split at ha
    · rename_i hi
      rw [if_pos hi] at hu
      obtain ⟨u', hu', hr⟩ := h2 (o + i) a ha
      rw [Array.getElem?_toList, show φ.off b + o + i = φ.off b + (o + i) by omega, hu'] at hu
      cases hu; exact hr
    · cases ha

theorem HR.cell (hH : HR D φ H w) {b : Nat} {k : Blk} (hb : H b = some k) {o : Nat} {v : AV} (hv : k.cells[o]? = some v) :
    ∃ u, (load ⟨φ.blk b, φ.off b + o, none⟩).run P w = .ok u w ∧ VRel D φ v u := by
  obtain ⟨_, ⟨⟨cs, elem, fr, h1, h2, _, _⟩, _⟩⟩ := hH.at_ b k hb
  obtain ⟨u, hu, hr⟩ := h2 o v hv
  exact ⟨u, run_load_at h1 hu, hr⟩

theorem only_get {h : Hp} {rd : List Nat} {b : Nat} (hb : inl rd b = true) : only (hget h) rd b = hget h b := by simp [only, hb]

theorem oneAll_spec : ∀ {xs : List AV} {us : List Value}, oneAll xs = true → All2 D φ xs us → ∀ u ∈ us, u.oneCell' = true
  | [], us, _, h, u, hu => by rw [h.unnil] at hu; cases hu
  | x :: xs, us, ho, h, u, hu => by
    obtain ⟨u0, us', rfl, h1, h2⟩ := h.uncons
    simp only [oneAll, Bool.and_eq_true] at ho
    rcases List.mem_cons.1 hu with rfl | hu
    · exact h1.one ho.1
    · exact oneAll_spec ho.2 h2 u hu

/-- Cells are written into a block. -/
theorem HR.stores (hH : HR D φ H w) {b : Nat} {k : Blk} (hb : H b = some k) (hro : k.ro = false) {o : Nat} {xs : List AV} {us : List Value} (hxs : All2 D φ xs us) (hone : oneAll xs = true)
    (hle : o + xs.length ≤ k.cells.length) :
    ∃ w' cs cs' elem fr, (storeCells ⟨φ.blk b, φ.off b + o, none⟩ us 0).run P w = .ok () w' ∧ w.heap[φ.blk b]? = some (.cells cs elem fr) ∧ w'.heap = w.heap.setIfInBounds (φ.blk b) (.cells cs' elem fr) ∧
      w'.os = w.os ∧ w'.tape = w.tape ∧ w'.output = w.output ∧ cs'.size = cs.size ∧
      ∀ (i : Nat) (v : AV), (splice k.cells o xs)[i]? = some v → ∃ u, cs'[i]? = some u ∧ VRel D φ v u := by
  obtain ⟨_, ⟨⟨cs, elem, ⟨lo, hi⟩, h1, h2, h3, _⟩, _⟩⟩ := hH.at_ b k hb
  obtain ⟨h0, hfr⟩ := h3 hro
  have hin : ∀ i, i < k.cells.length → i < cs.size := fun i hi => by
    obtain ⟨u, hu, _⟩ := h2 i _ (List.getElem?_eq_getElem hi)
    rw [h0, Nat.zero_add] at hu
    rcases Nat.lt_or_ge i cs.size with h' | h'
    · exact h'
    · rw [Array.getElem?_eq_none h'] at hu; cases hu
  have hlen : us.length = xs.length := hxs.1.symm
  have hsz : o + us.length ≤ cs.size ∨ us.length = 0 := by
    by_cases he : us.length = 0
    · exact .inr he
    · left; have := hin (o + us.length - 1) (by omega); omega
  by_cases he : us.length = 0
  · have hu : us = [] := List.eq_nil_of_length_eq_zero he
    have hx : xs = [] := List.eq_nil_of_length_eq_zero (by omega)
    subst hu; subst hx
    refine ⟨w, cs, cs, elem, (lo, hi), by simp [storeCells], h1, ?_, rfl, rfl, rfl, rfl, fun i v hv => ?_⟩
    · apply Array.ext_getElem?
      intro d
      rw [getElem?_setIfInBounds' (hH.at_ b k hb).2.lt]
      split
      · rename_i e; subst e; exact h1
      · rfl
    · simp [splice] at hv
      obtain ⟨u, hu, hr⟩ := h2 i v hv
      rw [h0, Nat.zero_add] at hu
      exact ⟨u, hu, hr⟩
  · have hle' : o + us.length ≤ cs.size := hsz.resolve_right he
    rw [h0, Nat.zero_add]
    obtain ⟨w', hr, ho, ht, hou, hh⟩ := @run_storeCells P (φ.blk b) o elem lo hi us 0 w cs h1 hfr (by omega) (oneAll_spec hone hxs)
    refine ⟨w', cs, _, elem, (lo, hi), hr, h1, hh, ho, ht, hou, by simp; omega, fun i v hv => ?_⟩
    simp only [Nat.add_zero]
    simp only [splice, List.getElem?_append, List.length_append, List.length_take, List.getElem?_take, List.getElem?_drop] at hv
    have hl : cs.toList.length = cs.size := by simp
    simp only [List.getElem?_toArray, List.getElem?_append, List.length_append, List.length_take, List.getElem?_take, List.getElem?_drop, hl, hlen]
    have m1 : min o k.cells.length = o := by omega
    have m2 : min o cs.size = o := by omega
    rw [m1] at hv
    rw [m2]
    by_cases c1 : i < o + xs.length
    · rw [if_pos c1] at hv ⊢
      by_cases c2 : i < o
      · rw [if_pos c2] at hv ⊢
        rw [if_pos c2] at hv ⊢
        obtain ⟨u, hu, hr⟩ := h2 i v hv
        rw [h0, Nat.zero_add] at hu
        exact ⟨u, by rw [Array.getElem?_toList]; exact hu, hr⟩
      · rw [if_neg c2] at hv ⊢
        exact hxs.get hv
    · rw [if_neg c1] at hv ⊢
      have : o + xs.length + (i - (o + xs.length)) = i := by omega
      rw [this] at hv ⊢
      obtain ⟨u, hu, hr⟩ := h2 i v hv
      rw [h0, Nat.zero_add] at hu
      exact ⟨u, by rw [Array.getElem?_toList]; exact hu, hr⟩

/-! ### fills -/

theorem foldl_set (vs : List Value) : ∀ (k off : Nat) (cs : Array Value),
    ((vs.zipIdx k).foldl (fun (cs : Array Value) (x : Value × Nat) => cs.setIfInBounds (off + x.2) x.1) cs).toList.length = cs.size ∧
    ∀ j, ((vs.zipIdx k).foldl (fun (cs : Array Value) (x : Value × Nat) => cs.setIfInBounds (off + x.2) x.1) cs)[j]? = if off + k ≤ j ∧ j < off + k + vs.length ∧ j < cs.size then vs[j - (off + k)]? else cs[j]? := by
  induction vs with
  | nil => intro k off cs; refine ⟨by simp, fun j => ?_⟩; simp; omega
  | cons v vs ih =>
    intro k off cs
    simp only [List.zipIdx_cons, List.foldl_cons]
    obtain ⟨h1, h2⟩ := ih (k + 1) off (cs.setIfInBounds (off + k) v)
    refine ⟨by rw [h1]; simp, fun j => ?_⟩
    rw [h2 j]
    simp only [Array.size_setIfInBounds, List.length_cons]
    by_cases c1 : off + (k + 1) ≤ j ∧ j < off + (k + 1) + vs.length ∧ j < cs.size
    · rw [if_pos c1, if_pos (by omega)]
      rw [show j - (off + k) = (j - (off + (k + 1))) + 1 by omega]
      simp
    · rw [if_neg c1, Array.getElem?_setIfInBounds]
      by_cases c2 : off + k = j
      · rw [if_pos c2]
        by_cases c3 : off + k < cs.size
        · rw [if_pos c3, if_pos (by omega)]; simp [c2]
        · rw [if_neg c3, if_neg (by omega)]
          rw [Array.getElem?_eq_none (by omega)]
      · rw [if_neg c2]
        rw [if_neg (by omega)]

theorem fill_rel {place : Nat → Option (Nat × Nat)} : ∀ {ps : List (Nat × Nat × AV)} {qs : List (Nat × Value)} {z z' : List AV} {cs : Array Value},
    All2 D φ z cs.toList → ps.length = qs.length → (∀ (j : Nat) a q, ps[j]? = some a → qs[j]? = some q → place q.1 = some (a.1, a.2.1) ∧ VRel D φ a.2.2 q.2) → fills z ps = some z' →
    ∃ cs', Instr.fill place cs qs = some cs' ∧ All2 D φ z' cs'.toList
  | [], qs, z, z', cs, hz, hl, _, hf => by
    have : qs = [] := List.eq_nil_of_length_eq_zero (by simpa using hl.symm)
    subst this
    simp [fills] at hf; subst hf
    exact ⟨cs, rfl, hz⟩
  | (o, sz, v) :: ps, [], z, z', cs, hz, hl, _, hf => by simp at hl
  | (o, sz, v) :: ps, (i, u) :: qs, z, z', cs, hz, hl, hp, hf => by
    obtain ⟨hpl, hvu⟩ := hp 0 _ _ rfl rfl
    simp only at hpl hvu
    simp only [fills] at hf
    have hc := hvu.cells
    by_cases hcond : (Nat.beq v.cells.length sz && Nat.ble (o + sz) z.length) = true
    · rw [hcond, cond_true] at hf
      rw [Bool.and_eq_true] at hcond
      have e1 : v.cells.length = sz := Nat.eq_of_beq_eq_true hcond.1
      have e2 : o + sz ≤ z.length := Nat.le_of_ble_eq_true hcond.2
      have hus : u.cells.size = sz := by have := hc.1; simp at this; omega
      have hcs : cs.size = z.length := by have := hz.1; simp at this; omega
      simp only [Instr.fill, hpl]
      rw [if_neg (by simp [hus]; omega)]
      refine fill_rel (z := splice z o v.cells) (cs := _) ?_ (by simpa using hl) (fun j a q ha hq => hp (j + 1) a q (by simpa using ha) (by simpa using hq)) hf
      have hfs := foldl_set u.cells.toList 0 o cs
      have e3 : (u.cells.zipIdx.foldl (fun (cs : Array Value) (x : Value × Nat) => cs.setIfInBounds (o + x.2) x.1) cs) = ((u.cells.toList.zipIdx 0).foldl (fun (cs : Array Value) (x : Value × Nat) => cs.setIfInBounds (o + x.2) x.1) cs) := by
        rw [← Array.foldl_toList]; simp
      rw [e3]
      refine ⟨by rw [hfs.1]; simp [splice]; omega, fun j a y ha hy => ?_⟩
      rw [Array.getElem?_toList, hfs.2 j] at hy
      simp only [Nat.add_zero, Array.length_toList] at hy
      simp only [splice, List.getElem?_append, List.length_append, List.length_take, List.getElem?_take, List.getElem?_drop, show min o z.length = o by omega] at ha
      by_cases c1 : j < o
      · rw [if_pos (by omega), if_pos c1, if_pos c1] at ha
        rw [if_neg (by omega)] at hy
        exact hz.2 j a y ha (by simpa using hy)
      · by_cases c2 : j < o + v.cells.length
        · rw [if_pos c2, if_neg c1] at ha
          rw [if_pos (by omega)] at hy
          exact hc.2 (j - o) a y ha (by simpa using hy)
        · rw [if_neg c2, show o + v.cells.length + (j - (o + v.cells.length)) = j by omega] at ha
          rw [if_neg (by omega)] at hy
          exact hz.2 j a y ha (by simpa using hy)
    · rw [Bool.not_eq_true] at hcond
      rw [hcond] at hf; simp at hf

theorem zeros_rel {z : List AV} {cs : Array Value} (hz : All2 D φ z cs.toList) : ∀ n, All2 D φ (zeros z n) ((Array.range (n * cs.size)).map (fun i => cs[i % cs.size]!)).toList := by
  intro n
  refine ⟨?_, fun i a u ha hu => ?_⟩
  · simp
    induction n with
    | zero => simp [zeros]
    | succ n ih => simp [zeros, ih, Nat.succ_mul, hz.1]; omega
  · have hu' : i < n * cs.size ∧ u = cs[i % cs.size]! := by
      simp only [Array.toList_map, List.getElem?_map, Array.toList_range, Option.map_eq_some_iff] at hu
      obtain ⟨j, hj, rfl⟩ := hu
      have := List.getElem?_range (n := n * cs.size) (i := i)
      by_cases hi : i < n * cs.size
      · rw [List.getElem?_range hi] at hj; cases hj; exact ⟨hi, rfl⟩
      · rw [List.getElem?_eq_none (by simp; omega)] at hj; cases hj
    obtain ⟨hi, rfl⟩ := hu'
    have hpos : 0 < cs.size := by
      rcases Nat.eq_zero_or_pos cs.size with h | h
      · rw [h] at hi; simp at hi
      · exact h
    have hlt := Nat.mod_lt i hpos
    have key : ∀ n i, i < n * cs.size → (zeros z n)[i]? = z[i % cs.size]? := by
      intro n
      induction n with
      | zero => intro i hi; simp at hi
      | succ n ih =>
        intro i hi
        have hl : z.length = cs.size := by have := hz.1; simpa using this
        simp only [zeros, List.getElem?_append, hl]
        split
        · rename_i h; rw [Nat.mod_eq_of_lt h]
        · rename_i h
          rw [ih _ (by rw [Nat.succ_mul] at hi; omega)]
          rw [Nat.mod_eq_sub_mod (by omega) (a := i)]
    rw [key n i hi] at ha
    exact hz.2 (i % cs.size) a _ ha (by simp [hlt])

end
end Go.Ab
