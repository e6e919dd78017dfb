/- The abstract layer, part 4: what the model's reads and writes of rows of cells come to. -/
import Derived.Test.YtiacdfhaopnekaaAbSim
namespace Go.Ab
set_option linter.unusedVariables false

theorem Addr.add_eq (b o i : Nat) : (⟨b, o, none⟩ : Addr).add i = ⟨b, o + i, none⟩ := by
  unfold Addr.add; split
  · rename_i h; subst h; rfl
  · rfl

theorem cell?_at {w : World} {c o : Nat} {cs : Array Value} {elem : TypeId} {fr : Nat × Nat} (h : w.heap[c]? = some (.cells cs elem fr)) : w.cell? ⟨c, o, none⟩ = cs[o]? := by
  simp [World.cell?, h]

theorem frozen?_at {w : World} {c o : Nat} {cs : Array Value} {elem : TypeId} {lo hi : Nat} (h : w.heap[c]? = some (.cells cs elem (lo, hi))) : w.frozen? ⟨c, o, none⟩ = (decide (lo ≤ o) && decide (o < hi)) := by
  simp [World.frozen?, h]

theorem run_load_at {P : Program} {w : World} {c o : Nat} {cs : Array Value} {elem : TypeId} {fr : Nat × Nat} {u : Value} (h : w.heap[c]? = some (.cells cs elem fr)) (hu : cs[o]? = some u) :
    (load ⟨c, o, none⟩).run P w = .ok u w := by
  rw [run_load, cell?_at h, hu]

theorem run_loadCellsFrom {P : Program} {w : World} {c o : Nat} {cs : Array Value} {elem : TypeId} {fr : Nat × Nat} (h : w.heap[c]? = some (.cells cs elem fr)) :
    ∀ (n i : Nat) (acc : Array Value), o + i + n ≤ cs.size → (loadCellsFrom ⟨c, o, none⟩ i n acc).run P w = .ok (acc ++ (cs.toList.drop (o + i)).take n) w := by
  intro n
  induction n with
  | zero => intro i acc _; simp [loadCellsFrom]
  | succ n ih =>
    intro i acc hle
    have hlt : o + i < cs.size := by omega
    have hu : cs[o + i]? = some cs[o + i] := by simp [hlt]
    simp only [loadCellsFrom, Sem.run_bind, Addr.add_eq]
    rw [run_load_at h hu]
    simp only [Result.andThen_ok]
    rw [ih (i + 1) _ (by omega)]
    congr 1
    have e1 : List.drop (o + i) cs.toList = cs[o + i] :: List.drop (o + (i + 1)) cs.toList := by
      rw [show o + (i + 1) = (o + i) + 1 from rfl]
      rw [← Array.getElem_toList (by simpa using hlt)]
      exact List.drop_eq_getElem_cons (by simpa using hlt)
    rw [e1, List.take_succ_cons]
    apply Array.ext'
    simp

theorem run_loadCells {P : Program} {w : World} {c o n : Nat} {cs : Array Value} {elem : TypeId} {fr : Nat × Nat} (h : w.heap[c]? = some (.cells cs elem fr)) (hle : o + n ≤ cs.size) :
    (loadCells ⟨c, o, none⟩ n).run P w = .ok ((cs.toList.drop o).take n).toArray w := by
  unfold loadCells
  rw [run_loadCellsFrom h n 0 #[] (by omega)]
  simp

/-- Cells written one after the other. -/
theorem run_storeCells {P : Program} {c o : Nat} {elem : TypeId} {lo hi : Nat} :
    ∀ (vs : List Value) (i : Nat) (w : World) (cs : Array Value), w.heap[c]? = some (.cells cs elem (lo, hi)) → (∀ j, j < cs.size → ¬ (lo ≤ j ∧ j < hi)) → o + i + vs.length ≤ cs.size →
      (∀ v ∈ vs, v.oneCell' = true) →
      ∃ w', (storeCells ⟨c, o, none⟩ vs i).run P w = .ok () w' ∧ w'.os = w.os ∧ w'.tape = w.tape ∧ w'.output = w.output ∧
        w'.heap = w.heap.setIfInBounds c (.cells (cs.toList.take (o + i) ++ vs ++ cs.toList.drop (o + i + vs.length)).toArray elem (lo, hi)) := by
  intro vs
  induction vs with
  | nil =>
    intro i w cs h _ _ _
    have hlt : c < w.heap.size := by
      rcases Nat.lt_or_ge c w.heap.size with h' | h'
      · exact h'
      · rw [Array.getElem?_eq_none h'] at h; cases h
    refine ⟨w, by simp [storeCells], rfl, rfl, rfl, ?_⟩
    simp only [List.append_nil, List.length_nil, Nat.add_zero, List.take_append_drop]
    apply Array.ext_getElem?
    intro d
    rw [getElem?_setIfInBounds' hlt]
    split
    · rename_i e; subst e; exact h
    · rfl
  | cons v vs ih =>
    intro i w cs h hfr hle hone
    have hlt : c < w.heap.size := by
      rcases Nat.lt_or_ge c w.heap.size with h' | h'
      · exact h'
      · rw [Array.getElem?_eq_none h'] at h; cases h
    simp only [List.length_cons] at hle
    have hoi : o + i < cs.size := by omega
    have hset : (w.setCell ⟨c, o + i, none⟩ v).heap = w.heap.setIfInBounds c (.cells (cs.setIfInBounds (o + i) v) elem (lo, hi)) := by
      apply Array.ext_getElem?
      intro d
      rw [getElem?_setIfInBounds' hlt]
      simp only [World.setCell, Array.getElem?_modify]
      split
      · rename_i e; subst e; simp [h]
      · rfl
    have h1 : (w.setCell ⟨c, o + i, none⟩ v).heap[c]? = some (.cells (cs.setIfInBounds (o + i) v) elem (lo, hi)) := by
      rw [hset, getElem?_setIfInBounds' hlt]; simp
    obtain ⟨w', hr, ho, ht, hou, hh⟩ := ih (i + 1) _ _ h1 (fun j hj => hfr j (by simpa using hj)) (by simp; omega) (fun x hx => hone x (List.mem_cons_of_mem _ hx))
    refine ⟨w', ?_, ho.trans rfl, ht.trans rfl, hou.trans rfl, ?_⟩
    · simp only [storeCells, Sem.run_bind, Addr.add_eq]
      rw [run_store _ _ _ _ _ (hone v (List.mem_cons_self)), cell?_at h, frozen?_at h]
      have hf : (decide (lo ≤ o + i) && decide (o + i < hi)) = false := by
        have := hfr (o + i) hoi
        rw [Bool.and_eq_false_iff]
        by_cases hh : lo ≤ o + i
        · right; simp; omega
        · left; simp; omega
      have hc : cs[o + i]? = some cs[o + i] := by simp [hoi]
      rw [hc, hf]
      simp only [Bool.false_eq_true, if_false, Result.andThen_ok]
      exact hr
    · rw [hh, hset]
      apply Array.ext_getElem?
      intro d
      rw [getElem?_setIfInBounds' (by simpa using hlt), getElem?_setIfInBounds' hlt, getElem?_setIfInBounds' hlt]
      split
      · congr 2
        apply Array.ext'
        simp only [Array.toList_setIfInBounds, List.length_cons]
        apply List.ext_getElem?
        intro j
        have hl : cs.toList.length = cs.size := by simp
        simp only [List.getElem?_append, List.getElem?_take, List.getElem?_drop, List.length_append, List.length_take, List.length_set, List.getElem?_set, hl, List.getElem?_cons, List.length_cons]
        by_cases c1 : j < o + i
        · simp [c1, show j < o + (i + 1) by omega, show j < cs.size by omega, show ¬ (o + i = j) by omega, show min (o + (i + 1)) cs.size = o + (i + 1) by omega, show min (o + i) cs.size = o + i by omega, show j < o + (i + 1) + vs.length by omega, show j < o + i + (vs.length + 1) by omega]
        · by_cases c2 : j = o + i
          · subst c2
            simp [show min (o + (i + 1)) cs.size = o + (i + 1) by omega, show min (o + i) cs.size = o + i by omega, show o + i < o + (i + 1) by omega, show o + i < o + (i + 1) + vs.length by omega, show o + i < o + i + (vs.length + 1) by omega, hoi]
          · by_cases c3 : j < o + (i + 1) + vs.length
            · simp [show min (o + (i + 1)) cs.size = o + (i + 1) by omega, show min (o + i) cs.size = o + i by omega, c3, show j < o + i + (vs.length + 1) by omega, show ¬ j < o + (i + 1) by omega, c1, show ¬ (j - (o + i) = 0) by omega, show j - (o + i) - 1 = j - (o + (i + 1)) by omega]
            · simp [show min (o + (i + 1)) cs.size = o + (i + 1) by omega, show min (o + i) cs.size = o + i by omega, c3, show ¬ j < o + i + (vs.length + 1) by omega, show o + (i + 1) + vs.length + (j - (o + (i + 1) + vs.length)) = o + i + (vs.length + 1) + (j - (o + i + (vs.length + 1))) by omega]
              intro hx; omega
      · rfl

end Go.Ab
