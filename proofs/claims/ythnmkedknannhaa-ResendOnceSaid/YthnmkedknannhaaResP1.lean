/- The plain law of ResendOnce: what a step does to valid wants and to the tables beside them. -/
import Derived.Test.YthnmkedknannhaaResD1
import Derived.Test.YthnmkedknannhaaResC17
namespace Go.Proofs.Res
open Go.Ab
set_option linter.unusedSimpArgs false
set_option linter.unusedVariables false
theorem chk_iff {at_ tp : Int} : ∀ {l : List Wt} {last : Int}, chk at_ tp last l = true ↔ (∀ x ∈ l, wantB x at_ = true ∧ last < lead x.sq tp ∧ lead x.sq tp ≤ -1) ∧ l.Pairwise (fun x y => lead x.sq tp < lead y.sq tp)
 | [], last => by simp [chk]
 | x :: r, last => by
  have ih := chk_iff (at_ := at_) (tp := tp) (l := r) (last := lead x.sq tp)
  simp only [chk, Bool.and_eq_true, ih, List.pairwise_cons, List.mem_cons]
  constructor
  · rintro ⟨h1, h2, h3, h4⟩
    have h2 := inI_t h2
    refine ⟨fun y hy => ?_, fun y hy => (h3 y hy).2.1, h4⟩
    rcases hy with h | h
    · subst h; exact ⟨h1, by omega, by omega⟩
    · have := h3 y h; exact ⟨this.1, by omega, this.2.2⟩
  · rintro ⟨h1, h2, h3⟩
    have hx := h1 x (.inl rfl)
    exact ⟨hx.1, inI_of ⟨by omega, by omega⟩, fun y hy => ⟨(h1 y (.inr hy)).1, h2 y hy, (h1 y (.inr hy)).2.2⟩, h3⟩
structure GW (w : Ws) : Prop where
 ti : 0 ≤ w.ti ∧ w.ti ≤ TT
 tp : 0 ≤ w.tp ∧ w.tp ≤ 65535
 len : w.l.length ≤ 64
 st : w.st = true ∨ w.tp = 0 ∧ w.l = []
 all : ∀ x ∈ w.l, wantB x w.ti = true ∧ -1000 ≤ lead x.sq w.tp ∧ lead x.sq w.tp ≤ -1
 pw : w.l.Pairwise (fun x y => lead x.sq w.tp < lead y.sq w.tp)
theorem good_gw {w : Ws} : goodB w = true ↔ GW w := by
 simp only [goodB, headB, Bool.and_eq_true, Bool.or_eq_true, decide_eq_true_eq, beq_iff_eq, chk_iff]
 constructor
 · rintro ⟨⟨h1, h2, h3, h4⟩, h5, h6⟩
   exact ⟨inI_t h1, inI_t h2, h3, h4.imp id (fun h => ⟨h.1, List.eq_nil_of_length_eq_zero h.2⟩), fun x hx => by have := h5 x hx; exact ⟨this.1, by omega, this.2.2⟩, h6⟩
 · rintro ⟨h1, h2, h3, h4, h5, h6⟩
   exact ⟨⟨inI_of h1, inI_of h2, h3, h4.imp id (fun h => ⟨h.1, by rw [h.2]; rfl⟩)⟩, fun x hx => by have := h5 x hx; exact ⟨this.1, by omega, this.2.2⟩, h6⟩
structure WtG (x : Wt) (at_ : Int) : Prop where
 sq : 0 ≤ x.sq ∧ x.sq ≤ 65535
 fd : 0 ≤ x.fd ∧ x.fd ≤ at_
 tr : 0 ≤ x.tr ∧ x.tr ≤ 6
 ak : x.tr = 0 ∧ x.ak = 0 ∨ 0 < x.tr ∧ x.fd ≤ x.ak ∧ x.ak ≤ at_
theorem want_iff {x : Wt} {at_ : Int} : wantB x at_ = true ↔ WtG x at_ := by
 simp only [wantB, Bool.and_eq_true]
 constructor
 · rintro ⟨⟨⟨h1, h2⟩, h3⟩, h4⟩
   have h3 := inI_t h3
   refine ⟨inI_t h1, inI_t h2, h3, ?_⟩
   by_cases hz : x.tr = 0
   · simp [hz] at h4; exact .inl ⟨hz, h4⟩
   · simp [hz] at h4; have := inI_t h4; exact .inr ⟨by omega, this.1, this.2⟩
 · rintro ⟨h1, h2, h3, h4⟩
   refine ⟨⟨⟨inI_of h1, inI_of h2⟩, inI_of h3⟩, ?_⟩
   rcases h4 with ⟨h, h'⟩ | ⟨h, h'⟩
   · simp [h, h']
   · rw [if_neg (by simp; omega)]; exact inI_of h'
theorem WtG.mono {x : Wt} {a b : Int} (h : WtG x a) (hab : a ≤ b) : WtG x b := ⟨h.1, ⟨h.2.1, by have := h.2.2; omega⟩, h.3, h.4.imp id (fun h => ⟨h.1, h.2.1, by omega⟩)⟩
/-! asking -/
theorem late_ok {w : Ws} {now : Int} (h : GW w) (hn : w.ti ≤ now ∧ now ≤ TT) : lateS w now = 0 := by
 simp only [lateS, good_gw.2 h, inI_of hn, cond_true]
theorem due_cases {x : Wt} {trip at_ : Int} (hx : WtG x at_) (ht : 1 ≤ trip ∧ trip ≤ 400) : (x.tr = 0 ∧ dueS x trip = x.fd) ∨ (0 < x.tr ∧ x.ak + min trip 1000 ≤ dueS x trip) := by
 rcases hx.4 with ⟨h, h'⟩ | ⟨h, h'⟩
 · left; exact ⟨h, by simp [dueS, h]⟩
 · right
   refine ⟨h, ?_⟩
   have : dueS x trip = x.ak + min 1000 (trip * pw x.tr) := by simp only [dueS]; rw [if_neg (by simp; omega)]
   rw [this]
   have hp : 1 ≤ pw x.tr := by unfold pw; grind
   have := Int.mul_le_mul_of_nonneg_left hp (show (0 : Int) ≤ trip by omega)
   omega
theorem end_le {x : Wt} {trip : Int} : endS x trip ≤ x.fd + 2000 := by unfold endS; split <;> omega
theorem end_six {x : Wt} {trip : Int} (h : x.tr = 6) : endS x trip ≤ dueS x trip := by unfold endS; rw [if_pos (by simp [h])]; omega
theorem ask_good {w : Ws} {now trip : Int} (h : GW w) (hn : w.ti ≤ now ∧ now ≤ TT) (ht : 1 ≤ trip ∧ trip ≤ 400) : GW ⟨now, w.st, w.tp, askL now trip w.l⟩ := by
 have hsq : ∀ x : Wt, (askX now trip x).sq = x.sq := fun x => by unfold askX; cases decide (dueS x trip ≤ now) <;> rfl
 refine ⟨⟨by have := h.ti; show 0 ≤ now; omega, hn.2⟩, h.tp, ?_, ?_, ?_, ?_⟩
 · show ((w.l.filter _).map _).length ≤ 64
   rw [List.length_map]
   exact Nat.le_trans (List.length_filter_le _ _) h.len
 · exact h.st.imp id (fun e => ⟨e.1, by show askL now trip w.l = []; rw [e.2]; rfl⟩)
 · intro y hy
   obtain ⟨x, hx, rfl⟩ := List.mem_map.1 (show y ∈ (w.l.filter _).map _ from hy)
   obtain ⟨hx, hs⟩ := List.mem_filter.1 hx
   obtain ⟨h1, h2⟩ := h.all x hx
   refine ⟨?_, by rw [hsq]; exact h2⟩
   have h1 := (want_iff.1 h1).mono hn.1
   refine want_iff.2 ?_
   cases hd : decide (dueS x trip ≤ now) with
   | false => simpa only [askX, hd, cond_false] using h1
   | true =>
    simp only [askX, hd, cond_true]
    have hd := of_decide_eq_true hd
    have h6 : x.tr ≠ 6 := fun e => by
     have := end_six (trip := trip) e
     simp only [stayB, Bool.not_eq_true', decide_eq_false_iff_not] at hs
     omega
    have := h1.tr; have := h1.fd
    exact ⟨h1.sq, h1.fd, ⟨by show 0 ≤ x.tr + 1; omega, by show x.tr + 1 ≤ 6; omega⟩, .inr ⟨by show 0 < x.tr + 1; omega, by show x.fd ≤ now; omega, Int.le_refl _⟩⟩
 · show ((w.l.filter _).map _).Pairwise _
   rw [List.pairwise_map]
   refine (h.pw.filter _).imp (fun {a b} hab => ?_)
   rw [hsq, hsq]; exact hab
theorem best_le {trip t : Int} {l : List Wt} (h1 : t ≤ 1099511627776) : ∀ k, k ≤ l.length → (bestN trip l k ≤ t ↔ ∃ x ∈ l.take k, dueS x trip ≤ t ∨ endS x trip ≤ t)
 | 0, _ => by simp [bestN]; omega
 | k + 1, hk => by
  have hx : l[k]? = some l[k] := List.getElem?_eq_getElem hk
  have ih := best_le (trip := trip) (l := l) h1 k (by omega)
  simp only [bestN, hx]
  rw [List.take_add_one, hx]
  simp only [Option.toList_some, List.mem_append, List.mem_singleton]
  constructor
  · intro h
    by_cases hb : bestN trip l k ≤ t
    · obtain ⟨x, hx', hx⟩ := ih.1 hb; exact ⟨x, .inl hx', hx⟩
    · exact ⟨_, .inr rfl, by omega⟩
  · rintro ⟨x, hx | rfl, h⟩
    · have := ih.2 ⟨x, hx, h⟩; omega
    · omega
theorem askN_mem {now trip : Int} {l : List Wt} {n : Int} : n ∈ askN now trip l ↔ ∃ x ∈ l, now < endS x trip ∧ dueS x trip ≤ now ∧ x.sq = n := by
 simp only [askN, List.mem_map, List.mem_filter, stayB, Bool.not_eq_true', decide_eq_false_iff_not, decide_eq_true_eq]
 constructor
 · rintro ⟨x, ⟨⟨h1, h2⟩, h3⟩, h4⟩; exact ⟨x, h1, by omega, h3, h4⟩
 · rintro ⟨x, h1, h2, h3, h4⟩; exact ⟨x, ⟨⟨h1, by omega⟩, h3⟩, h4⟩
theorem askU_iff {now trip : Int} {l : List Wt} : askU now trip l = true ↔ ∃ x ∈ l, endS x trip ≤ now := by
 simp only [askU, List.any_eq_true, decide_eq_true_eq]
theorem filter_lt {α : Type} (p : α → Bool) (l : List α) : (l.filter p).length < l.length ↔ ∃ x ∈ l, p x = false := by
 induction l with
 | nil => simp
 | cons a r ih =>
  cases h : p a with
  | false => simp [h]; exact Nat.lt_succ_of_le (List.length_filter_le _ _)
  | true => simp [h, ih]
theorem askL_lt {now trip : Int} {l : List Wt} : decide ((askL now trip l).length < l.length) = askU now trip l := by
 rw [Bool.eq_iff_iff, decide_eq_true_eq, askU_iff, askL, List.length_map, filter_lt]
 simp only [stayB, Bool.not_eq_false', decide_eq_true_eq]
theorem next_ask {w : Ws} {now trip : Int} (h : GW w) (hn : w.ti ≤ now ∧ now ≤ TT) (ht : 1 ≤ trip ∧ trip ≤ 400) :
 (decide (0 < (askN now trip w.l).length) || askU now trip w.l) = (((nextS w trip).2 == 0) && decide ((nextS w trip).1 ≤ now)) := by
 have hT : inI 1 2000 trip = true := inI_of ⟨ht.1, by omega⟩
 have hb : bestS trip w.l ≤ now ↔ ∃ x ∈ w.l, dueS x trip ≤ now ∨ endS x trip ≤ now := by
  have := best_le (trip := trip) (l := w.l) (t := now) hn.2 w.l.length (Nat.le_refl _)
  rwa [List.take_length] at this
 have hl : (0 < (askN now trip w.l).length ∨ askU now trip w.l = true) ↔ bestS trip w.l ≤ now := by
  rw [hb, askU_iff, List.length_pos_iff_exists_mem]
  constructor
  · rintro (⟨n, hn⟩ | ⟨x, hx, h⟩)
    · obtain ⟨x, hx, h1, h2, _⟩ := askN_mem.1 hn; exact ⟨x, hx, .inl h2⟩
    · exact ⟨x, hx, .inr h⟩
  · rintro ⟨x, hx, h⟩
    by_cases he : endS x trip ≤ now
    · exact .inr ⟨x, hx, he⟩
    · exact .inl ⟨_, askN_mem.2 ⟨x, hx, by omega, by omega, rfl⟩⟩
 simp only [nextS, good_gw.2 h, hT, cond_true]
 rw [Bool.eq_iff_iff]
 simp only [Bool.or_eq_true, decide_eq_true_eq, hl, Bool.and_eq_true, beq_iff_eq]
 cases hg : decide (bestS trip w.l > 1099511627776) with
 | true =>
  have := of_decide_eq_true hg
  have h2 := hn.2
  unfold TT at h2
  simp only [cond_true]
  constructor
  · intro h; omega
  · rintro ⟨h, _⟩; cases h
 | false =>
  simp only [cond_false, true_and]
  have := hn.1
  constructor <;> intro h <;> omega
theorem ask_fresh {now trip : Int} {l : List Wt} : ∀ y ∈ askL now trip l, now - y.fd < 2000 := fun y hy => by
 obtain ⟨x, hx, rfl⟩ := List.mem_map.1 (show y ∈ (l.filter _).map _ from hy)
 obtain ⟨hx, hs⟩ := List.mem_filter.1 hx
 simp only [stayB, Bool.not_eq_true', decide_eq_false_iff_not] at hs
 have := end_le (x := x) (trip := trip)
 have : (askX now trip x).fd = x.fd := by unfold askX; cases decide (dueS x trip ≤ now) <;> rfl
 omega
/-! seeing -/
theorem lead_shift {a sq tp : Int} (hd : 0 < lead sq tp) (h : -32768 ≤ lead a tp - lead sq tp) (h2 : lead a tp ≤ 0) : lead a sq = lead a tp - lead sq tp := by
 unfold lead at *; split at hd <;> split at h <;> omega
theorem lead_miss {tp sq : Int} {k : Nat} (hd : (k : Int) + 1 < lead sq tp) : lead ((tp + ((k : Int) + 1)) % 65536) sq = (k : Int) + 1 - lead sq tp := by
 have := lead_rng sq tp
 unfold lead at *; split at hd <;> omega
theorem mapN_mem {α : Type} {g : Nat → α} {n : Nat} {y : α} : y ∈ mapN g n ↔ ∃ k, k < n ∧ y = g k := by
 constructor
 · intro h
   obtain ⟨k, hk⟩ := List.getElem?_of_mem h
   have hl := (List.getElem?_eq_some_iff.1 hk).1
   rw [mapN_len] at hl
   rw [mapN_get hl] at hk
   exact ⟨k, hl, (Option.some.inj hk).symm⟩
 · rintro ⟨k, hk, rfl⟩
   exact List.mem_of_getElem? (mapN_get hk)
theorem mapN_pw {α : Type} {g : Nat → α} {R : α → α → Prop} : ∀ {n : Nat}, (∀ i j, i < j → j < n → R (g i) (g j)) → (mapN g n).Pairwise R
 | 0, _ => List.Pairwise.nil
 | n + 1, h => by
  rw [mapN_s, List.pairwise_append]
  refine ⟨mapN_pw (fun i j h1 h2 => h i j h1 (by omega)), List.pairwise_singleton _ _, fun a ha b hb => ?_⟩
  obtain ⟨k, hk, rfl⟩ := mapN_mem.1 ha
  rw [List.mem_singleton.1 hb]
  exact h k n hk (by omega)
theorem saw_mem {w : Ws} {now sq : Int} {y : Wt} : y ∈ sawL w now sq ↔ (y ∈ w.l ∧ y.sq ≠ sq ∧ -1000 ≤ lead y.sq w.tp - max (lead sq w.tp) 0) ∨ ∃ k : Nat, (k : Int) + 1 < lead sq w.tp ∧ y = missF w.tp now k := by
 simp only [sawL, List.mem_append, keepL, List.mem_filter, goneB, Bool.not_eq_true', Bool.or_eq_false_iff, beq_eq_false_iff_ne, decide_eq_false_iff_not, missS, mapN_mem]
 constructor
 · rintro (⟨h1, h2, h3⟩ | ⟨k, hk, h⟩)
   · exact .inl ⟨h1, h2, by omega⟩
   · exact .inr ⟨k, by omega, h⟩
 · rintro (⟨h1, h2, h3⟩ | ⟨k, hk, h⟩)
   · exact .inl ⟨h1, h2, by omega⟩
   · exact .inr ⟨k, by omega, h⟩
theorem saw_lead {w : Ws} {now sq : Int} (h : GW w) (hd : lead sq w.tp ≤ 64) {y : Wt} (hy : y ∈ sawL w now sq) :
 -1000 ≤ lead y.sq (if lead sq w.tp > 0 then sq else w.tp) ∧ lead y.sq (if lead sq w.tp > 0 then sq else w.tp) ≤ -1 ∧ y.sq ≠ sq := by
 rcases saw_mem.1 hy with ⟨h1, h2, h3⟩ | ⟨k, hk, rfl⟩
 · obtain ⟨_, h4, h5⟩ := h.all y h1
   split
   · rw [lead_shift (by omega) (by omega) (by omega)]; exact ⟨by omega, by omega, h2⟩
   · exact ⟨h4, h5, h2⟩
 · have e := lead_miss hk
   have hne : (missF w.tp now k).sq ≠ sq := fun e' => by
    have : lead (missF w.tp now k).sq sq = 0 := by rw [e']; unfold lead; simp
    have e2 : lead (missF w.tp now k).sq sq = (k : Int) + 1 - lead sq w.tp := e
    omega
   rw [if_pos (by omega)]
   refine ⟨?_, ?_, hne⟩
   · show -1000 ≤ lead ((w.tp + ((k : Int) + 1)) % 65536) sq; omega
   · show lead ((w.tp + ((k : Int) + 1)) % 65536) sq ≤ -1; omega
theorem saw_good {w : Ws} {now sq : Int} (h : GW w) (hst : w.st = true) (hn : w.ti ≤ now ∧ now ≤ TT) (hs : 0 ≤ sq ∧ sq ≤ 65535) (hd : lead sq w.tp ≤ 64) (hl : (sawL w now sq).length ≤ 64) :
 GW ⟨now, true, if lead sq w.tp > 0 then sq else w.tp, sawL w now sq⟩ := by
 refine ⟨⟨by have := h.ti; show 0 ≤ now; omega, hn.2⟩, by show 0 ≤ (if _ then _ else _ : Int) ∧ _ ≤ _; have := h.tp; split <;> omega, hl, .inl rfl, fun y hy => ?_, ?_⟩
 · obtain ⟨h1, h2, _⟩ := saw_lead h hd hy
   refine ⟨?_, h1, h2⟩
   rcases saw_mem.1 hy with ⟨h1, _⟩ | ⟨k, hk, rfl⟩
   · exact want_iff.2 ((want_iff.1 (h.all y h1).1).mono hn.1)
   · have := h.ti
     exact want_iff.2 ⟨by show 0 ≤ (w.tp + ((k : Int) + 1)) % 65536 ∧ (w.tp + ((k : Int) + 1)) % 65536 ≤ 65535; omega, ⟨by show 0 ≤ now; omega, Int.le_refl _⟩, by show (0 : Int) ≤ 0 ∧ (0 : Int) ≤ 6; omega, .inl ⟨rfl, rfl⟩⟩
 · show (keepL sq w.tp (lead sq w.tp) w.l ++ missS w.tp (lead sq w.tp) now).Pairwise _
   rw [List.pairwise_append]
   refine ⟨?_, ?_, fun a ha b hb => ?_⟩
   · have hp := h.pw.filter (fun x => !goneB sq w.tp (lead sq w.tp) x)
     refine List.Pairwise.imp_of_mem (fun {a b} ha hb hab => ?_) hp
     by_cases hp : lead sq w.tp > 0
     · rw [if_pos hp]
       have q := fun (y : Wt) (hy : y ∈ w.l.filter (fun x => !goneB sq w.tp (lead sq w.tp) x)) => show lead y.sq sq = lead y.sq w.tp - lead sq w.tp from by
        rcases saw_mem.1 (show y ∈ sawL w now sq from List.mem_append_left _ hy) with ⟨h1, h2, h3⟩ | ⟨k, hk, rfl⟩
        · exact lead_shift hp (by omega) (by have := (h.all y h1).2.2; omega)
        · have h1 := (h.all _ (List.mem_filter.1 hy).1).2
          have h2 : (missF w.tp now k).sq = (w.tp + ((k : Int) + 1)) % 65536 := rfl
          rw [h2] at h1 ⊢
          have := lead_rng sq w.tp
          unfold lead at *; omega
       rw [q a ha, q b hb]; omega
     · rw [if_neg hp]; exact hab
   · refine mapN_pw (fun i j hij hj => ?_)
     have hp : lead sq w.tp > 0 := by omega
     rw [if_pos hp]
     show lead ((w.tp + ((i : Int) + 1)) % 65536) sq < lead ((w.tp + ((j : Int) + 1)) % 65536) sq
     rw [lead_miss (by omega), lead_miss (by omega)]; omega
   · obtain ⟨k, hk, rfl⟩ := mapN_mem.1 hb
     have hp : lead sq w.tp > 0 := by omega
     rw [if_pos hp]
     show lead a.sq sq < lead ((w.tp + ((k : Int) + 1)) % 65536) sq
     rw [lead_miss (by omega)]
     obtain ⟨ha, hg⟩ := List.mem_filter.1 ha
     have h5 := (h.all a ha).2
     rw [lead_shift hp (by omega) (by omega)]; omega
end Go.Proofs.Res
