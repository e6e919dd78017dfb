/- The walk of ResendOnce. -/
import Derived.Test.YthnmkedknannhaaResP3
import Derived.Test.YthnmkedknannhaaResD2
import Derived.Test.YthnmkedknannhaaResK
import Derived.Test.YthnmkedknannhaaAbWkS
namespace Go.Proofs.Res
open Go.Ab
set_option maxRecDepth 100000
set_option maxHeartbeats 8000000
set_option linter.unusedSimpArgs false
set_option linter.unusedVariables false
structure S6 where
 w : Ws
 T : Nat → Int
 A : Nat → Int
 C : Nat → Bool
def tT (T : Nat → Int) : List AV := tab (fun i => .i .i64 (T i)) 65536
def tC (C : Nat → Bool) : List AV := tab (fun i => .b (C i)) 65536
theorem tT_len (T : Nat → Int) : (tT T).length = 65536 := tab_len
theorem tC_len (C : Nat → Bool) : (tC C).length = 65536 := tab_len
theorem tT_get (T : Nat → Int) {q : Nat} (h : q < 65536) : (tT T)[q]? = some (.i .i64 (T q)) := tab_get h
theorem tC_get (C : Nat → Bool) {q : Nat} (h : q < 65536) : (tC C)[q]? = some (.b (C q)) := tab_get h
theorem tT_set (T : Nat → Int) {q : Nat} (h : q < 65536) (v : Int) : List.take q (tT T) ++ [.i .i64 v] ++ List.drop (q + 1) (tT T) = tT (upd T q v) := by
 have := tab_set (g := fun i => .i .i64 (T i)) (g' := fun i => .i .i64 (upd T q v i)) h (fun j hj => by rw [upd_ne hj])
 simp only [upd_eq] at this; exact this
theorem tC_set (C : Nat → Bool) {q : Nat} (h : q < 65536) (v : Bool) : List.take q (tC C) ++ [.b v] ++ List.drop (q + 1) (tC C) = tC (upd C q v) := by
 have := tab_set (g := fun i => .b (C i)) (g' := fun i => .b (upd C q v i)) h (fun j hj => by rw [upd_ne hj])
 simp only [upd_eq] at this; exact this
theorem tT_bel (T : Nat → Int) (j : Nat) : belL j (tT T) = true := tab_bel (fun _ => rfl) _
theorem tC_bel (C : Nat → Bool) (j : Nat) : belL j (tC C) = true := tab_bel (fun _ => rfl) _
theorem tT_z : bigZ 65536 (.i .i64 0) = tT (fun _ => 0) := tab_rep.symm
theorem tC_z : bigZ 65536 (.b false) = tC (fun _ => false) := tab_rep.symm
def sawM (w : Ws) (sq : Int) : Nat := bif w.st then (lead sq w.tp - 1).toNat else 0
def saw6 (s : S6) (now sq : Int) : S6 :=
 bif (sawS s.w now sq).2 == 0 then ⟨(sawS s.w now sq).1, wip s.T 0 s.w.tp (sawM s.w sq), s.A, wip (upd s.C sq.toNat true) false s.w.tp (sawM s.w sq)⟩ else s
def ask6 (s : S6) (now trip : Int) : S6 := ⟨(askS s.w now trip).1, askF s.T (askN now trip s.w.l) (askN now trip s.w.l).length, askG s.A now (askN now trip s.w.l) (askN now trip s.w.l).length, s.C⟩
def st6 (d : Dr) : Nat → S6
 | 0 => ⟨zW, fun _ => 0, fun _ => 0, fun _ => false⟩
 | k + 1 => bif ((evN d.ev k).wh.tmod 3 != 0) then saw6 (st6 d k) ((st6 d k).w.ti + (evN d.ev k).wa.tmod 700) (seqN d.ev d.sq k) else ask6 (st6 d k) ((st6 d k).w.ti + (evN d.ev k).wa.tmod 700) (roundS d)
def ok6 (s : S6) (k : Nat) : Prop := GW s.w ∧ Inv s.w s.T s.A s.C ∧ s.w.ti ≤ 700 * k
theorem saw_cases {w : Ws} {now sq : Int} (h : GW w) (hn : w.ti ≤ now ∧ now ≤ TT) (hs : 0 ≤ sq ∧ sq ≤ 65535) :
 ((sawS w now sq).2 = 6 ∨ (sawS w now sq).2 = 3) ∨ ((sawS w now sq).2 = 0 ∧ GW (sawS w now sq).1 ∧ (sawS w now sq).1.ti = now ∧ ((sawS w now sq).1.l.any fun x => x.sq == sq) = false ∧
  (∀ T A C, Inv w T A C → Inv (sawS w now sq).1 (wip T 0 w.tp (sawM w sq)) A (wip (upd C sq.toNat true) false w.tp (sawM w sq))) ∧ (∀ k, k < sawM w sq → ((sawS w now sq).1.l.any fun x => wtB ⟨(missN w.tp k : Int), now, 0, 0⟩ x) = true)) := by
 have hl := late_ok h hn
 have hT := h.ti
 cases hst : w.st with
 | false =>
  have e : sawS w now sq = (⟨now, true, sq, []⟩, 0) := by simp [sawS, hl, inI_of hs, hst]
  have em : sawM w sq = 0 := by simp [sawM, hst]
  rw [e, em]
  refine .inr ⟨rfl, ⟨⟨by show 0 ≤ now; omega, hn.2⟩, hs, Nat.zero_le _, .inl rfl, fun x hx => by simp at hx, List.Pairwise.nil⟩, rfl, rfl, fun T A C _ x hx => by simp at hx, fun k hk => by omega⟩
 | true =>
  by_cases hd : lead sq w.tp > 64
  · have e : sawS w now sq = (zW, 6) := by simp [sawS, hl, inI_of hs, hst, hd]
    rw [e]; exact .inl (.inl rfl)
  by_cases hc : 64 < (sawL w now sq).length
  · have e : sawS w now sq = (zW, 3) := by simp [sawS, hl, inI_of hs, hst, hd, hc]
    rw [e]; exact .inl (.inr rfl)
  have e : sawS w now sq = (⟨now, true, if lead sq w.tp > 0 then sq else w.tp, sawL w now sq⟩, 0) := by
   simp only [sawS, hl, inI_of hs, hst, if_true, cond_true, decide_eq_false hd, decide_eq_false hc, cond_false]
  have em : sawM w sq = (lead sq w.tp - 1).toNat := by simp [sawM, hst]
  rw [e, em]
  refine .inr ⟨rfl, saw_good h hst hn hs (by omega) (by omega), rfl, ?_, fun T A C hi => saw_inv h hs (by omega) hi rfl _, fun k hk => ?_⟩
  · rw [List.any_eq_false]
    intro x hx
    have := (saw_lead (now := now) h (by omega) hx).2.2
    simpa using this
  · rw [List.any_eq_true]
    refine ⟨missF w.tp now k, saw_mem.2 (.inr ⟨k, by omega, rfl⟩), ?_⟩
    have : (missN w.tp k : Int) = (w.tp + ((k : Int) + 1)) % 65536 := by unfold missN; omega
    rw [this]; exact wtB_eq.2 rfl
theorem ask_eq {w : Ws} {now trip : Int} (h : GW w) (hn : w.ti ≤ now ∧ now ≤ TT) (ht : 1 ≤ trip ∧ trip ≤ 400) : askS w now trip = (⟨now, w.st, w.tp, askL now trip w.l⟩, askN now trip w.l, askU now trip w.l, 0) := by
 simp only [askS, late_ok h hn, if_true, inI_of (show (1 : Int) ≤ trip ∧ trip ≤ 2000 by omega), cond_true]
end Go.Proofs.Res
