/- Plain facts of the law's buffers: packets that are not huge, numbers in range. -/
import Derived.Test.YtcpgamgkbbckoaaJitDb
namespace Go.Proofs.Jit
open Go.Ab
set_option maxRecDepth 100000
set_option maxHeartbeats 4000000
set_option linter.unusedSimpArgs false
set_option linter.unusedVariables false
def FinL (l : List Hd) : Prop := ∀ x ∈ l, x.p.fin = true
theorem finB_iff {l : List Hd} : finB l = true ↔ FinL l := by simp only [finB, List.all_eq_true]; rfl
theorem pks_fin (ck : Int) (s : Sm) : ∀ i, ∀ p ∈ pks ck s i, p.fin = true
 | 0 => fun p hp => by cases hp
 | i + 1 => fun p hp => by
  simp only [pks] at hp
  split at hp
  · simp only [inP, List.mem_append] at hp
    rcases hp with hp | hp
    · exact pks_fin ck s i p hp
    · obtain ⟨j, hj⟩ := List.getElem?_of_mem hp
      have hlt : j < _ := (List.getElem?_eq_some_iff.1 hj).1
      rw [mapN_len] at hlt
      rw [mapN_get hlt] at hj
      cases hj
      rfl
  · exact pks_fin ck s i p hp
theorem insL_fin {l : List Hd} {k : Nat} {x : Hd} (h : FinL l) (hx : x.p.fin = true) : FinL (insL l k x) := fun y hy => by
 simp only [insL, List.mem_append, List.mem_singleton] at hy
 rcases hy with hy | rfl | hy
 · exact h y (List.mem_of_mem_take hy)
 · exact hx
 · exact h y (List.mem_of_mem_drop hy)
theorem putAt_l {b : Bf} {now : Int} {p : Md} {k : Nat} {st : Int} : (putAt b now p k st).l = insL b.l k ⟨p, st⟩ := by
 unfold putAt; cases b.sd <;> rfl
theorem putS_fin {b : Bf} {now : Int} {p : Md} (h : FinL b.l) (hp : p.fin = true) : FinL (putS b now p).1.l := by
 have hz : FinL zBf.l := fun x hx => by cases hx
 unfold putS
 split
 · cases mdB p
   · exact hz
   · simp only [cond_true]
     cases b.sd
     · simp only [cond_false, putAt_l]; exact insL_fin h hp
     · simp only [cond_true]
       cases (decide (lead p.sq b.nx < 0) || dupB b.l (pos b.nx (lead p.sq b.nx) b.l) p.sq)
       · simp only [cond_false]
         cases (decide (lead p.sq b.nx > 511) || (decide (stampS b p < 0) || decide (stampS b p > 1152921504606846976)))
         · simp only [cond_false]
           cases decide (64 ≤ b.l.length)
           · simp only [cond_false, putAt_l]; exact insL_fin h hp
           · exact hz
         · exact hz
       · exact hz
 · exact hz
theorem tkS_fin {b : Bf} {now : Int} (h : FinL b.l) : FinL (tkS b now).1.l ∧ (∀ p ∈ (tkS b now).2.1, p.fin = true) ∧ (tkS b now).1.l.length ≤ b.l.length ∧ (tkS b now).2.1.length ≤ b.l.length := by
 have hz : FinL zBf.l ∧ (∀ p ∈ ([] : List Md), p.fin = true) ∧ zBf.l.length ≤ b.l.length ∧ ([] : List Md).length ≤ b.l.length := ⟨fun x hx => (by cases hx), fun x hx => (by cases hx), Nat.zero_le _, Nat.zero_le _⟩
 have hd : FinL (b.l.drop (frN b.l)) ∧ (b.l.drop (frN b.l)).length ≤ b.l.length := ⟨fun x hx => h x (List.mem_of_mem_drop hx), (by rw [List.length_drop]; omega)⟩
 have hf : (∀ p ∈ frT b.l (frN b.l), p.fin = true) ∧ (frT b.l (frN b.l)).length ≤ b.l.length := ⟨fun p hp => (by
  simp only [frT, List.mem_map] at hp
  obtain ⟨x, hx, rfl⟩ := hp
  exact h x (List.mem_of_mem_take hx)), (by simp only [frT, List.length_map, List.length_take]; omega)⟩
 unfold tkS
 split
 · cases ((b.l.length == 0) || decide (now < dueS b))
   · simp only [cond_false]
     split
     · rename_i x0 v _ _
       unfold tkF
       dsimp only
       cases (b.wh && (x0.p.sq == b.nx && v.p.ma))
       · simp only [cond_false]
         cases decide (b.lo + ((v.p.sq + 1) % 65536 - b.nx) % 65536 > 1099511627776)
         · exact ⟨hd.1, hz.2.1, hd.2, hz.2.2.2⟩
         · exact hz
       · exact ⟨hd.1, hf.1, hd.2, hf.2⟩
     · exact hz
   · exact hz
 · exact hz
theorem stepB_fin {l : List Md} {b : Bf} {e : Ev} (h : FinL b.l) (hl : ∀ p ∈ l, p.fin = true) : FinL (stepB l b e).l := by
 unfold stepB
 cases e.pt && decide (0 < l.length)
 · simp only [cond_false]
   cases ((tkS b (b.ti + e.wt % 200)).2.2 == 0)
   · exact h
   · exact (tkS_fin h).1
 · simp only [cond_true]
   cases ((putS b (b.ti + e.wt % 200) (l.getD (e.pk % (l.length : Int)).toNat zMd)).2 == 0)
   · exact h
   · refine putS_fin h ?_
     rw [List.getD_eq_getElem?_getD]
     cases hg : l[(e.pk % (l.length : Int)).toNat]? with
     | none => rfl
     | some p => exact hl p (List.mem_of_getElem? hg)
theorem bufN_fin {b0 : Bf} {l : List Md} {ev : List Ev} (h : FinL b0.l) (hl : ∀ p ∈ l, p.fin = true) : ∀ i, FinL (bufN b0 l ev i).l
 | 0 => h
 | i + 1 => by
  simp only [bufN]
  split
  · exact stepB_fin (bufN_fin h hl i) hl
  · exact bufN_fin h hl i
theorem bufS_fin (d : Dj) : FinL (bufS d).l := by
 unfold bufS
 refine bufN_fin ?_ (pks_fin _ _ _) _
 unfold newS
 cases inI 1 96 (startS d) <;> exact fun x hx => by cases hx
theorem bendL_fin (b : Bx) {l : List Hd} (h : FinL l) : FinL (bendL b l) := by
 have hg : ∀ k, (l.getD k zHd).p.fin = true := fun k => by
  rw [List.getD_eq_getElem?_getD]
  cases hk : l[k]? with
  | none => rfl
  | some x => exact h x (List.mem_of_getElem? hk)
 have hk : ∀ (x : Hd), x.p.fin = true → ∀ k, (hdK x k).p.fin = true := fun x hx k => by
  induction k with
  | zero => exact hx
  | succ k ih => exact ih
 unfold bendL
 split
 · exact h
 · split
   · exact h
   · split
     · intro x hx
       rcases List.mem_or_eq_of_mem_set hx with hx | rfl
       · exact h x hx
       · exact hg _
     · split
       · intro x hx
         rcases List.mem_or_eq_of_mem_set hx with hx | rfl
         · exact h x hx
         · exact hg (bIx b l)
       · intro x hx
         rcases List.mem_append.1 hx with hx | hx
         · exact h x hx
         · obtain ⟨j, hj⟩ := List.getElem?_of_mem hx
           have hlt := (List.getElem?_eq_some_iff.1 hj).1
           rw [extL_len] at hlt
           unfold extL at hj
           rw [mapN_get hlt] at hj
           cases hj
           exact hk _ (hg _) _
/-! numbers in range -/
def Bf.rn (b : Bf) : Prop := (-4611686018427387904 ≤ b.nx ∧ b.nx ≤ 4611686018427387904) ∧ (-4611686018427387904 ≤ b.mr ∧ b.mr ≤ 4611686018427387904) ∧ (-4611686018427387904 ≤ b.of ∧ b.of ≤ 4611686018427387904) ∧ (-4611686018427387904 ≤ b.tr ∧ b.tr ≤ 4611686018427387904) ∧ (-4611686018427387904 ≤ b.ji ∧ b.ji ≤ 4611686018427387904) ∧ (-4611686018427387904 ≤ b.lo ∧ b.lo ≤ 4611686018427387904)
theorem rn_rg {b : Bf} (h : b.rn) : b.rg = true := by
 obtain ⟨h1, h2, h3, h4, h5, h6⟩ := h
 simp only [Bf.rg, Bool.and_eq_true]
 exact ⟨inI_of (by omega), inI_of (by omega), inI_of (by omega), inI_of (by omega), inI_of (by omega), inI_of (by omega)⟩
theorem putAt_rn {b : Bf} {now : Int} {p : Md} {k : Nat} {st : Int} (h : b.rn) (hok : putOK b now st) (hsq : inI 0 65535 p.sq = true) : (putAt b now p k st).rn := by
 obtain ⟨h1, h2, h3, h4, h5, h6⟩ := h
 obtain ⟨o1, o2, o3, o4, o5, o6, o7, o8, o9, o10⟩ := hok
 have hsq := inI_t hsq
 have hnc : 0 ≤ now * b.ck ∧ now * b.ck ≤ 1099511627776 * 96 := ⟨Int.mul_nonneg o1 (by omega), Int.mul_le_mul o2 o4 (by omega) (by omega)⟩
 unfold putAt
 cases b.sd
 · simp only [cond_false, Bf.rn]
   omega
 · simp only [cond_true, Bf.rn]
   omega
theorem putS_rn {b : Bf} {now : Int} {p : Md} (hi : InvB b) (h : b.rn) : (putS b now p).1.rn := by
 have hz : zBf.rn := by simp only [Bf.rn, zBf]; omega
 unfold putS
 by_cases h0 : lateB b now = 0
 · rw [if_pos h0]
   obtain ⟨hg, hnw⟩ := lateB_0 h0
   have hn := lateB_1 hi h0
   obtain ⟨g1, g2, g3⟩ := good_head hg
   have g1 := inI_t g1
   have g3 := inI_t g3
   cases hmb : mdB p
   · exact hz
   · simp only [cond_true]
     have hsq := mdB_sq hmb
     have htm := inI_t (mdB_tm hmb)
     cases hs : b.sd
     · simp only [cond_false]
       have hzz := (good_zero hg hs).1
       exact putAt_rn h ⟨hn.1, hn.2, g1.1, g1.2, by omega, by omega, by omega, by omega, g3.1, g3.2⟩ hsq
     · simp only [cond_true]
       obtain ⟨_, _, _, m4⟩ := good_mid hg hs
       cases (decide (lead p.sq b.nx < 0) || dupB b.l (pos b.nx (lead p.sq b.nx) b.l) p.sq)
       · simp only [cond_false]
         cases hb : (decide (lead p.sq b.nx > 511) || (decide (stampS b p < 0) || decide (stampS b p > 1152921504606846976)))
         · simp only [cond_false]
           simp only [Bool.or_eq_false_iff, decide_eq_false_iff_not] at hb
           cases decide (64 ≤ b.l.length)
           · simp only [cond_false]
             exact putAt_rn h ⟨hn.1, hn.2, g1.1, g1.2, by omega, by omega, m4.1, m4.2, g3.1, g3.2⟩ hsq
           · exact hz
         · exact hz
       · exact hz
 · rw [if_neg h0]; exact hz
theorem tkS_rn {b : Bf} {now : Int} (h : b.rn) : (tkS b now).1.rn := by
 have hz : zBf.rn := by simp only [Bf.rn, zBf]; omega
 obtain ⟨h1, h2, h3, h4, h5, h6⟩ := h
 unfold tkS
 split
 · cases ((b.l.length == 0) || decide (now < dueS b))
   · simp only [cond_false]
     split
     · rename_i x0 v _ _
       unfold tkF
       dsimp only
       cases (b.wh && (x0.p.sq == b.nx && v.p.ma))
       · simp only [cond_false]
         cases hb : decide (b.lo + ((v.p.sq + 1) % 65536 - b.nx) % 65536 > 1099511627776)
         · simp only [cond_false, tkB, Bf.rn]
           have hb := of_decide_eq_false hb
           omega
         · exact hz
       · simp only [cond_true, tkB, Bf.rn]
         omega
     · exact hz
   · exact hz
 · exact hz
theorem stepB_rn {l : List Md} {b : Bf} {e : Ev} (hi : InvB b) (h : b.rn) : (stepB l b e).rn := by
 unfold stepB
 cases e.pt && decide (0 < l.length)
 · simp only [cond_false]
   cases ((tkS b (b.ti + e.wt % 200)).2.2 == 0)
   · exact h
   · exact tkS_rn h
 · simp only [cond_true]
   cases ((putS b (b.ti + e.wt % 200) (l.getD (e.pk % (l.length : Int)).toNat zMd)).2 == 0)
   · exact h
   · exact putS_rn hi h
theorem bufS_rn (d : Dj) : (bufS d).rn := by
 have h0 : (newS (startS d)).1.rn := by
  unfold newS
  cases inI 1 96 (startS d) <;> (simp only [cond_true, cond_false, Bf.rn, zBf]; omega)
 have key : ∀ i, (bufN (newS (startS d)).1 (pksS (startS d) d.s) d.ev i).rn := fun i => by
  induction i with
  | zero => exact h0
  | succ i ih =>
   simp only [bufN]
   split
   · exact stepB_rn (bufN_inv newS_inv i) ih
   · exact ih
 exact key _
theorem bendS_rg {b : Bx} {w : Bf} (hb : r64 b.n = true) (h : w.rg = true) : (bendS b w).rg = true := by
 simp only [Bf.rg, Bool.and_eq_true] at h ⊢
 obtain ⟨h1, h2, h3, h4, h5, h6⟩ := h
 refine ⟨?_, ?_, ?_, ?_, ?_, ?_⟩ <;> (simp only [bendS]; split <;> assumption)
end Go.Proofs.Jit
