/- Valid buffers stay valid: Put and Take. -/
import Derived.Test.YtcpgamgkbbckoaaJitP1
namespace Go.Proofs.Jit
open Go.Ab
set_option maxRecDepth 100000
set_option linter.unusedSimpArgs false
set_option linter.unusedVariables false
theorem lead0 (a : Int) : lead a a = 0 := by simp [lead]
theorem heldB_cons {nx mr last : Int} {x : Hd} {r : List Hd} : heldB nx mr last (x :: r) = true ↔ mdB x.p = true ∧ (0 ≤ x.st ∧ x.st ≤ mr) ∧ x.st % 4294967296 = x.p.tm ∧ (last + 1 ≤ lead x.p.sq nx ∧ lead x.p.sq nx ≤ 511) ∧ heldB nx mr (lead x.p.sq nx) r = true := by
 simp only [heldB, Bool.and_eq_true, inI, decide_eq_true_eq, beq_iff_eq]
theorem heldB_mr {nx mr mr' : Int} (hm : mr ≤ mr') : ∀ {l : List Hd} {last : Int}, heldB nx mr last l = true → heldB nx mr' last l = true
 | [], _, _ => rfl
 | x :: r, last, h => by
  rw [heldB_cons] at h ⊢
  obtain ⟨h1, h2, h3, h4, h5⟩ := h
  exact ⟨h1, ⟨h2.1, by omega⟩, h3, h4, heldB_mr hm h5⟩
theorem heldB_ins {nx mr : Int} {p : Md} {st : Int} (hp : mdB p = true) (hs : 0 ≤ st ∧ st ≤ mr) (ht : st % 4294967296 = p.tm) (hf : lead p.sq nx ≤ 511) : ∀ {l : List Hd} {last : Int}, heldB nx mr last l = true → last < lead p.sq nx → (∀ x, l[pos nx (lead p.sq nx) l]? = some x → lead x.p.sq nx ≠ lead p.sq nx) →
 heldB nx mr last (insL l (pos nx (lead p.sq nx) l) ⟨p, st⟩) = true
 | [], last, _, h1, _ => by
  show heldB nx mr last [⟨p, st⟩] = true
  rw [heldB_cons]
  exact ⟨hp, hs, ht, ⟨by dsimp only; omega, hf⟩, rfl⟩
 | x :: r, last, h, h1, hd => by
  have h0 := h
  rw [heldB_cons] at h
  obtain ⟨g1, g2, g3, g4, g5⟩ := h
  by_cases hx : lead x.p.sq nx < lead p.sq nx
  · have e : pos nx (lead p.sq nx) (x :: r) = pos nx (lead p.sq nx) r + 1 := by simp only [pos, decide_eq_true hx, cond_true]
    rw [e] at hd ⊢
    show heldB nx mr last (x :: insL r (pos nx (lead p.sq nx) r) ⟨p, st⟩) = true
    rw [heldB_cons]
    exact ⟨g1, g2, g3, g4, heldB_ins hp hs ht hf g5 hx (fun y hy => hd y (by simpa using hy))⟩
  · have e : pos nx (lead p.sq nx) (x :: r) = 0 := by simp only [pos, decide_eq_false hx, cond_false]
    rw [e] at hd ⊢
    have hne := hd x rfl
    show heldB nx mr last (⟨p, st⟩ :: x :: r) = true
    rw [heldB_cons]
    refine ⟨hp, hs, ht, ⟨by dsimp only; omega, hf⟩, ?_⟩
    rw [heldB_cons]
    exact ⟨g1, g2, g3, ⟨by dsimp only; omega, g4.2⟩, g5⟩
theorem goodB_sd {b : Bf} (hs : b.sd = true) : goodB b = true ↔ ((1 ≤ b.ck ∧ b.ck ≤ 96) ∧ (0 ≤ b.ti ∧ b.ti ≤ 1099511627776) ∧ (0 ≤ b.ji ∧ b.ji ≤ 1048576) ∧ (0 ≤ b.lo ∧ b.lo ≤ 1099511627776)) ∧ ((0 ≤ b.nx ∧ b.nx ≤ 65535) ∧ (0 ≤ b.mr ∧ b.mr ≤ 1152921504606846976) ∧ (-1152921504606846976 ≤ b.of ∧ b.of ≤ b.tr) ∧ b.tr ≤ 1152921504606846976) ∧ heldB b.nx b.mr (-1) b.l = true ∧ b.l.length ≤ 64 := by
 simp only [goodB, hs, cond_true, headB, midB, Bool.and_eq_true, inI, decide_eq_true_eq]
theorem goodB_ns {b : Bf} (hs : b.sd = false) : goodB b = true ↔ ((1 ≤ b.ck ∧ b.ck ≤ 96) ∧ (0 ≤ b.ti ∧ b.ti ≤ 1099511627776) ∧ (0 ≤ b.ji ∧ b.ji ≤ 1048576) ∧ (0 ≤ b.lo ∧ b.lo ≤ 1099511627776)) ∧ b.wh = false ∧ (b.nx = 0 ∧ b.mr = 0 ∧ b.of = 0 ∧ b.tr = 0 ∧ b.ji = 0 ∧ b.lo = 0) ∧ b.l.length = 0 := by
 simp only [goodB, hs, cond_false, headB, emptyB, zerosB, Bool.and_eq_true, inI, decide_eq_true_eq, beq_iff_eq, Bool.not_eq_true']
theorem late_iff {b : Bf} {now : Int} : lateB b now = 0 ↔ goodB b = true ∧ (b.ti ≤ now ∧ now ≤ 1099511627776) := by
 constructor
 · intro h
   obtain ⟨h1, h2⟩ := lateB_0 h
   exact ⟨h1, inI_t h2⟩
 · rintro ⟨h1, h2⟩
   have g : inI b.ti 1099511627776 now = true := inI_of h2
   simp only [lateB, h1, g, cond_true]
theorem stampS_mod {b : Bf} {p : Md} (hp : mdB p = true) : stampS b p % 4294967296 = p.tm := by
 have ht := inI_t (mdB_tm hp)
 unfold stampS lead32
 split <;> omega
inductive PutOK (b : Bf) (now : Int) (p : Md) : Bf → Prop
 | first (hs : b.sd = false) : PutOK b now p (putAt b now p 0 (1099511627776 + p.tm))
 | later (hs : b.sd = true) (h0 : 0 ≤ lead p.sq b.nx) (h1 : lead p.sq b.nx ≤ 511) (hd : dupB b.l (pos b.nx (lead p.sq b.nx) b.l) p.sq = false) (h2 : 0 ≤ stampS b p ∧ stampS b p ≤ 1152921504606846976) (h3 : b.l.length < 64) : PutOK b now p (putAt b now p (pos b.nx (lead p.sq b.nx) b.l) (stampS b p))
theorem put_ok {b : Bf} {now : Int} {p : Md} (h : (putS b now p).2 = 0) : lateB b now = 0 ∧ mdB p = true ∧ PutOK b now p (putS b now p).1 := by
 unfold putS at h ⊢
 by_cases h0 : lateB b now = 0
 · rw [if_pos h0] at h ⊢
   cases hm : mdB p
   · rw [hm] at h; simp at h
   · rw [hm] at h
     simp only [cond_true] at h ⊢
     refine ⟨h0, by trivial, ?_⟩
     cases hs : b.sd
     · simp only [cond_false]; exact .first hs
     · rw [hs] at h
       simp only [cond_true] at h ⊢
       cases e1 : (decide (lead p.sq b.nx < 0) || dupB b.l (pos b.nx (lead p.sq b.nx) b.l) p.sq)
       · rw [e1] at h
         simp only [cond_false] at h ⊢
         cases e2 : (decide (lead p.sq b.nx > 511) || (decide (stampS b p < 0) || decide (stampS b p > 1152921504606846976)))
         · rw [e2] at h
           simp only [cond_false] at h ⊢
           cases e3 : decide (64 ≤ b.l.length)
           · simp only [cond_false]
             simp only [Bool.or_eq_false_iff, decide_eq_false_iff_not] at e1 e2 e3
             exact .later hs (by omega) (by omega) e1.2 (by omega) (by omega)
           · rw [e3] at h; simp at h
         · rw [e2] at h; simp at h
       · rw [e1] at h; simp at h
 · rw [if_neg h0] at h
   exact absurd h h0
theorem jit_rng {j d : Int} (hj : 0 ≤ j ∧ j ≤ 1048576) : 0 ≤ j + min (max d (-d)) 65535 - (j + 8) / 16 ∧ j + min (max d (-d)) 65535 - (j + 8) / 16 ≤ 1048576 := by omega
theorem good_put {b : Bf} {now : Int} {p : Md} (h : (putS b now p).2 = 0) : goodB (putS b now p).1 = true ∧ (putS b now p).1.sd = true := by
 obtain ⟨h0, hm, hk⟩ := put_ok h
 obtain ⟨hg, hn⟩ := late_iff.1 h0
 have hq := inI_t (mdB_sq hm)
 have ht := inI_t (mdB_tm hm)
 generalize (putS b now p).1 = R at *
 cases hk with
 | first hs =>
  rw [goodB_ns hs] at hg
  obtain ⟨⟨g1, g2, g3, g4⟩, g5, ⟨_, _, _, _, g6, g7⟩, g8⟩ := hg
  have hl0 : b.l = [] := List.eq_nil_of_length_eq_zero g8
  have hnc : 0 ≤ now * b.ck ∧ now * b.ck ≤ 1099511627776 * 96 := ⟨Int.mul_nonneg (by omega) (by omega), Int.mul_le_mul hn.2 g1.2 (by omega) (by omega)⟩
  have e : putAt b now p 0 (1099511627776 + p.tm) = { b with ti := now, sd := true, nx := p.sq, wh := true, of := now * b.ck - (1099511627776 + p.tm), mr := 1099511627776 + p.tm, tr := now * b.ck - (1099511627776 + p.tm), l := [⟨p, 1099511627776 + p.tm⟩] } := by
   simp only [putAt, hs, cond_false, hl0, insL]; rfl
  rw [e]
  refine ⟨?_, rfl⟩
  rw [goodB_sd rfl]
  dsimp only
  refine ⟨⟨g1, by omega, g3, g4⟩, ⟨hq, by omega, by omega, by omega⟩, ?_, by simp⟩
  rw [heldB_cons]
  exact ⟨hm, by dsimp only; omega, by dsimp only; omega, by dsimp only; rw [lead0]; omega, rfl⟩
 | later hs f0 f1 hd hst hlen =>
  rw [goodB_sd hs] at hg
  obtain ⟨⟨g1, g2, g3, g4⟩, ⟨g5, g6, g7, g8⟩, g9, g10⟩ := hg
  have hnc : 0 ≤ now * b.ck ∧ now * b.ck ≤ 1099511627776 * 96 := ⟨Int.mul_nonneg (by omega) (by omega), Int.mul_le_mul hn.2 g1.2 (by omega) (by omega)⟩
  have hmod := stampS_mod (b := b) hm
  generalize stampS b p = st at *
  have hsd : (putAt b now p (pos b.nx (lead p.sq b.nx) b.l) st).sd = true := by simp only [putAt, hs, cond_true]
  refine ⟨?_, hsd⟩
  rw [goodB_sd hsd]
  simp only [putAt, hs, cond_true]
  have hj := @jit_rng b.ji (now * b.ck - st - b.tr) g3
  have hmx : max (now * b.ck - st - b.tr) (-(now * b.ck - st - b.tr)) = max (now * b.ck - st - b.tr) (b.tr - (now * b.ck - st)) := by congr 1; omega
  rw [hmx] at hj
  refine ⟨⟨g1, by omega, hj, g4⟩, ⟨g5, by omega, by omega, by omega⟩, ?_, by simp only [insL, List.length_append, List.length_take, List.length_drop, List.length_singleton]; omega⟩
  refine heldB_ins hm (by omega) hmod f1 (heldB_mr (by omega) g9) (by omega) (fun x hx he => ?_)
  simp only [dupB, hx] at hd
  have hxq : inI 0 65535 x.p.sq = true := by
   have := heldB_sq g9
   simp only [sqOK, List.all_eq_true] at this
   exact this x (List.mem_of_getElem? hx)
  have : x.p.sq = p.sq := by
   have a1 := inI_t hxq
   unfold lead at he
   split at he <;> split at he <;> omega
  rw [this] at hd
  simp at hd
/-! Take -/
theorem heldB_drop {nx mr : Int} : ∀ {l : List Hd} {last : Int} {N : Nat} {v : Hd}, heldB nx mr last l = true → l[N]? = some v → heldB nx mr (lead v.p.sq nx) (l.drop (N + 1)) = true ∧ last < lead v.p.sq nx ∧ lead v.p.sq nx ≤ 511 ∧ mdB v.p = true
 | [], _, _, _, _, h => by simp at h
 | x :: r, last, 0, v, h, hv => by
  simp at hv; subst hv
  rw [heldB_cons] at h
  exact ⟨h.2.2.2.2, by omega, h.2.2.2.1.2, h.1⟩
 | x :: r, last, N + 1, v, h, hv => by
  rw [heldB_cons] at h
  obtain ⟨h1, h2, h3, h4⟩ := heldB_drop h.2.2.2.2 (show r[N]? = some v by simpa using hv)
  exact ⟨by simpa using h1, by omega, h3, h4⟩
theorem lead_next {a v nx : Int} (ha : 0 ≤ a ∧ a ≤ 65535) (hv : 0 ≤ v ∧ v ≤ 65535) (h1 : 0 ≤ lead v nx) (h2 : lead v nx < lead a nx) (h3 : lead a nx ≤ 511) : lead a ((v + 1) % 65536) = lead a nx - lead v nx - 1 := by
 unfold lead at *
 split at h1 <;> split at h3 <;> split <;> omega
theorem heldB_next {nx mr v : Int} (hv : 0 ≤ v ∧ v ≤ 65535) (h1 : 0 ≤ lead v nx) : ∀ {l : List Hd} {last : Int}, heldB nx mr last l = true → lead v nx ≤ last → heldB ((v + 1) % 65536) mr (last - lead v nx - 1) l = true
 | [], _, _, _ => rfl
 | x :: r, last, h, hl => by
  rw [heldB_cons] at h ⊢
  obtain ⟨g1, g2, g3, g4, g5⟩ := h
  have e := lead_next (inI_t (mdB_sq g1)) hv h1 (by omega) g4.2
  refine ⟨g1, g2, g3, by rw [e]; omega, ?_⟩
  rw [e]
  exact heldB_next hv h1 g5 (by omega)
structure TkOK (b : Bf) (now : Int) (x0 v : Hd) : Prop where
 late : lateB b now = 0
 ne : b.l.length ≠ 0
 due : dueS b ≤ now
 h0 : b.l[0]? = some x0
 hv : b.l[frN b.l - 1]? = some v
 eq : tkS b now = tkF { b with ti := now } x0 v (frN b.l)
 ok : (tkF { b with ti := now } x0 v (frN b.l)).2.2 = 0
theorem take_ok {b : Bf} {now : Int} (h : (tkS b now).2.2 = 0) : ∃ x0 v, TkOK b now x0 v := by
 have h' := h
 unfold tkS at h
 by_cases h0 : lateB b now = 0
 · rw [if_pos h0] at h
   cases e1 : ((b.l.length == 0) || decide (now < dueS b))
   · rw [e1] at h
     simp only [cond_false] at h
     split at h
     · rename_i x0 v hx hv
       have heq : tkS b now = tkF { b with ti := now } x0 v (frN b.l) := by
        unfold tkS
        rw [if_pos h0, e1]
        simp only [cond_false, hx, hv]
       simp only [Bool.or_eq_false_iff, beq_eq_false_iff_ne, decide_eq_false_iff_not] at e1
       exact ⟨x0, v, h0, e1.1, by omega, hx, hv, heq, h⟩
     · simp at h
   · rw [e1] at h; simp at h
 · rw [if_neg h0] at h
   exact absurd h h0
theorem frN_pos {b : Bf} (h : b.l.length ≠ 0) : 1 ≤ frN b.l ∧ frN b.l ≤ b.l.length := by
 refine ⟨?_, frN_le _⟩
 cases hl : b.l with
 | nil => rw [hl] at h; exact absurd rfl h
 | cons x r => simp only [frN]; omega
theorem good_take {b : Bf} {now : Int} (h : (tkS b now).2.2 = 0) : goodB (tkS b now).1 = true := by
 obtain ⟨x0, v, T⟩ := take_ok h
 obtain ⟨hg, hn⟩ := late_iff.1 T.late
 obtain ⟨n1, n2⟩ := frN_pos T.ne
 have hs : b.sd = true := by
  cases hs : b.sd
  · rw [goodB_ns hs] at hg
    exact absurd hg.2.2.2 T.ne
  · rfl
 have hv := T.hv
 have ok := T.ok
 rw [T.eq]
 rw [goodB_sd hs] at hg
 obtain ⟨⟨g1, g2, g3, g4⟩, ⟨g5, g6, g7, g8⟩, g9, g10⟩ := hg
 obtain ⟨d1, d2, d3, d4⟩ := heldB_drop g9 hv
 have hvq := inI_t (mdB_sq d4)
 have hN : frN b.l - 1 + 1 = frN b.l := by omega
 rw [hN] at d1
 have hd := heldB_next hvq (by omega) d1 (Int.le_refl _)
 have hd : heldB ((v.p.sq + 1) % 65536) b.mr (-1) (b.l.drop (frN b.l)) = true := by
  rwa [show lead v.p.sq b.nx - lead v.p.sq b.nx - 1 = -1 by omega] at hd
 unfold tkF at ok ⊢
 cases e1 : (b.wh && (x0.p.sq == b.nx && v.p.ma))
 · simp only [e1, cond_false] at ok ⊢
   cases e2 : decide (b.lo + ((v.p.sq + 1) % 65536 - b.nx) % 65536 > 1099511627776)
   · simp only [e2, cond_false] at ok ⊢
     have e2 := of_decide_eq_false e2
     rw [goodB_sd (by exact hs)]
     simp only [tkB]
     exact ⟨⟨g1, by omega, g3, by omega⟩, ⟨by omega, g6, g7, g8⟩, hd, by rw [List.length_drop]; omega⟩
   · simp only [e2, cond_true] at ok
     simp at ok
 · simp only [e1, cond_true] at ok ⊢
   rw [goodB_sd (by exact hs)]
   simp only [tkB]
   exact ⟨⟨g1, by omega, g3, g4⟩, ⟨by omega, g6, g7, g8⟩, hd, by rw [List.length_drop]; omega⟩
end Go.Proofs.Jit
