/- A stream's packets, and the buffers that hold them: JitterCounts' plain law. -/
import Derived.Test.YtcpgamgkbbckoaaJitP3
namespace Go.Proofs.Jit
open Go.Ab
set_option maxRecDepth 100000
set_option linter.unusedSimpArgs false
set_option linter.unusedVariables false
structure PkL (ck sq tm : Int) (L : List Md) (g : Nat → Nat) : Prop where
 len : L.length ≤ 48
 md : ∀ (j : Nat) p, L[j]? = some p → mdB p = true
 sqv : ∀ (j : Nat) p, L[j]? = some p → p.sq = (sq + (j : Int)) % 65536
 tmv : ∀ (j : Nat) p, L[j]? = some p → p.tm = (tm + 20 * ck * (g j : Int)) % 4294967296
 gle : ∀ j, j < L.length → g j ≤ 11
 nma : ∀ (j : Nat) p, L[j]? = some p → p.ma = false → j + 1 < L.length ∧ g (j + 1) = g j
theorem pkM_md {ck tm : Int} {i k n : Nat} {q : Int} (hq : 0 ≤ q ∧ q ≤ 65535) : mdB (pkM ck tm i k n q) = true := by
 have h1 : inZ 0 65535 q = true := inZ_iff.2 hq
 have h2 : inZ 0 4294967295 ((tm + 20 * ck * (i : Int)) % 4294967296) = true := inZ_iff.2 (by omega)
 simp only [mdB, mdPre, pkM, h1, h2]
 rfl
theorem pks_L {ck sq tm : Int} {fr : List Int} : ∀ i, i ≤ 12 → ∃ g : Nat → Nat, (pks ck ⟨sq, tm, fr⟩ i).length ≤ 4 * i ∧ ∀ (j : Nat) p, (pks ck ⟨sq, tm, fr⟩ i)[j]? = some p → mdB p = true ∧ p.sq = (sq + (j : Int)) % 65536 ∧ p.tm = (tm + 20 * ck * (g j : Int)) % 4294967296 ∧ g j + 1 ≤ i ∧ (p.ma = false → j + 1 < (pks ck ⟨sq, tm, fr⟩ i).length ∧ g (j + 1) = g j)
 | 0, _ => ⟨fun _ => 0, by simp [pks], fun j p h => by simp [pks] at h⟩
 | i + 1, hi => by
  obtain ⟨g, hl, hg⟩ := pks_L (ck := ck) (sq := sq) (tm := tm) (fr := fr) i (by omega)
  simp only [pks]
  split
  · rename_i x hx
    generalize pks ck ⟨sq, tm, fr⟩ i = L at *
    have hn := frames_le x
    generalize frames x = n at *
    refine ⟨fun j => if j < L.length then g j else i, by rw [inP_len]; omega, fun j p h => ?_⟩
    rw [inP_len]
    simp only [inP] at h
    by_cases hj : j < L.length
    · rw [List.getElem?_append_left hj] at h
      obtain ⟨a1, a2, a3, a4, a5⟩ := hg j p h
      dsimp only
      rw [if_pos hj]
      refine ⟨a1, a2, a3, by omega, fun hm => ?_⟩
      obtain ⟨b1, b2⟩ := a5 hm
      exact ⟨by omega, by rw [if_pos b1]; exact b2⟩
    · rw [List.getElem?_append_right (by omega)] at h
      have hk : j - L.length < n := by
       have := (List.getElem?_eq_some_iff.1 h).1
       rwa [mapN_len] at this
      rw [mapN_get hk] at h
      cases h
      dsimp only
      rw [if_neg hj]
      refine ⟨pkM_md (by omega), ?_, rfl, by omega, fun hm => ?_⟩
      · show (sq + ((L.length + (j - L.length) : Nat) : Int)) % 65536 = _
        rw [show L.length + (j - L.length) = j by omega]
      · have hm : ((((j - L.length : Nat) : Int) == (n : Int) - 1) : Bool) = false := hm
        have hm := beq_eq_false_iff_ne.1 hm
        exact ⟨by omega, by rw [if_neg (by omega)]⟩
  · exact ⟨g, by omega, fun j p h => by
     obtain ⟨a1, a2, a3, a4, a5⟩ := hg j p h
     exact ⟨a1, a2, a3, by omega, a5⟩⟩
theorem pksS_L {ck sq tm : Int} {fr : List Int} : ∃ g : Nat → Nat, PkL ck sq tm (pksS ck ⟨sq, tm, fr⟩) g := by
 obtain ⟨g, hl, hg⟩ := pks_L (ck := ck) (sq := sq) (tm := tm) (fr := fr) (min fr.length 12) (by omega)
 refine ⟨g, by unfold pksS; dsimp only; omega, fun j p h => (hg j p h).1, fun j p h => (hg j p h).2.1, fun j p h => (hg j p h).2.2.1, fun j h => ?_, fun j p h => (hg j p h).2.2.2.2⟩
 have := (hg j _ (List.getElem?_eq_getElem (by exact h))).2.2.2.1
 omega
def Of (ck S0 : Int) (L : List Md) (g : Nat → Nat) (j0 : Nat) (x : Hd) : Prop := ∃ j, j0 ≤ j ∧ j < L.length ∧ L[j]? = some x.p ∧ x.st = S0 + 20 * ck * (g j : Int)
structure InvC (ck sq tm : Int) (L : List Md) (g : Nat → Nat) (b : Bf) : Prop where
 good : goodB b = true
 ckq : b.ck = ck
 sd : b.sd = true → ∃ (S0 : Int) (j0 jm : Nat), (S0 % 4294967296 = tm % 4294967296 ∧ 1099511597776 ≤ S0 ∧ S0 ≤ 1099511627776 + 4294967296) ∧ b.nx = (sq + (j0 : Int)) % 65536 ∧ j0 ≤ L.length ∧ b.lo ≤ (j0 : Int) ∧ jm < L.length ∧ b.mr = S0 + 20 * ck * (g jm : Int) ∧ ∀ x ∈ b.l, Of ck S0 L g j0 x
theorem heldB_ge {nx mr : Int} : ∀ {l : List Hd} {last : Int}, heldB nx mr last l = true → ∀ {x}, x ∈ l → last < lead x.p.sq nx
 | [], _, _, _, h => by simp at h
 | y :: r, last, h, x, hx => by
  rw [heldB_cons] at h
  rcases List.mem_cons.1 hx with e | e
  · subst e; omega
  · have := heldB_ge h.2.2.2.2 e
    omega
section
variable {ck sq tm : Int} {L : List Md} {g : Nat → Nat} (hc : 1 ≤ ck ∧ ck ≤ 96) (hP : PkL ck sq tm L g)
include hc in
theorem g_rng {j : Nat} (h : g j ≤ 11) : 0 ≤ 20 * ck * (g j : Int) ∧ 20 * ck * (g j : Int) ≤ 21120 := by
 refine ⟨Int.mul_nonneg (by omega) (by omega), ?_⟩
 exact Int.le_trans (Int.mul_le_mul (by omega : 20 * ck ≤ 1920) (by omega : (g j : Int) ≤ 11) (by omega) (by omega)) (by decide)
theorem heldB_len {nx mr : Int} : ∀ {l : List Hd} {last : Int}, heldB nx mr last l = true → (∀ x ∈ l, lead x.p.sq nx ≤ 47) → last ≤ 47 → (l.length : Int) ≤ 47 - last
 | [], last, _, _, h => by simp; omega
 | x :: r, last, h, hx, hl => by
  rw [heldB_cons] at h
  have h1 := hx x List.mem_cons_self
  have := heldB_len h.2.2.2.2 (fun y hy => hx y (List.mem_cons_of_mem _ hy)) h1
  simp only [List.length_cons]
  omega
theorem lead_of {q nx : Int} {j j0 : Nat} (hq : q = (sq + (j : Int)) % 65536) (hn : nx = (sq + (j0 : Int)) % 65536) (h1 : j ≤ 48) (h2 : j0 ≤ 48) : lead q nx = (j : Int) - (j0 : Int) := by
 subst hq hn
 unfold lead
 split <;> omega
include hc hP in
theorem stamp_of {b : Bf} {p : Md} {S0 : Int} {j jm : Nat} (hS : S0 % 4294967296 = tm % 4294967296) (hm : b.mr = S0 + 20 * ck * (g jm : Int)) (h1 : jm < L.length) (h2 : L[j]? = some p) : stampS b p = S0 + 20 * ck * (g j : Int) := by
 have e := hP.tmv j p h2
 have a1 := g_rng hc (hP.gle jm h1)
 have a2 := g_rng hc (hP.gle j (List.getElem?_eq_some_iff.1 h2).1)
 unfold stampS lead32
 rw [hm, e]
 generalize 20 * ck * (g j : Int) = G at *
 generalize 20 * ck * (g jm : Int) = H at *
 split <;> omega
theorem insL_mem {l : List Hd} {k : Nat} {x y : Hd} (h : y ∈ insL l k x) : y = x ∨ y ∈ l := by
 simp only [insL, List.mem_append, List.mem_singleton] at h
 rcases h with h | h | h
 · exact .inr (List.mem_of_mem_take h)
 · exact .inl h
 · exact .inr (List.mem_of_mem_drop h)
include hc hP in
theorem cnt_put {b : Bf} {now : Int} {p : Md} {j : Nat} (hI : InvC ck sq tm L g b) (hn : b.ti ≤ now ∧ now ≤ 1099511627776) (hp : L[j]? = some p) :
 (putS b now p).2 = 10 ∨ ((putS b now p).2 = 0 ∧ InvC ck sq tm L g (putS b now p).1 ∧ goodB (putS b now p).1 = true ∧ (putS b now p).1.l.length = b.l.length + 1 ∧ (b.sd = true → (putS b now p).1.nx = b.nx ∧ (putS b now p).1.lo = b.lo) ∧ (putS b now p).1.ti = now) := by
 have hlate : lateB b now = 0 := late_iff.2 ⟨hI.good, hn⟩
 have hmd := hP.md j p hp
 have hsq := hP.sqv j p hp
 have hj : j < L.length := (List.getElem?_eq_some_iff.1 hp).1
 have hlen := hP.len
 have a2 := g_rng hc (hP.gle j hj)
 have htp := hP.tmv j p hp
 have key : (putS b now p).2 = 10 ∨ ((putS b now p).2 = 0 ∧ (InvC ck sq tm L g (putS b now p).1) ∧ (putS b now p).1.l.length = b.l.length + 1 ∧ (b.sd = true → (putS b now p).1.nx = b.nx ∧ (putS b now p).1.lo = b.lo) ∧ (putS b now p).1.ti = now) := by
  have hg := @good_put b now p
  unfold putS at hg ⊢
  rw [if_pos hlate, hmd] at hg ⊢
  simp only [cond_true] at hg ⊢
  cases hs : b.sd
  · rw [hs] at hg
    simp only [cond_false] at hg ⊢
    right
    obtain ⟨hgd, -⟩ := hg (by trivial)
    have hgb := hI.good
    rw [goodB_ns hs] at hgb
    have hl0 : b.l = [] := List.eq_nil_of_length_eq_zero hgb.2.2.2
    refine ⟨by trivial, ⟨hgd, ?_, fun _ => ?_⟩, ?_, fun h => (by cases h), ?_⟩
    · simp only [putAt, hs, cond_false]; exact hI.ckq
    · simp only [putAt, hs, cond_false]
      have hlo := hgb.2.2.1
      refine ⟨1099511627776 + p.tm - 20 * ck * (g j : Int), j, j, ⟨?_, ?_, ?_⟩, hsq, by omega, by omega, hj, by omega, fun x hx => ?_⟩
      · rw [htp]; omega
      · rw [htp]; omega
      · rw [htp]; omega
      · have hx : x = ⟨p, 1099511627776 + p.tm⟩ := by
         rcases insL_mem hx with h | h
         · exact h
         · rw [hl0] at h; simp at h
        subst hx
        exact ⟨j, by omega, hj, hp, by dsimp only; omega⟩
    · rw [putAt_l, hl0]; rfl
    · simp only [putAt, hs, cond_false]
  · rw [hs] at hg
    simp only [cond_true] at hg ⊢
    obtain ⟨S0, j0, jm, ⟨s1, s2, s3⟩, hnx, hj0, hlo, hjm, hmr, hh⟩ := hI.sd hs
    have hld := lead_of hsq hnx (by omega) (by omega)
    have hst := stamp_of hc hP s1 hmr hjm hp
    have a1 := g_rng hc (hP.gle jm hjm)
    have hgb := hI.good
    rw [goodB_sd hs] at hgb
    have hl47 := heldB_len hgb.2.2.1 (fun x hx => by
     obtain ⟨i, i1, i2, i3, i4⟩ := hh x hx
     rw [lead_of (hP.sqv i _ i3) hnx (by omega) (by omega)]
     omega) (by omega)
    have c3 : decide (64 ≤ b.l.length) = false := decide_eq_false (by omega)
    have c2 : (decide (lead p.sq b.nx > 511) || (decide (stampS b p < 0) || decide (stampS b p > 1152921504606846976))) = false := by
     simp only [Bool.or_eq_false_iff, decide_eq_false_iff_not]
     refine ⟨by omega, by omega, by omega⟩
    rw [c2, c3] at hg ⊢
    simp only [cond_false] at hg ⊢
    cases c1 : (decide (lead p.sq b.nx < 0) || dupB b.l (pos b.nx (lead p.sq b.nx) b.l) p.sq)
    · right
      rw [c1] at hg
      simp only [cond_false] at hg ⊢
      obtain ⟨hgd, -⟩ := hg (by trivial)
      simp only [Bool.or_eq_false_iff, decide_eq_false_iff_not] at c1
      refine ⟨by trivial, ⟨hgd, ?_, fun _ => ?_⟩, ?_, fun _ => ⟨?_, ?_⟩, ?_⟩
      · simp only [putAt, hs, cond_true]; exact hI.ckq
      · simp only [putAt, hs, cond_true]
        have hmx : ∃ jn, jn < L.length ∧ max b.mr (stampS b p) = S0 + 20 * ck * (g jn : Int) := by
         by_cases hle : b.mr ≤ stampS b p
         · exact ⟨j, hj, by omega⟩
         · exact ⟨jm, hjm, by omega⟩
        obtain ⟨jn, n1, n2⟩ := hmx
        refine ⟨S0, j0, jn, ⟨s1, s2, s3⟩, hnx, hj0, hlo, n1, n2, fun x hx => ?_⟩
        rcases insL_mem hx with h | h
        · subst h
          exact ⟨j, by omega, hj, hp, hst⟩
        · exact hh x h
      · rw [putAt_l]
        have := pos_le b.nx (lead p.sq b.nx) b.l
        simp only [insL, List.length_append, List.length_take, List.length_drop, List.length_singleton]
        omega
      · simp only [putAt, hs, cond_true]
      · simp only [putAt, hs, cond_true]
      · simp only [putAt, hs, cond_true]
    · left; rfl
 rcases key with h | ⟨h0, h1, h2⟩
 · exact .inl h
 · exact .inr ⟨h0, h1, h1.good, h2⟩
theorem frG_chain (t0 : Int) : ∀ (l : List Hd) (v : Md), v.tm = t0 → (∀ x ∈ l, inI 0 65535 x.p.sq = true) → ∀ i, i ≤ frG t0 v l → ∃ y : Md, (v :: l.map (·.p))[i]? = some y ∧ y.tm = t0 ∧ (0 ≤ v.sq ∧ v.sq ≤ 65535 → y.sq = (v.sq + (i : Int)) % 65536) ∧ (i < frG t0 v l → y.ma = false)
 | l, v, hv, hl, 0, _ => by
  refine ⟨v, rfl, hv, fun h => by omega, fun h => ?_⟩
  cases l with
  | nil => simp [frG] at h
  | cons x r =>
   simp only [frG] at h
   cases hm : v.ma
   · rfl
   · rw [hm] at h; simp at h
 | [], v, hv, hl, i + 1, h => by simp [frG] at h
 | x :: r, v, hv, hl, i + 1, h => by
  cases hc : (!v.ma && ((x.p.tm == t0) && (x.p.sq == (v.sq + 1) % 65536)))
  · simp only [frG, hc, cond_false] at h; omega
  · simp only [frG, hc, cond_true] at h ⊢
    simp only [Bool.and_eq_true, beq_iff_eq] at hc
    obtain ⟨y, y1, y2, y3, y4⟩ := frG_chain t0 r x.p hc.2.1 (fun z hz => hl z (List.mem_cons_of_mem _ hz)) i (by omega)
    refine ⟨y, by simpa using y1, y2, fun hv => ?_, fun h => y4 (by omega)⟩
    have := y3 (inI_t (hl x List.mem_cons_self))
    have := hc.2.2
    omega
theorem frN_chain {l : List Hd} {x0 : Hd} (h0 : l[0]? = some x0) (hl : ∀ x ∈ l, inI 0 65535 x.p.sq = true) {i : Nat} (hi : i < frN l) : ∃ y, l[i]? = some y ∧ y.p.tm = x0.p.tm ∧ y.p.sq = (x0.p.sq + (i : Int)) % 65536 ∧ (i + 1 < frN l → y.p.ma = false) := by
 cases l with
 | nil => simp at h0
 | cons x r =>
  simp at h0; subst h0
  simp only [frN] at hi ⊢
  obtain ⟨y, y1, y2, y3, y4⟩ := frG_chain x.p.tm r x.p rfl (fun z hz => hl z (List.mem_cons_of_mem _ hz)) i (by omega)
  have e : (x :: r).map (·.p) = x.p :: r.map (·.p) := rfl
  rw [← e, List.getElem?_map] at y1
  cases hz : (x :: r)[i]? with
  | none => rw [hz] at y1; simp at y1
  | some z =>
   rw [hz] at y1
   simp at y1
   refine ⟨z, rfl, by rw [y1]; exact y2, by rw [y1]; exact y3 (inI_t (hl x List.mem_cons_self)), fun h => by rw [y1]; exact y4 (by omega)⟩
theorem frT_get {l : List Hd} {N i : Nat} {y : Hd} (h : l[i]? = some y) (hi : i < N) : (frT l N)[i]? = some y.p := by
 simp only [frT, List.getElem?_map, List.getElem?_take, if_pos hi, h, Option.map_some]
structure CntT (b c : Bf) (F : List Md) : Prop where
 gd : goodB c = true
 nx : (c.nx - b.nx + 65536) % 65536 = (F.length : Int) + c.lo - b.lo
 rn : 0 ≤ c.nx ∧ c.nx ≤ 65535 ∧ 0 ≤ b.nx ∧ b.nx ≤ 65535 ∧ 0 ≤ b.lo ∧ b.lo ≤ 1000 ∧ 0 ≤ c.lo ∧ c.lo ≤ 1000
 lo : F.length ≠ 0 → c.lo = b.lo
 le : c.l.length < b.l.length
 len : F.length ≤ 64
 fr : ∀ (i : Nat) p, F[i]? = some p → p.sq = (b.nx + (i : Int)) % 65536 ∧ p.ma = decide (i + 1 = F.length)
 tm : ∀ (i : Nat) p p0, F[i]? = some p → F[0]? = some p0 → p.tm = p0.tm
include hP in
theorem cnt_take {b : Bf} {now : Int} (hI : InvC ck sq tm L g b) (hn : b.ti ≤ now ∧ now ≤ 1099511627776) :
 (tkS b now).2.2 = 4 ∨ ((tkS b now).2.2 = 0 ∧ InvC ck sq tm L g (tkS b now).1 ∧ CntT b (tkS b now).1 (tkS b now).2.1 ∧ (tkS b now).1.ti = now) := by
 have hlate : lateB b now = 0 := late_iff.2 ⟨hI.good, hn⟩
 cases e1 : ((b.l.length == 0) || decide (now < dueS b))
 rotate_left
 · left; unfold tkS; rw [if_pos hlate, e1]; rfl
 have hne : b.l.length ≠ 0 := by
  simp only [Bool.or_eq_false_iff, beq_eq_false_iff_ne] at e1
  exact e1.1
 obtain ⟨n1, n2⟩ := frN_pos hne
 obtain ⟨x0, hx0⟩ : ∃ x0, b.l[0]? = some x0 := ⟨_, List.getElem?_eq_getElem (by omega)⟩
 obtain ⟨v, hv⟩ : ∃ v, b.l[frN b.l - 1]? = some v := ⟨_, List.getElem?_eq_getElem (by omega)⟩
 have heq : tkS b now = tkF { b with ti := now } x0 v (frN b.l) := by
  unfold tkS
  rw [if_pos hlate, e1]
  simp only [cond_false, hx0, hv]
 have hsd : b.sd = true := by
  cases hs : b.sd
  · have := hI.good
    rw [goodB_ns hs] at this
    exact absurd this.2.2.2 hne
  · rfl
 obtain ⟨S0, j0, jm, ⟨s1, s2, s3⟩, hnx, hj0, hlo, hjm, hmr, hh⟩ := hI.sd hsd
 obtain ⟨jv, v1, v2, v3, v4⟩ := hh v (List.mem_of_getElem? hv)
 have hvs := hP.sqv jv _ v3
 have hlen := hP.len
 have hgb := hI.good
 rw [goodB_sd hsd] at hgb
 have hgt := @good_take b now
 have hsqs : ∀ x ∈ b.l, inI 0 65535 x.p.sq = true := fun x hx => by
  have := heldB_sq hgb.2.2.1
  simp only [sqOK, List.all_eq_true] at this
  exact this x hx
 have hadv : ((v.p.sq + 1) % 65536 - b.nx) % 65536 = (jv : Int) + 1 - (j0 : Int) := by rw [hvs, hnx]; omega
 have hh2 : ∀ x ∈ b.l.drop (frN b.l), Of ck S0 L g (jv + 1) x := fun x hx => by
  obtain ⟨d1, d2, d3, d4⟩ := heldB_drop hgb.2.2.1 hv
  obtain ⟨i, i1, i2, i3, i4⟩ := hh x (List.mem_of_mem_drop hx)
  refine ⟨i, ?_, i2, i3, i4⟩
  rw [show frN b.l - 1 + 1 = frN b.l by omega] at d1
  have := heldB_ge d1 hx
  rw [lead_of (hP.sqv i _ i3) hnx (by omega) (by omega), lead_of hvs hnx (by omega) (by omega)] at this
  omega
 right
 rw [heq] at hgt ⊢
 have hglo := hgb.1.2.2.2
 unfold tkF at hgt ⊢
 cases e2 : (b.wh && (x0.p.sq == b.nx && v.p.ma))
 · simp only [e2, cond_false] at hgt ⊢
   have c1 : decide (b.lo + ((v.p.sq + 1) % 65536 - b.nx) % 65536 > 1099511627776) = false := decide_eq_false (by omega)
   simp only [c1, cond_false] at hgt ⊢
   have hgd := hgt (by trivial)
   refine ⟨by trivial, ⟨hgd, hI.ckq, fun _ => ⟨S0, jv + 1, jm, ⟨s1, s2, s3⟩, ?_, by omega, ?_, hjm, hmr, hh2⟩⟩, ⟨hgd, ?_, ?_, ?_, ?_, ?_, ?_, ?_⟩, rfl⟩
   · simp only [tkB]; rw [hvs]; omega
   · dsimp only; rw [hadv]; omega
   · simp only [tkB, List.length_nil]; rw [hadv]; rw [← hadv]; omega
   · simp only [tkB]; omega
   · intro h; simp at h
   · simp only [tkB, List.length_drop]; omega
   · simp
   · intro i p h; simp at h
   · intro i p p0 h; simp at h
 · simp only [e2, cond_true] at hgt ⊢
   have hgd := hgt (by trivial)
   simp only [Bool.and_eq_true, beq_iff_eq] at e2
   obtain ⟨w1, w2, w3⟩ := e2
   have hchain := fun {i : Nat} (hi : i < frN b.l) => frN_chain hx0 hsqs hi
   have hvN : v.p.sq = (b.nx + ((frN b.l - 1 : Nat) : Int)) % 65536 := by
    obtain ⟨y, y1, y2, y3, y4⟩ := hchain (i := frN b.l - 1) (by omega)
    rw [hv] at y1; cases y1
    rw [y3, w2]
   have hl64 := hgb.2.2.2
   refine ⟨by trivial, ⟨hgd, hI.ckq, fun _ => ⟨S0, jv + 1, jm, ⟨s1, s2, s3⟩, ?_, by omega, ?_, hjm, hmr, hh2⟩⟩, ⟨hgd, ?_, ?_, ?_, ?_, ?_, ?_, ?_⟩, rfl⟩
   · simp only [tkB]; rw [hvs]; omega
   · simp only [tkB]; omega
   · simp only [tkB]; rw [frT_len n2]; omega
   · simp only [tkB]; omega
   · intro _; rfl
   · simp only [tkB, List.length_drop]; omega
   · rw [frT_len n2]; omega
   · intro i p h
     have hi : i < frN b.l := by
      have := (List.getElem?_eq_some_iff.1 h).1
      rwa [frT_len n2] at this
     obtain ⟨y, y1, y2, y3, y4⟩ := hchain hi
     rw [frT_get y1 hi] at h
     cases h
     rw [frT_len n2]
     refine ⟨by rw [y3, w2], ?_⟩
     by_cases hl : i + 1 < frN b.l
     · rw [y4 hl, decide_eq_false (by omega)]
     · rw [decide_eq_true (by omega)]
       have : i = frN b.l - 1 := by omega
       rw [this, hv] at y1
       cases y1; exact w3
   · intro i p p0 h h0
     have hi : i < frN b.l := by
      have := (List.getElem?_eq_some_iff.1 h).1
      rwa [frT_len n2] at this
     obtain ⟨y, y1, y2, y3, y4⟩ := hchain hi
     rw [frT_get y1 hi] at h
     rw [frT_get hx0 (by omega)] at h0
     cases h; cases h0
     exact y2
end
end Go.Proofs.Jit
