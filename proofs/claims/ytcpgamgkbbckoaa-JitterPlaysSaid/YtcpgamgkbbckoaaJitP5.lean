/- JitterPlays' plain law. -/
import Derived.Test.YtcpgamgkbbckoaaJitP4
import Derived.Test.YtcpgamgkbbckoaaJitP2
namespace Go.Proofs.Jit
open Go.Ab
set_option maxRecDepth 100000
set_option linter.unusedSimpArgs false
set_option linter.unusedVariables false
structure InvP (ck sq tm : Int) (L : List Md) (g : Nat → Nat) (S0 : Int) (j0 : Nat) (b : Bf) : Prop where
 good : goodB b = true
 ckq : b.ck = ck
 sd : b.sd = true
 wh : b.wh = true
 lo : b.lo = 0
 nx : b.nx = (sq + (j0 : Int)) % 65536
 ofb : b.of + S0 ≤ 1000000
 s0 : S0 % 4294967296 = tm % 4294967296 ∧ 1099511597776 ≤ S0 ∧ S0 ≤ 1099511627776 + 4294967296
 mr : ∃ jm, jm < L.length ∧ b.mr = S0 + 20 * ck * (g jm : Int)
 hh : ∀ x ∈ b.l, Of ck S0 L g j0 x
theorem heldB_lenM {nx mr M : Int} : ∀ {l : List Hd} {last : Int}, heldB nx mr last l = true → (∀ x ∈ l, lead x.p.sq nx ≤ M) → last ≤ M → (l.length : Int) ≤ M - last
 | [], last, _, _, h => by simp; omega
 | x :: r, last, h, hx, hl => by
  rw [heldB_cons] at h
  have h1 := hx x List.mem_cons_self
  have := heldB_lenM h.2.2.2.2 (fun y hy => hx y (List.mem_cons_of_mem _ hy)) h1
  simp only [List.length_cons]
  omega
theorem heldB_low {nx mr : Int} : ∀ {l : List Hd} {last : Int} {i : Nat} {x : Hd}, heldB nx mr last l = true → l[i]? = some x → last + 1 + (i : Int) ≤ lead x.p.sq nx
 | [], _, _, _, _, h => by simp at h
 | y :: r, last, 0, x, h, hx => by
  simp at hx; subst hx
  rw [heldB_cons] at h
  omega
 | y :: r, last, i + 1, x, h, hx => by
  rw [heldB_cons] at h
  have := heldB_low h.2.2.2.2 (show r[i]? = some x by simpa using hx)
  omega
section
variable {ck sq tm : Int} {L : List Md} {g : Nat → Nat} (hc : 1 ≤ ck ∧ ck ≤ 96) (hP : PkL ck sq tm L g)
theorem InvP.toC {S0 : Int} {j0 : Nat} {b : Bf} (h : InvP ck sq tm L g S0 j0 b) (hj : j0 ≤ L.length) : InvC ck sq tm L g b :=
 ⟨h.good, h.ckq, fun _ => by
   obtain ⟨jm, m1, m2⟩ := h.mr
   exact ⟨S0, j0, jm, h.s0, h.nx, hj, by rw [h.lo]; omega, m1, m2, h.hh⟩⟩
include hc hP in
theorem pl_first {now : Int} {p : Md} (hp : L[0]? = some p) (hn : 0 ≤ now ∧ now ≤ 10000) : (putS (evZ ck) now p).2 = 0 ∧ (∃ S0, InvP ck sq tm L g S0 0 (putS (evZ ck) now p).1) ∧ (putS (evZ ck) now p).1.l.length = 1 ∧ (∀ x ∈ (putS (evZ ck) now p).1.l, x.p = p) ∧ (putS (evZ ck) now p).1.ti = now := by
 have hmd := hP.md 0 p hp
 have hsq := hP.sqv 0 p hp
 have h0 : 0 < L.length := (List.getElem?_eq_some_iff.1 hp).1
 have a2 := g_rng hc (hP.gle 0 h0)
 have htp := hP.tmv 0 p hp
 have hlate : lateB (evZ ck) now = 0 := late_iff.2 ⟨evZ_good hc, by show (0 : Int) ≤ now ∧ _; omega⟩
 have e : putS (evZ ck) now p = ({ evZ ck with ti := now, sd := true, nx := p.sq, wh := true, of := now * ck - (1099511627776 + p.tm), mr := 1099511627776 + p.tm, tr := now * ck - (1099511627776 + p.tm), l := [⟨p, 1099511627776 + p.tm⟩] }, 0) := by
  unfold putS
  rw [if_pos hlate, hmd]
  rfl
 have hgd := @good_put (evZ ck) now p
 rw [e] at hgd ⊢
 have hgd := (hgd rfl).1
 have hnc : now * ck ≤ 960000 := Int.le_trans (Int.mul_le_mul hn.2 hc.2 (by omega) (by omega)) (by decide)
 refine ⟨rfl, ⟨1099511627776 + p.tm - 20 * ck * (g 0 : Int), hgd, rfl, rfl, rfl, rfl, hsq, ?_, ⟨?_, ?_, ?_⟩, ⟨0, h0, ?_⟩, fun x hx => ?_⟩, rfl, fun x hx => ?_, rfl⟩
 · dsimp only; omega
 · rw [htp]; omega
 · rw [htp]; omega
 · rw [htp]; omega
 · dsimp only; omega
 · have hx : x = ⟨p, 1099511627776 + p.tm⟩ := by simpa using hx
   subst hx
   exact ⟨0, Nat.le_refl _, h0, hp, by dsimp only; omega⟩
 · have hx : x = ⟨p, 1099511627776 + p.tm⟩ := by simpa using hx
   subst hx; rfl
include hc hP in
theorem pl_put {S0 : Int} {b : Bf} {now : Int} {p : Md} {j : Nat} (hI : InvP ck sq tm L g S0 0 b) (hn : b.ti ≤ now ∧ now ≤ 10000) (hp : L[j]? = some p) (hd : ∀ x ∈ b.l, x.p.sq ≠ p.sq) :
 (putS b now p).2 = 0 ∧ InvP ck sq tm L g S0 0 (putS b now p).1 ∧ (putS b now p).1.l.length = b.l.length + 1 ∧ (∀ x ∈ (putS b now p).1.l, x.p = p ∨ x ∈ b.l) ∧ (putS b now p).1.ti = now := by
 have hlate : lateB b now = 0 := late_iff.2 ⟨hI.good, by omega⟩
 have hmd := hP.md j p hp
 have hsq := hP.sqv j p hp
 have hj : j < L.length := (List.getElem?_eq_some_iff.1 hp).1
 have hlen := hP.len
 have a2 := g_rng hc (hP.gle j hj)
 obtain ⟨jm, hjm, hmr⟩ := hI.mr
 obtain ⟨s1, s2, s3⟩ := hI.s0
 have hnx := hI.nx
 have hld := lead_of hsq hnx (by omega) (by omega)
 have hst := stamp_of hc hP s1 hmr hjm hp
 have a1 := g_rng hc (hP.gle jm hjm)
 have hgb := hI.good
 rw [goodB_sd hI.sd] at hgb
 have hh := hI.hh
 have hl47 := heldB_lenM (M := 47) hgb.2.2.1 (fun x hx => by
  obtain ⟨i, i1, i2, i3, i4⟩ := hh x hx
  rw [lead_of (hP.sqv i _ i3) hnx (by omega) (by omega)]
  omega) (by omega)
 have c3 : decide (64 ≤ b.l.length) = false := decide_eq_false (by omega)
 have c2 : (decide (lead p.sq b.nx > 511) || (decide (stampS b p < 0) || decide (stampS b p > 1152921504606846976))) = false := by
  simp only [Bool.or_eq_false_iff, decide_eq_false_iff_not]
  refine ⟨by omega, by omega, by omega⟩
 have c1 : (decide (lead p.sq b.nx < 0) || dupB b.l (pos b.nx (lead p.sq b.nx) b.l) p.sq) = false := by
  rw [decide_eq_false (by omega), Bool.false_or]
  unfold dupB
  split
  · rename_i x hx
    exact beq_eq_false_iff_ne.2 (hd x (List.mem_of_getElem? hx))
  · rfl
 have e : putS b now p = (putAt b now p (pos b.nx (lead p.sq b.nx) b.l) (stampS b p), 0) := by
  unfold putS
  rw [if_pos hlate, hmd, hI.sd, c1, c2, c3]
  rfl
 have hgd := @good_put b now p
 rw [e] at hgd ⊢
 have hgd := (hgd rfl).1
 dsimp only at hgd ⊢
 have hs := hI.sd
 refine ⟨rfl, ⟨hgd, ?_, ?_, ?_, ?_, ?_, ?_, ⟨s1, s2, s3⟩, ?_, fun x hx => ?_⟩, ?_, fun x hx => ?_, ?_⟩
 · simp only [putAt, hs, cond_true]; exact hI.ckq
 · simp only [putAt, hs, cond_true]
 · simp only [putAt, hs, cond_true]; exact hI.wh
 · simp only [putAt, hs, cond_true]; exact hI.lo
 · simp only [putAt, hs, cond_true]; exact hI.nx
 · simp only [putAt, hs, cond_true]; have := hI.ofb; omega
 · simp only [putAt, hs, cond_true]
   by_cases hle : b.mr ≤ stampS b p
   · exact ⟨j, hj, by omega⟩
   · exact ⟨jm, hjm, by omega⟩
 · rw [putAt_l] at hx
   rcases insL_mem hx with h | h
   · subst h
     exact ⟨j, Nat.zero_le _, hj, hp, hst⟩
   · exact hh x h
 · rw [putAt_l]
   have := pos_le b.nx (lead p.sq b.nx) b.l
   simp only [insL, List.length_append, List.length_take, List.length_drop, List.length_singleton]
   omega
 · rw [putAt_l] at hx
   rcases insL_mem hx with h | h
   · subst h; exact .inl rfl
   · exact .inr h
 · simp only [putAt, hs, cond_true]
include hP in
theorem held_all {S0 : Int} {b : Bf} (hI : InvP ck sq tm L g S0 0 b) (hl : b.l.length = L.length) : b.l.map (·.p) = L := by
 have hgb := hI.good
 rw [goodB_sd hI.sd] at hgb
 have hh := hI.hh
 have hlen := hP.len
 refine List.ext_getElem? (fun i => ?_)
 rw [List.getElem?_map]
 by_cases hi : i < L.length
 · obtain ⟨x, hx⟩ : ∃ x, b.l[i]? = some x := ⟨_, List.getElem?_eq_getElem (by omega)⟩
   rw [hx]
   obtain ⟨j, j1, j2, j3, j4⟩ := hh x (List.mem_of_getElem? hx)
   have hld := lead_of (hP.sqv j _ j3) hI.nx (by omega) (by omega)
   have h1 := heldB_low hgb.2.2.1 hx
   obtain ⟨d1, d2, d3, d4⟩ := heldB_drop hgb.2.2.1 hx
   have h2 := heldB_lenM (M := (L.length : Int) - 1) d1 (fun y hy => by
    obtain ⟨i', i1, i2, i3, i4⟩ := hh y (List.mem_of_mem_drop hy)
    rw [lead_of (hP.sqv i' _ i3) hI.nx (by omega) (by omega)]
    omega) (by omega)
   rw [List.length_drop] at h2
   have : j = i := by omega
   subst this
   rw [j3]; rfl
 · rw [List.getElem?_eq_none (by omega), List.getElem?_eq_none (by omega)]; rfl
include hP in
theorem frG_ma : ∀ (l : List Hd) (v : Md) (j : Nat) (t0 : Int), L[j]? = some v → l.map (·.p) = L.drop (j + 1) → v.tm = t0 → ∃ y, L[j + frG t0 v l]? = some y ∧ y.ma = true ∧ frG t0 v l ≤ l.length
 | [], v, j, t0, hv, hl, ht => by
  refine ⟨v, hv, ?_, Nat.le_refl _⟩
  cases hm : v.ma
  · have := hP.nma j v hv hm
    have h := congrArg List.length hl
    rw [List.length_drop] at h
    simp at h
    omega
  · rfl
 | x :: r, v, j, t0, hv, hl, ht => by
  have hx : L[j + 1]? = some x.p := by
   have := congrArg (fun l => l[0]?) hl
   simpa using this.symm
  have hr : r.map (·.p) = L.drop (j + 1 + 1) := by
   have := congrArg (List.drop 1) hl
   simpa [List.drop_drop, Nat.add_comm, Nat.add_left_comm] using this
  cases hcc : (!v.ma && ((x.p.tm == t0) && (x.p.sq == (v.sq + 1) % 65536)))
  · simp only [frG, hcc, cond_false]
    refine ⟨v, hv, ?_, Nat.zero_le _⟩
    cases hm : v.ma
    · obtain ⟨q1, q2⟩ := hP.nma j v hv hm
      have e1 : x.p.tm = t0 := by rw [hP.tmv _ _ hx, q2, ← hP.tmv _ _ hv, ht]
      have e2 : x.p.sq = (v.sq + 1) % 65536 := by rw [hP.sqv _ _ hx, hP.sqv _ _ hv]; omega
      rw [hm, e1, e2] at hcc
      simp at hcc
    · rfl
  · simp only [frG, hcc, cond_true]
    simp only [Bool.and_eq_true, beq_iff_eq] at hcc
    obtain ⟨y, y1, y2, y3⟩ := frG_ma r x.p (j + 1) t0 hx hr hcc.2.1
    exact ⟨y, by rw [← y1]; congr 1; omega, y2, by simp only [List.length_cons]; omega⟩
theorem upZ_le {a b m : Int} (hb : 1 ≤ b) (h : a ≤ m) (hm : 0 ≤ m) : upZ a b ≤ m := by
 unfold upZ
 have : -m ≤ (-a) / b := by
  rw [Int.le_ediv_iff_mul_le (by omega)]
  have h1 : m * 1 ≤ m * b := Int.mul_le_mul_of_nonneg_left hb hm
  rw [Int.neg_mul]
  omega
 omega
include hc hP in
theorem pl_take {S0 : Int} {j0 : Nat} {b : Bf} (hI : InvP ck sq tm L g S0 j0 b) (hl : b.l.map (·.p) = L.drop j0) (hj : j0 < L.length) (ht : 0 ≤ b.ti ∧ b.ti ≤ 2000000) :
 ∃ D, dueE b = (D, 0) ∧ (0 ≤ D ∧ D ≤ 2000000) ∧ ∃ (c : Bf) (F : List Md) (N : Nat), tkS b (max D b.ti) = (c, F, 0) ∧ 1 ≤ N ∧ F.length = N ∧ j0 + N ≤ L.length ∧ F = (L.drop j0).take N ∧ (∃ y, F[N - 1]? = some y ∧ y.ma = true) ∧ InvP ck sq tm L g S0 (j0 + N) c ∧ c.l.map (·.p) = L.drop (j0 + N) ∧ c.ti = max D b.ti := by
 have hlen := hP.len
 have hll : b.l.length = L.length - j0 := by
  have := congrArg List.length hl
  rwa [List.length_map, List.length_drop] at this
 have hgb := hI.good
 rw [goodB_sd hI.sd] at hgb
 obtain ⟨x0, r, hxr⟩ : ∃ x0 r, b.l = x0 :: r := by
  cases h : b.l with
  | nil => rw [h] at hll; simp at hll; omega
  | cons x r => exact ⟨x, r, rfl⟩
 have hx0 : L[j0]? = some x0.p := by
  have := congrArg (fun l => l[0]?) hl
  rw [hxr] at this
  simpa using this.symm
 have hr : r.map (·.p) = L.drop (j0 + 1) := by
  have := congrArg (List.drop 1) hl
  rw [hxr] at this
  simpa [List.drop_drop, Nat.add_comm, Nat.add_left_comm] using this
 obtain ⟨jx, x1, x2, x3, x4⟩ := hI.hh x0 (by rw [hxr]; exact List.mem_cons_self)
 have a2 := g_rng hc (hP.gle jx x2)
 have hD : dueS b = dueF x0.st b.of b.ji b.ck := by unfold dueS; rw [hxr]
 have hck := hI.ckq
 have hof := hI.ofb
 have hu := upZ_le (a := x0.st + b.of) (b := b.ck) (m := 1021120) (by omega) (by omega) (by omega)
 have hDr : 0 ≤ dueS b ∧ dueS b ≤ 2000000 := by
  rw [hD]
  unfold dueF
  omega
 refine ⟨dueS b, ?_, hDr, ?_⟩
 · unfold dueE
   rw [hI.good, decide_eq_false (by omega)]
   have : (b.l.length == 0) = false := beq_eq_false_iff_ne.2 (by omega)
   rw [this]; rfl
 generalize hnow : max (dueS b) b.ti = now
 have hlate : lateB b now = 0 := late_iff.2 ⟨hI.good, by omega⟩
 obtain ⟨y, y1, y2, y3⟩ := frG_ma hP r x0.p j0 x0.p.tm hx0 hr rfl
 have hN : frN b.l = frG x0.p.tm x0.p r + 1 := by rw [hxr]; rfl
 have hrl : r.length + 1 = b.l.length := by rw [hxr]; rfl
 have hjy : j0 + frG x0.p.tm x0.p r < L.length := (List.getElem?_eq_some_iff.1 y1).1
 obtain ⟨v, hv⟩ : ∃ v, b.l[frN b.l - 1]? = some v := ⟨_, List.getElem?_eq_getElem (by omega)⟩
 have hvp : v.p = y := by
  have := congrArg (fun l => l[frN b.l - 1]?) hl
  simp only [List.getElem?_map, hv, List.getElem?_drop, Option.map_some] at this
  rw [show j0 + (frN b.l - 1) = j0 + frG x0.p.tm x0.p r by omega, y1] at this
  exact Option.some.inj this
 have e1 : ((b.l.length == 0) || decide (now < dueS b)) = false := by
  rw [beq_eq_false_iff_ne.2 (by omega), decide_eq_false (by omega)]; rfl
 have e2 : (b.wh && (x0.p.sq == b.nx && v.p.ma)) = true := by
  rw [hI.wh, hvp, y2, hI.nx, hP.sqv j0 _ hx0]
  simp
 have hx0' : b.l[0]? = some x0 := by rw [hxr]; rfl
 have heq : tkS b now = (tkB { b with ti := now } v (frN b.l), frT b.l (frN b.l), 0) := by
  unfold tkS
  rw [if_pos hlate, e1]
  simp only [cond_false, hx0', hv]
  unfold tkF
  dsimp only
  rw [e2]
  rfl
 have hgd := @good_take b now
 rw [heq] at hgd
 have hgd := hgd rfl
 dsimp only at hgd
 have hFl : frT b.l (frN b.l) = (L.drop j0).take (frN b.l) := by rw [← hl]; simp only [frT, List.map_take]
 refine ⟨_, _, frN b.l, heq, by omega, frT_len (frN_le _), by omega, hFl, ⟨y, ?_, y2⟩, ⟨hgd, hI.ckq, hI.sd, hI.wh, hI.lo, ?_, hI.ofb, hI.s0, hI.mr, fun x hx => ?_⟩, ?_, rfl⟩
 · rw [frT_get hv (by omega), hvp]
 · simp only [tkB]; rw [hvp, hP.sqv _ _ y1]; omega
 · obtain ⟨i, i1, i2, i3, i4⟩ := hI.hh x (List.mem_of_mem_drop hx)
   refine ⟨i, ?_, i2, i3, i4⟩
   obtain ⟨d1, d2, d3, d4⟩ := heldB_drop hgb.2.2.1 hv
   rw [show frN b.l - 1 + 1 = frN b.l by omega] at d1
   have := heldB_ge d1 hx
   rw [lead_of (hP.sqv i _ i3) hI.nx (by omega) (by omega), hvp, lead_of (hP.sqv _ _ y1) hI.nx (by omega) (by omega)] at this
   omega
 · simp only [tkB, List.map_drop, hl, List.drop_drop]
end
end Go.Proofs.Jit
