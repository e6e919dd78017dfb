/- Contracts of chapter 29: one packet more. -/
import Derived.Test.YtiacdfhaopnekaaArrC12
import Derived.Test.YtiacdfhaopnekaaArrP5
namespace Go.Ab
set_option linter.unusedVariables false
set_option linter.unusedSimpArgs false
theorem CallOK.sh2n1 {P : Program} {f : FuncId} {A : Nat → Nat → List AV} {U : Nat → AV} {s t q : Sh} {v w : AV} {h : Hp} {n : Nat} (hc : Go.Ab.callable P f = true) (hbel : belL 2 (A 0 1) = true) (hat : shAt v h = some s) (hat2 : shAt w h = some t) (hp : s.plain = true) (hp2 : t.plain = true) (hd : shD v w = true) (hqp : q.plain = true) (hqf : q.fresh = true)
    (hA : ∀ ψ : Nat → Nat, renL ψ (A 0 1) = A (ψ 0) (ψ 1)) (hn : s = .nil → ∀ i i' j, A i j = A i' j) (hn2 : t = .nil → ∀ i j j', A i j = A i j') (hU : ∀ ψ : Nat → Nat, (U 2).ren ψ = U (ψ 2))
    (hft : FTL P f (A 0 1) (s.h 0 ++ t.h 1) 2 (U 2) (s.h 0 ++ (t.h 1 ++ q.h 2)) 3) : CallOK P f (A (shB v) (shB w)) h n { v := U (n + 2), n := n + 3, rd := shR v ++ shR w, nw := q.h (n + 2) } := by
  obtain ⟨h1, h2, h3⟩ := shAt_inv hat
  obtain ⟨g1, g2, g3⟩ := shAt_inv hat2
  have hne : s ≠ .nil → t ≠ .nil → shB v ≠ shB w := fun a b => shD_ne hd (by rw [h2]; cases s <;> simp [Sh.bl] at *) (by rw [g2]; cases t <;> simp [Sh.bl] at *)
  refine (CallOK.shs (ss := [s, t]) (ts := [q]) (bs := [shB v, shB w]) hc rfl hbel (fun i s' b e1 e2 => ?_) (fun i j s1 s2 b e1 e2 n1 n2 e3 e4 => ?_) (fun t' ht => by
    rcases List.mem_cons.1 ht with rfl | ht
    · exact ⟨hqp, hqf⟩
    · cases ht) (by simpa [shsH] using hft)).cast ?_ ?_
  · match i, e1, e2 with
    | 0, e1, e2 => cases e1; cases e2; exact ⟨hp, h3⟩
    | 1, e1, e2 => cases e1; cases e2; exact ⟨hp2, g3⟩
  · match i, j, e1, e2, e3, e4 with
    | 0, 0, _, _, _, _ => rfl
    | 1, 1, _, _, _, _ => rfl
    | 0, 1, e1, e2, e3, e4 => cases e1; cases e2; cases e3; simp at e4; exact absurd e4.symm (hne n1 n2)
    | 1, 0, e1, e2, e3, e4 => cases e1; cases e2; cases e3; simp at e4; exact absurd e4 (hne n2 n1)
  · rw [hA]
    cases s with
    | nil =>
      rw [hn rfl _ (shB v)]
      cases t with
      | nil => rw [hn2 rfl _ _ (shB w)]
      | sl k o l c => rfl
      | sg k o l => rfl
    | sl k o l c =>
      cases t with
      | nil => rw [hn2 rfl _ _ (shB w)]; rfl
      | sl k o l c => rfl
      | sg k o l => rfl
    | sg k o l =>
      cases t with
      | nil => rw [hn2 rfl _ _ (shB w)]; rfl
      | sl k o l c => rfl
      | sg k o l => rfl
  · simp only [hU, shBl, List.append_nil, h2, g2, shsH, List.length_cons, List.length_nil, chiS, Nat.lt_irrefl, if_false]
/-- What a function ends with that looks at two open slices and hands out another. -/
theorem Ends.s2n {s Q : Sh} {k : Blk} {U : Nat → AV} {k' n : Nat} {r : Hp} {v : AV} (hp : s.plain = true) (hk : belL 0 k.cells = true) (hQp : Q.plain = true) (hk' : 2 ≤ k') (hv : v = U k') (hU : ∀ ψ : Nat → Nat, (U 2).ren ψ = U (ψ 2)) (hUb : (U 2).bel 3 = true) (hs : hasS r s 0) (h1 : hget r 1 = some k) (hq : hasS r Q k') : Go.Ab.Ends 2 v r n (U 2) (s.h 0 ++ ([(1, k)] ++ Q.h 2)) 3 := by
  have a1 : ¬ (0 : Nat) = k' := by omega
  have a2 : ¬ (1 : Nat) = k' := by omega
  have a3 : ¬ k' = 0 := by omega
  have a4 : ¬ k' = 1 := by omega
  have e0 : rn [(2, k')] 0 = 0 := rfl
  have e1 : rn [(2, k')] 1 = 1 := rfl
  have e2 : rn [(2, k')] 2 = k' := rfl
  have hb := hk
  refine Go.Ab.Ends.R [(2, k')] (by decide) ?_ (by rw [hU, hv, e2]) hUb ?_
  · have r1 : List.range 2 = [0, 1] := rfl
    have r2 : List.range 3 = [0, 1, 2] := rfl
    simp [rnOK, r1, r2, e0, e1, e2, a1, a2, a3, a4, hk']
  · rw [HpR_app hp (by decide)]
    refine ⟨hs, ?_⟩
    show HpR 3 _ r ((Sh.sl k 0 1 1).h 1 ++ Q.h 2)
    rw [HpR_app (s := Sh.sl k 0 1 1) hk (by decide), HpR_app0 hQp (by decide), e1, e2]
    refine ⟨?_, hq⟩
    intro d kk h2
    have := hget_mem h2
    simp only [Sh.h, List.mem_singleton, Prod.mk.injEq] at this
    obtain ⟨rfl, rfl⟩ := this
    exact h1
end Go.Ab
namespace Go.Proofs.Arr
open Go.Ab
set_option maxRecDepth 100000
set_option maxHeartbeats 16000000
set_option linter.unusedSimpArgs false
set_option linter.unusedVariables false
theorem weigh_lenA {t : Tr} {l : List Pt} (h : l.length ≤ 20) : (weighT t l).2.length ≤ 20 := by
  rw [weigh_eq]
  split
  · simp
  · exact (next_len h).2
theorem add_lenA {t : Tr} {l : List Pt} {a b : Int} (h : l.length ≤ 20) : (addS t l a b).2.length ≤ 20 := by
  unfold addS
  split
  · unfold addT
    split
    · exact h
    · dsimp only
      split
      · exact h
      · split
        · exact h
        · cases t.past
          · exact h
          · exact weigh_lenA h
  · simp
def T24 : List (Nat × Ct) := [(15, k15), (13, k13)]
theorem hT24 : Sound Try.prog (cxT T24) := Sound.cons s15 <| Sound.cons s13 Sound.nil
/-- A packet's pair of times. -/
def prK (a b : Int) : Blk := { cells := [.i .i64 a, .i .i64 b] }
def prS (a b : Int) : Sh := .sl (prK a b) 0 1 1
def prV (s : Sh) : Option (Int × Int) := match s with
  | .sl ⟨[.i .i64 a, .i .i64 b], false, none, none⟩ 0 1 1 => some (a, b)
  | _ => none
theorem prV_eq {s : Sh} {a b : Int} (h : prV s = some (a, b)) : s = prS a b := by
  unfold prV at h
  split at h
  · cases h; rfl
  · cases h
theorem prS_plain (a b : Int) : (prS a b).plain = true := rfl
def adU (t : Tr) (s : Sh) (l : List Pt) (a g : Int) (b : Nat) : AV := .tup [.agg ((addS t l a g).1.l ((addQ t s l a g).v b)), .b true]
def adOK (t : Tr) (l : List Pt) (a g : Int) : Bool := decide (addE t l a g = 0) && good (addS t l a g).1 (addS t l a g).2 && decide (l.length ≤ 20)
theorem adU_ren (t : Tr) (s : Sh) (l : List Pt) (sent got : Int) (k : Nat) (ψ : Nat → Nat) : (adU t s l sent got k).ren ψ = adU t s l sent got (ψ k) := by simp [adU, AV.ren, renL, Tr.l_ren]
theorem adU_bel (t : Tr) (s : Sh) (l : List Pt) (sent got : Int) : (adU t s l sent got 2).bel 3 = true := by simp [adU, AV.bel, belL, Tr.l_bel]
theorem w24 (t : Tr) (s : Sh) (l : List Pt) (a g : Int) (hs : Sh.pts s l) (h : adOK t l a g = true) : FTL Try.prog 24 [.agg (t.l (s.v 0)), .sl 1 0 1 1] (s.h 0 ++ (prS a g).h 1) 2 (adU t s l a g 2) (s.h 0 ++ ((prS a g).h 1 ++ (addQ t s l a g).h 2)) 3 := by
  refine FTL.of_iw hT24 mo Try.func24 i24_eq (by simp [i24]) (iw_of_jw ?_)
  dsimp only [i24, T24]
  simp only [adOK, Bool.and_eq_true, decide_eq_true_eq] at h
  obtain ⟨⟨hE, hG⟩, hL⟩ := h
  have hrd := rd_pts hs
  have hld : decide (l.length ≤ 1000000) = true := decide_eq_true (by omega)
  have hq := addQ_pts (t := t) (sent := a) (got := g) hs
  have hqr := rd_pts hq
  have hql := add_lenA (a := a) (b := g) (t := t) hL
  have hqd : decide ((addS t l a g).2.length ≤ 1000000000000) = true := decide_eq_true (by omega)
  have pS := hs.pl
  have pQ := hq.pl
  have e1 : (prS a g).h 1 = [(1, prK a g)] := rfl
  rw [e1]
  simp (config := { maxSteps := 400000 }) only [go_sem, Tr.l, k15, k13, trV, Tr.eta, addU, hrd, hld, hE, hG, hqr, hqd, pS, pQ, prK, AV.bel, belL, nblt, Blk.ren, renL, AV.ren, Tr.c, simprocAttr]
  refine Loop.rounds (F := ⟨Try.prog, cxT T24, [13, 31], 36, 2⟩) 2 hT24 mo ?_
  dsimp only [T24]
  simp (config := { maxSteps := 400000 }) only [go_sem, lp_succ, Tr.l, k15, k13, trV, Tr.eta, addU, hrd, hld, hE, hG, hqr, hqd, pS, pQ, prK, AV.bel, belL, nblt, Blk.ren, renL, AV.ren, Tr.c, simprocAttr]
  refine Ends.s2n (s := s) (k := prK a g) (U := adU t s l a g) hs.pl rfl hq.pl (k' := 6) (by decide) (by simp only [adU, Tr.l]) (adU_ren t s l a g 2) (adU_bel t s l a g) ?_ ?_ ?_
  · simp [hasS_cons, hasS_hit, hasS_hit0, hasS_skip]
  · simp [hget_cons, prK, hget_skip]
  · simp [hasS_cons, hasS_hit, hasS_hit0, hasS_skip]
def k24 : Ct
  | [.agg c, w], h, n => (trV c).bind fun q => (shAt q.2 h).bind fun s => (rdL ptV 2 s).bind fun l => (shAt w h).bind fun p => (prV p).bind fun x => some (adOK q.1 l x.1 x.2 && shD q.2 w, { v := adU q.1 s l x.1 x.2 (n + 2), n := n + 3, rd := shR q.2 ++ shR w, nw := (addQ q.1 s l x.1 x.2).h (n + 2) })
  | _, _, _ => none
theorem s24 : SoundAt Try.prog 24 k24 := fun args h n c E hc ht => by
  unfold k24 at hc
  split at hc
  · simp only [Option.bind_eq_some_iff] at hc
    obtain ⟨q, hq, s, hs, l, hl, p, hp', x, hx, he⟩ := hc
    obtain ⟨t, v⟩ := q
    obtain ⟨a, g⟩ := x
    cases he
    simp only [Bool.and_eq_true] at ht
    have hp := pts_rd hl
    obtain rfl := prV_eq hx
    rw [trV_eq hq]
    have := CallOK.sh2n1 (n := n) (A := fun a' b => [.agg (t.l (s.v a')), (prS a g).v b]) (U := adU t s l a g) (q := addQ t s l a g) (by kernel_rfl) (by simp [belL, AV.bel, Tr.l_bel, prS, shv_sl, nblt]) hs hp' hp.pl rfl ht.2 (addQ_pts hp).pl (addQ_fresh t s l a g) (fun ψ => by simp [renL, AV.ren, Tr.l_ren, prS, shv_sl]) (fun h0 i i' j => by subst h0; rfl) (fun h0 i j j' => by cases h0) (adU_ren t s l a g 2) (w24 t s l a g hp ht.1)
    rwa [← (shAt_inv hs).1, ← (shAt_inv hp').1] at this
  · cases hc
end Go.Proofs.Arr
