/- Texts laid as one: JitN3 JitN4. -/
import Derived.Test.YtcpgamgkbbckoaaJitNa
section
/- BinarySearchFunc over the open copy. -/
namespace Go.Proofs.Jit
open Go.Ab
set_option maxRecDepth 100000
set_option maxHeartbeats 4000000
set_option linter.unusedSimpArgs false
set_option linter.unusedVariables false
def T44 : List (Nat × Ct) := [(43, k43)]
theorem hT44 : Sound Try.prog (cxT T44) := Sound.cons s43 Sound.nil
abbrev hB (b : Bf) : Hp := [(2, { cells := rows Hd.l b.l, gr := some 10 }), (1, { cells := [.p 0 0] }), (0, { cells := b.c (.sg 2 0 b.l.length) })]
def farOK (far : Int) : Bool := inI (-65536) 65536 far
theorem w44 (b : Bf) (x : Hd) (far : Int) (hx : inI 0 65535 x.p.sq = true) (hn : inI 0 65535 b.nx = true) (hf : farOK far = true) :
 FTL Try.prog 44 [.agg x.l, .i .i64 far, .p 1 0] (hB b) 3 (.i .i64 (lead x.p.sq b.nx - far)) (hB b) 3 := by
 have h43 : ∀ (h : Hp) n, k43 [.i .i64 x.p.sq, .i .i64 b.nx, .i .i64 16] h n = some (true, { v := .i .i64 (lead x.p.sq b.nx), n }) := fun h n => by simp only [k43, hx, hn, Bool.and_self]
 have hr := lead_rng x.p.sq b.nx
 have hf := inI_t hf
 have w1 : IntKind.i64.wrap (lead x.p.sq b.nx - far) = lead x.p.sq b.nx - far := wrapL (by omega) (by omega)
 obtain ⟨ck, ti, sd, wh, nx, mr, of, tr, ji, lo, l⟩ := b
 obtain ⟨⟨ma, pty, sq, tm, pss, cs, xs, pd, pl⟩, st⟩ := x
 dsimp only at h43 w1 hr
 simp only [hB, Bf.c, Hd.l]
 generalize lead sq nx = D at *
 have hLb : ∀ j, belL j (rows Hd.l l) = true := fun j => hrB j l
 have hLr : ∀ ψ, renL ψ (rows Hd.l l) = rows Hd.l l := fun ψ => hrR ψ l
 refine FTL.of_iw hT44 mo Try.func44 i44_eq (by simp [i44]) (iw_of_jw ?_)
 dsimp only [i44, T44]
 simp (maxSteps := 400000) only [go_sem, h43, w1, simprocAttr]
 refine Ends.R [] ?_ ?_ ?_ ?_ ?_
 · decide
 · decide
 · rfl
 · rfl
 · simp (maxSteps := 400000) only [go_sem, AV.ren, renL, AV.bel, belL, nblt, Blk.ren, hLb, hLr, HpR, simprocAttr]
def k44 : Ct
 | [.agg c, .i .i64 far, .p 1 0], h, n => (hget h 0).bind fun k0 => (hget h 1).bind fun k1 => (hget h 2).bind fun k2 => (bfC k0.cells).bind fun b => (hd10 c).bind fun x => match b.2 with
  | .sg 2 0 m => (unrows 10 hd10 m k2.cells).bind fun l => some (!k0.ro && (match k0.gr, k0.gid with | none, none => true | _, _ => false) && (!k1.ro && (match k1.gr, k1.gid with | none, none => true | _, _ => false) && (sameL k1.cells [.p 0 0] && (!k2.ro && ((match k2.gr, k2.gid with | some 10, none => true | _, _ => false) && (inI 0 65535 x.p.sq && (inI 0 65535 b.1.nx && farOK far)))))), { v := .i .i64 (lead x.p.sq b.1.nx - far), n := n + 3, rd := [2, 1, 0] })
  | _ => none
 | _, _, _ => none
theorem s44 : SoundAt Try.prog 44 k44 := fun args h n c E hc ht => by
 unfold k44 at hc
 split at hc
 · rename_i cc far
   simp only [Option.bind_eq_some_iff] at hc
   obtain ⟨k0, hk0, k1, hk1, k2, hk2, ⟨b, v⟩, hb, x, hx, hc⟩ := hc
   split at hc
   · rename_i m hv
     simp only [Option.bind_eq_some_iff] at hc
     obtain ⟨l, hl, hc⟩ := hc
     cases hc
     simp only [Bool.and_eq_true, Bool.not_eq_true'] at ht
     obtain ⟨⟨hr0, hg0⟩, ⟨⟨hr1, hg1⟩, h1, hr2, hg2, h3, h4, h5⟩⟩ := ht
     dsimp only at hv h4
     subst hv
     have e0 := blk_eq hg0 hr0 (bfC_eq hb)
     have e1 := blk_eq hg1 hr1 (sameL_eq h1)
     obtain ⟨hl4, hlm⟩ := unrows_eq (f := Hd.l) (fun c a h => hd10_eq h) hl
     have e2 : k2 = { cells := rows Hd.l l, gr := some 10 } := by
      obtain ⟨cs, ro, gr, gid⟩ := k2
      dsimp only at hr2 hg2 hl4
      subst hl4 hr2
      split at hg2
      · rfl
      · cases hg2
     subst e0 e1 e2 hlm
     rw [hd10_eq hx]
     have hf := w44 { b with l := l } x far h3 h4 h5
     have hbb : belL 3 [AV.agg x.l, AV.i IntKind.i64 far, AV.p 1 0] = true := by simp only [belL, AV.bel, belL_mono0 _ x.bel, nblt]; rfl
     have hm : ∀ {c : Nat} {kk : Blk}, (c, kk) ∈ hB { b with l := l } → (c = 2 ∧ kk = { cells := rows Hd.l l, gr := some 10 }) ∨ (c = 1 ∧ kk = { cells := [.p 0 0] }) ∨ (c = 0 ∧ kk = { cells := b.c (.sg 2 0 l.length) }) := fun hh => by simpa [Bf.c] using hh
     refine (CallOK.gen (k := 3) (kR := 3) (n := n) (h := h) (fun i => i) (fun i => false) (by kernel_rfl) (Nat.le_refl _) ?_ hf (fun c kk hh => ?_) (fun c kk hh => ?_) (fun c hc hh => ?_) (fun c kk hh => ?_) (fun c kk hh => ?_) (fun c1 c2 k1 k2 q1 q2 _ he => he) (fun c kk hh hM => ?_) (fun c kk hh hM => ?_) (fun c kk hh hM => ?_) (fun c kk hh => ?_)).cast (renL_fix (m := 3) (fun _ _ => rfl) _ hbb) ?_
     · exact hbb
     · rcases hm hh with ⟨rfl, rfl⟩ | ⟨rfl, rfl⟩ | ⟨rfl, rfl⟩ <;> rfl
     · rcases hm hh with ⟨rfl, rfl⟩ | ⟨rfl, rfl⟩ | ⟨rfl, rfl⟩ <;> rfl
     · match c, hc with
       | 0, _ => cases hh
       | 1, _ => cases hh
       | 2, _ => cases hh
     · rcases hm hh with ⟨rfl, rfl⟩ | ⟨rfl, rfl⟩ | ⟨rfl, rfl⟩
       · exact ⟨by decide, hrB _ _⟩
       · exact ⟨by decide, rfl⟩
       · exact ⟨by decide, rfl⟩
     · rcases hm hh with ⟨rfl, rfl⟩ | ⟨rfl, rfl⟩ | ⟨rfl, rfl⟩
       · simp only [Blk.ren, hrR]; exact hk2
       · exact hk1
       · exact hk0
     · cases hM
     · rcases hm hh with ⟨rfl, rfl⟩ | ⟨rfl, rfl⟩ | ⟨rfl, rfl⟩ <;> rfl
     · rcases hm hh with ⟨rfl, rfl⟩ | ⟨rfl, rfl⟩ | ⟨rfl, rfl⟩ <;> rfl
     · rcases hm hh with ⟨rfl, rfl⟩ | ⟨rfl, rfl⟩ | ⟨rfl, rfl⟩ <;> decide
     · rfl
   · cases hc
 · cases hc
/-! BinarySearchFunc -/
theorem pos_eq {nx far : Int} : ∀ {l : List Hd} {i : Nat}, i ≤ l.length → (∀ k x, k < i → l[k]? = some x → lead x.p.sq nx < far) → (∀ x, l[i]? = some x → ¬ lead x.p.sq nx < far) → pos nx far l = i
 | [], 0, _, _, _ => rfl
 | [], i + 1, h, _, _ => by simp at h
 | x :: r, 0, _, _, h2 => by
  have := h2 x rfl
  simp only [pos, decide_eq_false this, cond_false]
 | x :: r, i + 1, h0, h1, h2 => by
  have hx := h1 0 x (by omega) rfl
  have := pos_eq (l := r) (i := i) (by simpa using h0) (fun k y hk hy => h1 (k + 1) y (by omega) (by simpa using hy)) (fun y hy => h2 y (by simpa using hy))
  simp only [pos, decide_eq_true hx, cond_true, this]
def srt (nx : Int) (l : List Hd) : Prop := ∀ (i j : Nat) (x y : Hd), i < j → l[i]? = some x → l[j]? = some y → lead x.p.sq nx < lead y.p.sq nx
theorem held_gt {nx mr : Int} : ∀ {l : List Hd} {last : Int}, heldB nx mr last l = true → ∀ (i : Nat) (x : Hd), l[i]? = some x → last < lead x.p.sq nx
 | [], last, _, i, x, hi => by simp at hi
 | y :: r, last, h, i, x, hi => by
  simp only [heldB, Bool.and_eq_true] at h
  obtain ⟨_, _, _, h1, h2⟩ := h
  have h1 := inI_t h1
  cases i with
  | zero => simp at hi; subst hi; omega
  | succ i =>
   have := held_gt h2 i x (by simpa using hi)
   omega
theorem held_srt {nx mr : Int} : ∀ {l : List Hd} {last : Int}, heldB nx mr last l = true → srt nx l
 | [], last, _ => by
  intro i j x y _ hi
  simp at hi
 | z :: r, last, h => by
  intro i j x y hij hi hj
  simp only [heldB, Bool.and_eq_true] at h
  obtain ⟨_, _, _, h1, h2⟩ := h
  cases j with
  | zero => omega
  | succ j =>
   cases i with
   | zero => simp at hi; subst hi; exact held_gt h2 j y (by simpa using hj)
   | succ i => exact held_srt h2 i j x y (by omega) (by simpa using hi) (by simpa using hj)
def fndB (nx far : Int) (l : List Hd) : Bool := match l[pos nx far l]? with
 | some x => lead x.p.sq nx - far == 0
 | none => false
def T45 : List (Nat × Ct) := [(44, k44)]
theorem hT45 : Sound Try.prog (cxT T45) := Sound.cons s44 Sound.nil
theorem w45 (b : Bf) (far : Int) (hl : b.l.length ≤ 64) (hsq : sqOK b.l = true) (hn : inI 0 65535 b.nx = true) (hs : srt b.nx b.l) (hf : farOK far = true) :
 FTL Try.prog 45 [.sg 2 0 b.l.length, .i .i64 far, .fn 44 [.p 1 0]] (hB b) 3 (.tup [.i .i64 (pos b.nx far b.l : Nat), .b (fndB b.nx far b.l)]) (hB b) 3 := by
 have h44 : ∀ (k : Nat) x (h : Hp) n, b.l[k]? = some x → hget h 0 = some { cells := b.c (.sg 2 0 b.l.length) } → hget h 1 = some { cells := [.p 0 0] } → hget h 2 = some { cells := rows Hd.l b.l, gr := some 10 } →
  k44 [.agg x.l, .i .i64 far, .p 1 0] h n = some (true, { v := .i .i64 (lead x.p.sq b.nx - far), n := n + 3, rd := [2, 1, 0] }) := fun k x h n hx g0 g1 g2 => by
  have hxs : inI 0 65535 x.p.sq = true := by
   simp only [sqOK, List.all_eq_true] at hsq
   exact hsq x (List.mem_of_getElem? hx)
  simp only [k44, g0, g1, g2, Option.bind_some, bfC, Bf.c, hd10_l, hd_un, hxs, hn, hf]
  rfl
 obtain ⟨ck, ti, sd, wh, nx, mr, of, tr, ji, lo, l⟩ := b
 dsimp only at hl hsq hs hn h44 ⊢
 refine FTL.of_iw hT45 mo Try.func45 i45_eq (by simp [i45]) (iw_of_jw ?_)
 dsimp only [i45, T45]
 simp only [hB, Bf.c] at h44 ⊢
 have hL : ∀ (k : Nat) x, l[k]? = some x → List.take 10 (List.drop (k * 10) (rows Hd.l l)) = x.l := fun k x hk => rows_at Hd.len hk
 have hLb : ∀ j, belL j (rows Hd.l l) = true := fun j => hrB j l
 have hlen : ∀ x : Hd, x.l.length = 10 := fun x => rfl
 have hLr : ∀ ψ, renL ψ (rows Hd.l l) = rows Hd.l l := fun ψ => hrR ψ l
 generalize rows Hd.l l = L at *
 simp (maxSteps := 400000) only [go_sem, simprocAttr]
 refine Loop.by (F := ⟨Try.prog, cxT T45, [17, 31], 49, 3⟩) hT45 mo (X := Nat × Nat) (fun x => x.1 ≤ x.2 ∧ x.2 ≤ l.length ∧ (∀ k y, k < x.1 → l[k]? = some y → lead y.p.sq nx < far) ∧ (∀ k y, x.2 ≤ k → l[k]? = some y → ¬ lead y.p.sq nx < far)) (fun x => x.2 - x.1)
  (fun x => [(0, .sg 2 0 l.length), (1, .i .i64 far), (2, .fn 44 [.p 1 0]), (8, .i .i64 (l.length : Int)), (9, .i .i64 (x.1 : Int)), (10, .i .i64 (x.2 : Int))])
  (fun x => [(2, { cells := L, gr := some 10 }), (1, { cells := [.p 0 0] }), (0, { cells := [.i .i64 ck, .i .i64 ti, .b sd, .b wh, .i .i64 nx, .i .i64 mr, .i .i64 of, .i .i64 tr, .i .i64 ji, .i .i64 lo, .sg 2 0 l.length] })]) 3 (0, l.length) (by decide) ⟨Nat.zero_le _, Nat.le_refl _, fun k y hk => absurd hk (by omega), fun k y hk hy => by rw [List.getElem?_eq_none hk] at hy; cases hy⟩ ?_ ?_ (fun x hx => ?_)
 · simp (maxSteps := 400000) only [go_sem, AV.bel, belL, nblt, simprocAttr]
 · simp (maxSteps := 400000) only [go_sem, AV.bel, belL, nblt, hLb, simprocAttr]
 · obtain ⟨i, j⟩ := x
   obtain ⟨hij, hjn, hlo, hhi⟩ := hx
   dsimp only at hij hjn hlo hhi ⊢
   dsimp only [T45]
   by_cases hlt : i < j
   · have c1 : decide ((i : Int) < (j : Int)) = true := decide_eq_true (by omega)
     have w1 : IntKind.i64.wrap ((i : Int) + (j : Int)) = ((i + j : Nat) : Int) := by rw [wrapL (by omega) (by omega)]; omega
     have w2 : IntKind.u64.wrap ((i + j : Nat) : Int) = ((i + j : Nat) : Int) := by simp only [IntKind.wrap, IntKind.bits, IntKind.signed]; simp; omega
     have w3 : ((i + j : Nat) : Int).fdiv 2 = (((i + j) / 2 : Nat) : Int) := by rw [Int.fdiv_eq_ediv_of_nonneg _ (by decide)]; omega
     generalize hh : (i + j) / 2 = m at *
     have w4 : IntKind.u64.wrap (m : Int) = (m : Int) := by simp only [IntKind.wrap, IntKind.bits, IntKind.signed]; simp; omega
     have w5 : IntKind.i64.wrap (m : Int) = (m : Int) := wrapL (by omega) (by omega)
     have c2 : decide (0 ≤ (m : Int) ∧ (m : Int) < (l.length : Int)) = true := decide_eq_true (by omega)
     obtain ⟨x, hx⟩ : ∃ x, l[m]? = some x := ⟨_, List.getElem?_eq_getElem (by omega)⟩
     have hxx := hL m x hx
     have h44 := fun n => h44 m x _ n hx (rfl : hget [(2, { cells := L, gr := some 10 }), (1, { cells := [.p 0 0] }), (0, { cells := [.i .i64 ck, .i .i64 ti, .b sd, .b wh, .i .i64 nx, .i .i64 mr, .i .i64 of, .i .i64 tr, .i .i64 ji, .i .i64 lo, .sg 2 0 l.length] })] 0 = _) rfl rfl
     have hle := hlen x
     have hr := lead_rng x.p.sq nx
     have hlx := hlo m
     cases hc : decide (lead x.p.sq nx - far < 0)
     · simp (maxSteps := 400000) only [go_sem, c1, w1, w2, w3, w4, w5, c2, hxx, h44, hle, hc, simprocAttr]
       have hc := of_decide_eq_false hc
       refine ⟨(i, m), ⟨⟨by dsimp only; omega, by dsimp only; omega, hlo, fun k y hk hy => ?_⟩, by dsimp only; omega⟩, ⟨rfl, rfl, rfl, rfl, rfl, rfl, rfl, rfl⟩, hLb 3, rfl, rfl⟩
       rcases Nat.lt_or_ge m k with h | h
       · have := hs m k x y h hx hy
         omega
       · have : k = m := Nat.le_antisymm h hk
         subst this
         rw [hx] at hy; cases hy
         omega
     · simp (maxSteps := 400000) only [go_sem, c1, w1, w2, w3, w4, w5, c2, hxx, h44, hle, hc, simprocAttr]
       have hc := of_decide_eq_true hc
       have w6 : IntKind.i64.wrap ((m : Int) + 1) = ((m + 1 : Nat) : Int) := by rw [wrapL (by omega) (by omega)]; omega
       refine ⟨(m + 1, j), ⟨⟨by dsimp only; omega, by dsimp only; omega, fun k y hk hy => ?_, hhi⟩, by dsimp only; omega⟩, ⟨rfl, rfl, rfl, rfl, by rw [w6], rfl, rfl, rfl⟩, hLb 3, rfl, rfl⟩
       dsimp only at hk
       rcases Nat.lt_or_ge k m with h | h
       · have := hs k m y x h hy hx
         omega
       · have : k = m := by omega
         subst this
         rw [hx] at hy; cases hy
         omega
   · have c1 : decide ((i : Int) < (j : Int)) = false := decide_eq_false (by omega)
     have hpos : pos nx far l = i := pos_eq (by omega) hlo (fun x hx => hhi i x (by omega) hx)
     have hfnd : fndB nx far l = (match l[i]? with | some x => lead x.p.sq nx - far == 0 | none => false) := by unfold fndB; rw [hpos]
     rw [hpos, hfnd]
     by_cases hil : i < l.length
     · obtain ⟨x, hx⟩ : ∃ x, l[i]? = some x := ⟨_, List.getElem?_eq_getElem hil⟩
       have c2 : decide ((i : Int) < (l.length : Int)) = true := decide_eq_true (by omega)
       have c3 : decide (0 ≤ (i : Int) ∧ (i : Int) < (l.length : Int)) = true := decide_eq_true (by omega)
       have h44 := fun n => h44 i x _ n hx (rfl : hget [(2, { cells := L, gr := some 10 }), (1, { cells := [.p 0 0] }), (0, { cells := [.i .i64 ck, .i .i64 ti, .b sd, .b wh, .i .i64 nx, .i .i64 mr, .i .i64 of, .i .i64 tr, .i .i64 ji, .i .i64 lo, .sg 2 0 l.length] })] 0 = _) rfl rfl
       have hle := hlen x
       have hxx := hL i x hx
       rw [hx]
       simp (maxSteps := 400000) only [go_sem, c1, c2, c3, h44, hxx, hle, simprocAttr]
       exact Ends.R [] (by decide) (by decide) rfl rfl ⟨by simp only [Blk.ren, hLr]; rfl, hLb 3, by decide, rfl, rfl, by decide, rfl, rfl, by decide, trivial⟩
     · have c2 : decide ((i : Int) < (l.length : Int)) = false := decide_eq_false (by omega)
       rw [List.getElem?_eq_none (by omega)]
       simp (maxSteps := 400000) only [go_sem, c1, c2, simprocAttr]
       exact Ends.R [] (by decide) (by decide) rfl rfl ⟨by simp only [Blk.ren, hLr]; rfl, hLb 3, by decide, rfl, rfl, by decide, rfl, rfl, by decide, trivial⟩
theorem w45e (b : Bf) (far : Int) : FTL Try.prog 45 [.ze, .i .i64 far, .fn 44 [.p 1 0]] [(1, { cells := [.p 0 0] }), (0, { cells := b.c .ze })] 2 (.tup [.i .i64 0, .b false]) [(1, { cells := [.p 0 0] }), (0, { cells := b.c .ze })] 2 := by
 simp only [Bf.c]
 refine FTL.of_iw hT45 mo Try.func45 i45_eq (by simp [i45]) (iw_of_jw ?_)
 dsimp only [i45, T45]
 simp (maxSteps := 400000) only [go_sem, simprocAttr]
 refine Loop.rounds (F := ⟨Try.prog, cxT T45, [17, 31], 49, 2⟩) 1 hT45 mo ?_
 dsimp only [T45]
 simp (maxSteps := 400000) only [go_sem, simprocAttr]
 exact Ends.R [] (by decide) (by decide) rfl rfl ⟨rfl, rfl, by decide, rfl, rfl, by decide, trivial⟩
def k45 : Ct
 | [.sg 4 0 m, .i .i64 far, .fn 44 [.p 5 0]], h, n => (hget h 3).bind fun k0 => (hget h 5).bind fun k1 => (hget h 4).bind fun k2 => (bfC k0.cells).bind fun b => (unrows 10 hd10 m k2.cells).bind fun l => match b.2 with
  | .sg 4 0 m2 => some ((Nat.beq m2 m && heldB b.1.nx b.1.mr (-1) l) && (!k0.ro && (match k0.gr, k0.gid with | none, none => true | _, _ => false) && (!k1.ro && (match k1.gr, k1.gid with | none, none => true | _, _ => false) && (sameL k1.cells [.p 3 0] && (!k2.ro && ((match k2.gr, k2.gid with | some 10, none => true | _, _ => false) && (decide (l.length ≤ 64) && (inI 0 65535 b.1.nx && farOK far))))))), { v := .tup [.i .i64 (pos b.1.nx far l : Nat), .b (fndB b.1.nx far l)], n := n + 3, rd := [4, 5, 3] })
  | _ => none
 | [.ze, .i .i64 far, .fn 44 [.p 4 0]], h, n => (hget h 3).bind fun k0 => (hget h 4).bind fun k1 => (bfC k0.cells).bind fun b => match b.2 with
  | .ze => some (!k0.ro && (match k0.gr, k0.gid with | none, none => true | _, _ => false) && (!k1.ro && (match k1.gr, k1.gid with | none, none => true | _, _ => false) && sameL k1.cells [.p 3 0]), { v := .tup [.i .i64 0, .b false], n := n + 2, rd := [4, 3] })
  | _ => none
 | _, _, _ => none
theorem k2_eq {k2 : Blk} {L : List AV} (hg2 : (match k2.gr, k2.gid with | some 10, none => true | _, _ => false) = true) (hr2 : k2.ro = false) (hl4 : k2.cells = L) : k2 = { cells := L, gr := some 10 } := by
 obtain ⟨cs, ro, gr, gid⟩ := k2
 dsimp only at hr2 hg2 hl4
 subst hl4 hr2
 split at hg2
 · rfl
 · cases hg2
theorem s45 : SoundAt Try.prog 45 k45 := fun args h n c E hc ht => by
 unfold k45 at hc
 split at hc
 · rename_i m far
   simp only [Option.bind_eq_some_iff] at hc
   obtain ⟨k0, hk0, k1, hk1, k2, hk2, ⟨b, v⟩, hb, l, hl, hc⟩ := hc
   split at hc
   · rename_i m2 hv
     cases hc
     simp only [Bool.and_eq_true, Bool.not_eq_true', decide_eq_true_eq] at ht
     obtain ⟨⟨hm2, hh⟩, ⟨hr0, hg0⟩, ⟨hr1, hg1⟩, h1, hr2, hg2, hln, h4, h5⟩ := ht
     have hm2 := Nat.eq_of_beq_eq_true hm2
     dsimp only at hv h4 hh
     subst hv hm2
     have e0 := blk_eq hg0 hr0 (bfC_eq hb)
     have e1 := blk_eq hg1 hr1 (sameL_eq h1)
     obtain ⟨hl4, hlm⟩ := unrows_eq (f := Hd.l) (fun c a h => hd10_eq h) hl
     have e2 := k2_eq hg2 hr2 hl4
     subst e0 e1 e2 hlm
     have hf := w45 { b with l := l } far hln (heldB_sq hh) h4 (held_srt hh) h5
     have hm : ∀ {c : Nat} {kk : Blk}, (c, kk) ∈ hB { b with l := l } → (c = 2 ∧ kk = { cells := rows Hd.l l, gr := some 10 }) ∨ (c = 1 ∧ kk = { cells := [.p 0 0] }) ∨ (c = 0 ∧ kk = { cells := b.c (.sg 2 0 l.length) }) := fun hh => by simpa [Bf.c] using hh
     refine (CallOK.gen (k := 3) (kR := 3) (n := n) (h := h) (fun i => if i = 0 then 3 else if i = 1 then 5 else 4) (fun i => false) (by kernel_rfl) (Nat.le_refl _) rfl hf (fun c kk hh => ?_) (fun c kk hh => ?_) (fun c hc hh => ?_) (fun c kk hh => ?_) (fun c kk hh => ?_) (fun c1 c2 k1 k2 q1 q2 _ he => ?_) (fun c kk hh hM => ?_) (fun c kk hh hM => ?_) (fun c kk hh hM => ?_) (fun c kk hh => ?_)).cast rfl ?_
     · rcases hm hh with ⟨rfl, rfl⟩ | ⟨rfl, rfl⟩ | ⟨rfl, rfl⟩ <;> rfl
     · rcases hm hh with ⟨rfl, rfl⟩ | ⟨rfl, rfl⟩ | ⟨rfl, rfl⟩ <;> rfl
     · match c, hc with
       | 0, _ => cases hh
       | 1, _ => cases hh
       | 2, _ => cases hh
     · rcases hm hh with ⟨rfl, rfl⟩ | ⟨rfl, rfl⟩ | ⟨rfl, rfl⟩
       · exact ⟨by decide, hrB _ _⟩
       · exact ⟨by decide, rfl⟩
       · exact ⟨by decide, rfl⟩
     · rcases hm hh with ⟨rfl, rfl⟩ | ⟨rfl, rfl⟩ | ⟨rfl, rfl⟩
       · simp only [Blk.ren, hrR]; exact hk2
       · exact hk1
       · exact hk0
     · rcases hm q1 with ⟨rfl, rfl⟩ | ⟨rfl, rfl⟩ | ⟨rfl, rfl⟩ <;> rcases hm q2 with ⟨rfl, _⟩ | ⟨rfl, _⟩ | ⟨rfl, _⟩ <;> first | rfl | (simp at he)
     · cases hM
     · rcases hm hh with ⟨rfl, rfl⟩ | ⟨rfl, rfl⟩ | ⟨rfl, rfl⟩ <;> rfl
     · rcases hm hh with ⟨rfl, rfl⟩ | ⟨rfl, rfl⟩ | ⟨rfl, rfl⟩ <;> rfl
     · rcases hm hh with ⟨rfl, rfl⟩ | ⟨rfl, rfl⟩ | ⟨rfl, rfl⟩ <;> decide
     · rfl
   · cases hc
 · rename_i far
   simp only [Option.bind_eq_some_iff] at hc
   obtain ⟨k0, hk0, k1, hk1, ⟨b, v⟩, hb, hc⟩ := hc
   split at hc
   · rename_i hv
     cases hc
     simp only [Bool.and_eq_true, Bool.not_eq_true', decide_eq_true_eq] at ht
     obtain ⟨⟨hr0, hg0⟩, ⟨hr1, hg1⟩, h1⟩ := ht
     dsimp only at hv
     subst hv
     have e0 := blk_eq hg0 hr0 (bfC_eq hb)
     have e1 := blk_eq hg1 hr1 (sameL_eq h1)
     subst e0 e1
     have hf := w45e b far
     have hm : ∀ {c : Nat} {kk : Blk}, (c, kk) ∈ [(1, ({ cells := [.p 0 0] } : Blk)), (0, { cells := b.c .ze })] → (c = 1 ∧ kk = { cells := [.p 0 0] }) ∨ (c = 0 ∧ kk = { cells := b.c .ze }) := fun hh => by simpa using hh
     refine (CallOK.gen (k := 2) (kR := 2) (n := n) (h := h) (fun i => if i = 0 then 3 else 4) (fun i => false) (by kernel_rfl) (Nat.le_refl _) rfl hf (fun c kk hh => ?_) (fun c kk hh => ?_) (fun c hc hh => ?_) (fun c kk hh => ?_) (fun c kk hh => ?_) (fun c1 c2 k1 k2 q1 q2 _ he => ?_) (fun c kk hh hM => ?_) (fun c kk hh hM => ?_) (fun c kk hh hM => ?_) (fun c kk hh => ?_)).cast rfl ?_
     · rcases hm hh with ⟨rfl, rfl⟩ | ⟨rfl, rfl⟩ <;> rfl
     · rcases hm hh with ⟨rfl, rfl⟩ | ⟨rfl, rfl⟩ <;> rfl
     · match c, hc with
       | 0, _ => cases hh
       | 1, _ => cases hh
     · rcases hm hh with ⟨rfl, rfl⟩ | ⟨rfl, rfl⟩ <;> exact ⟨by decide, rfl⟩
     · rcases hm hh with ⟨rfl, rfl⟩ | ⟨rfl, rfl⟩
       · exact hk1
       · exact hk0
     · rcases hm q1 with ⟨rfl, rfl⟩ | ⟨rfl, rfl⟩ <;> rcases hm q2 with ⟨rfl, _⟩ | ⟨rfl, _⟩ <;> first | rfl | (simp at he)
     · cases hM
     · rcases hm hh with ⟨rfl, rfl⟩ | ⟨rfl, rfl⟩ <;> rfl
     · rcases hm hh with ⟨rfl, rfl⟩ | ⟨rfl, rfl⟩ <;> rfl
     · rcases hm hh with ⟨rfl, rfl⟩ | ⟨rfl, rfl⟩ <;> decide
     · rfl
   · cases hc
 · cases hc
end Go.Proofs.Jit
end
section
/- Put. -/
namespace Go.Proofs.Jit
open Go.Ab
set_option maxRecDepth 100000
set_option maxHeartbeats 4000000
set_option linter.unusedSimpArgs false
set_option linter.unusedVariables false
theorem lead_inj {a b nx : Int} (ha : inI 0 65535 a = true) (hb : inI 0 65535 b = true) (h : lead a nx = lead b nx) : a = b := by
 have ha := inI_t ha
 have hb := inI_t hb
 unfold lead at h
 split at h <;> split at h <;> omega
theorem fnd_dup {nx sq : Int} {l : List Hd} (hs : sqOK l = true) (hq : inI 0 65535 sq = true) : fndB nx (lead sq nx) l = dupB l (pos nx (lead sq nx) l) sq := by
 unfold fndB dupB
 cases hx : l[pos nx (lead sq nx) l]? with
 | none => rfl
 | some x =>
  have hxs : inI 0 65535 x.p.sq = true := by
   simp only [sqOK, List.all_eq_true] at hs
   exact hs x (List.mem_of_getElem? hx)
  simp only
  rw [Bool.eq_iff_iff, beq_iff_eq, beq_iff_eq]
  constructor
  · intro h; exact lead_inj (nx := nx) hxs hq (by omega)
  · intro h; rw [h]; omega
abbrev T15 : List (Nat × Ct) := [(34, k34), (40, k40L), (41, k41), (42, k42), (43, k43), (45, k45), (46, k46), (47, k47)]
theorem hT15 : Sound Try.prog (cxT T15) := Sound.cons s34 <| Sound.cons s40L <| Sound.cons s41 <| Sound.cons s42 <| Sound.cons s43 <| Sound.cons s45 <| Sound.cons s46 <| Sound.cons s47 Sound.nil
theorem appL_del2 {v : AV} {n : Nat} {rd : List Nat} {b c : Nat} {h : Hp} : (Eff.mk v n rd [(b, none), (c, none)] []).appL h = hdel (hdel h c) b := (rfl)
theorem covB {ck ti mr of tr ji lo nx e : Int} {sd wh : Bool} {h : Hp} {n : Nat} {l : List Hd} : CovS 0 (.tup [.agg [.i .i64 ck, .i .i64 ti, .b sd, .b wh, .i .i64 nx, .i .i64 mr, .i .i64 of, .i .i64 tr, .i .i64 ji, .i .i64 lo, .fz (rows Hd.l l) l.length], .i .i64 e]) h n (bfV (⟨ck, ti, sd, wh, nx, mr, of, tr, ji, lo, l⟩, e)) [] 0 := CovS.ends (Ends.pureE (bfV_bel (⟨ck, ti, sd, wh, nx, mr, of, tr, ji, lo, l⟩, e)) rfl)
theorem covS1 {ck ti mr of tr ji lo nx e : Int} {sd wh : Bool} {h : Hp} {n : Nat} (J : Nat) {x : Hd} (hk : hget h J = some { cells := x.l }) :
 CovS 0 (.tup [.agg [.i .i64 ck, .i .i64 ti, .b sd, .b wh, .i .i64 nx, .i .i64 mr, .i .i64 of, .i .i64 tr, .i .i64 ji, .i .i64 lo, .sl J 0 1 1], .i .i64 e]) h n (bfV (⟨ck, ti, sd, wh, nx, mr, of, tr, ji, lo, [x]⟩, e)) [] 0 := by
 have hr : rows Hd.l [x] = x.l := by simp [rows]
 refine CovS.frz (b := J) (k := { cells := x.l }) (h' := []) (o := 0) (m := 1) (cs := rows Hd.l [x]) (v' := bfV (⟨ck, ti, sd, wh, nx, mr, of, tr, ji, lo, [x]⟩, e)) hk rfl (.inl ⟨1, rfl, Nat.le_refl _⟩) (.inl (by rw [hr]; rfl)) (FzV.tup ⟨FzV.agg ⟨FzV.refl, FzV.refl, FzV.refl, FzV.refl, FzV.refl, FzV.refl, FzV.refl, FzV.refl, FzV.refl, FzV.refl, FzV.hit, trivial⟩, FzV.refl, trivial⟩) (fun c kk hc => by simp [hget] at hc) ?_
 exact CovS.ends (Ends.pureE (bfV_bel _) rfl)
theorem w15 (b : Bf) (now : Int) (p : Md) (hl : b.l.length ≤ 9223372036854775807) (hf : finB b.l = true) (hg : b.rg = true) (hp : p.fin = true) : FTL Try.prog 15 [.agg b.a, .i .i64 now, .agg p.l] [] 0 (bfV (putS b now p)) [] 0 := by
 have hba := bfA_a b
 have hll : decide (b.l.length ≤ 9223372036854775807) = true := decide_eq_true hl
 have h9 := md9_l p
 have hk40e : lateB b now ≠ 0 → ∀ (h : Hp) n, k40L [.agg b.a, .i .i64 now] h n = some (true, { v := .tup [.np, .i .i64 (lateB b now)], n }) := fun he h n => by simp only [k40L, hba, Option.bind_some, he, if_false, hll, hf, hg, Bool.and_self]
 have hk40z : lateB b now = 0 → b.l.length = 0 → ∀ (h : Hp) n, k40L [.agg b.a, .i .i64 now] h n = some (true, { v := .tup [.p n 0, .i .i64 0], n := n + 1, nw := [(n, { cells := Bf.c { b with ti := now } .ze })] }) := fun he hz h n => by simp only [k40L, hba, Option.bind_some, he, if_true, hz, hf, hg, Bool.and_self]
 have hk40g : lateB b now = 0 → b.l.length ≠ 0 → ∀ (h : Hp) n, k40L [.agg b.a, .i .i64 now] h n = some (true, { v := .tup [.p n 0, .i .i64 0], n := n + 2, nw := [(n, { cells := Bf.c { b with ti := now } (.sg (n + 1) 0 b.l.length) }), (n + 1, { cells := rows Hd.l b.l, gr := some 10 })] }) := fun he hz h n => by simp only [k40L, hba, Option.bind_some, he, if_true, hz, if_false, hf, hg, Bool.and_self]
 have hk41 : ∀ (h : Hp) n, k41 [.agg p.l] h n = some (true, { v := .i .i64 (if mdB p then 0 else 230), n }) := fun h n => by simp only [k41, h9, Option.bind_some, hp]
 have hgd : lateB b now = 0 → goodB b = true ∧ inI b.ti 1099511627776 now = true := fun h => lateB_0 h
 have hgm := fun e e2 => good_mid (b := b) e e2
 have hgh := fun e => good_head (b := b) e
 have hgz := fun e e2 => good_zero (b := b) e e2
 have hln := fun e => good_len (b := b) e
 have hmq := fun h => mdB_sq (p := p) h
 have hmt := fun h => mdB_tm (p := p) h
 generalize hR : putS b now p = R
 unfold putS at hR
 generalize lateB b now = E at *
 generalize mdB p = mb at *
 refine FTL.of_seamC (cx := cxT T15) Try.func15 i15_eq (by simp [i15]) ?_
 dsimp only [i15]
 have hu := hd_un b.l
 have hpl := md9_l p
 by_cases hE : E = 0
 rotate_left
 · have e1 : (E != 0) = true := by simp [bne, hE]
   rw [if_neg hE] at hR
   obtain ⟨ck, ti, sd, wh, nx, mr, of, tr, ji, lo, l⟩ := b
   obtain ⟨ma, pty, sq, tm, pss, cs, xs, pd, pl⟩ := p
   simp only [Bf.a, Md.l] at hk40e ⊢
   have hk40e := hk40e hE
   refine Seam.run hT15 mo ?_
   dsimp only [T15]
   simp (maxSteps := 400000) only [go_sem, hk40e, e1, simprocAttr]
   rw [← hR]
   exact covN
 obtain ⟨hgo, hnow⟩ := hgd hE
 subst hE
 rw [if_pos rfl] at hR
 replace hln := hln hgo
 obtain ⟨hck, hti, hji⟩ := hgh hgo
 cases mb
 · simp only [cond_false] at hR
   by_cases hz : b.l.length = 0
   · have hk40 := hk40z rfl hz
     obtain ⟨ck, ti, sd, wh, nx, mr, of, tr, ji, lo, l⟩ := b
     obtain ⟨ma, pty, sq, tm, pss, cs, xs, pd, pl⟩ := p
     simp only [Bf.a, Bf.c, Md.l] at hk40 hk41 ⊢
     refine Seam.run hT15 mo ?_
     dsimp only [T15]
     simp (maxSteps := 400000) only [go_sem, hk40, hk41, simprocAttr]
     rw [← hR]
     exact covN
   · have hk40 := hk40g rfl hz
     obtain ⟨ck, ti, sd, wh, nx, mr, of, tr, ji, lo, l⟩ := b
     obtain ⟨ma, pty, sq, tm, pss, cs, xs, pd, pl⟩ := p
     simp only [Bf.a, Bf.c, Md.l] at hk40 hk41 ⊢
     refine Seam.run hT15 mo ?_
     dsimp only [T15]
     simp (maxSteps := 400000) only [go_sem, hk40, hk41, simprocAttr]
     rw [← hR]
     exact covN
 simp only [cond_true] at hR
 replace hmq := hmq rfl
 replace hmt := hmt rfl
 have htm := inI_t hmt
 cases hsd : b.sd
 · -- the first packet
   rw [hsd] at hR
   simp only [cond_false] at hR
   obtain ⟨z1, z2⟩ := hgz hgo hsd
   have hk40 := hk40z rfl z2
   have w1 : IntKind.i64.wrap (1099511627776 + p.tm) = 1099511627776 + p.tm := wrapL (by omega) (by omega)
   have hbo : begOK { b with ti := now } (1099511627776 + p.tm) = true := by
    have := inI_t hnow
    have h2 := inI_t hti
    simp only [begOK, Bool.and_eq_true]
    exact ⟨inI_of (by omega), hck, inI_of (by omega)⟩
   have hk42 : ∀ (h : Hp) n, hget h 3 = some { cells := Bf.c { b with ti := now } .ze } → k42 [.p 3 0, .agg p.l, .i .i64 (1099511627776 + p.tm)] h n = some (true, { v := .tup [], n, rd := [3], md := [(3, some { cells := (begS { b with ti := now } p (1099511627776 + p.tm)).c .ze })] }) := fun h n h3 => by
    have e1 : bfC (Bf.c { b with ti := now } .ze) = some ({ b with ti := now, l := [] }, .ze) := rfl
    have hbo' : begOK { b with ti := now, l := [] } (1099511627776 + p.tm) = true := hbo
    simp only [k42, h3, Option.bind_some, e1, hpl, hbo']
    rfl
   obtain ⟨ck, ti, sd, wh, nx, mr, of, tr, ji, lo, l⟩ := b
   obtain ⟨ma, pty, sq, tm, pss, cs, xs, pd, pl⟩ := p
   dsimp only at hsd w1 z2
   subst hsd
   have hl0 : l = [] := List.eq_nil_of_length_eq_zero z2
   simp only [Bf.a, Bf.c, Md.l, begS] at hk40 hk41 hk42 ⊢
   refine Seam.run hT15 mo ?_
   dsimp only [T15]
   simp (maxSteps := 400000) only [go_sem, hk40, hk41, hk42, w1, simprocAttr]
   rw [← hR]
   subst hl0
   exact covS1 5 (x := ⟨⟨ma, pty, sq, tm, pss, cs, xs, pd, pl⟩, 1099511627776 + tm⟩) rfl
 -- a later one
 rw [hsd] at hR
 simp only [cond_true] at hR
 obtain ⟨hsq, hnx, hmr, htr⟩ := hgm hgo hsd
 have hmr := inI_t hmr
 have hnow := inI_t hnow
 have hti := inI_t hti
 have hheld : heldB b.nx b.mr (-1) b.l = true := by
  simp only [goodB, hsd, cond_true, Bool.and_eq_true] at hgo
  exact hgo.2.2.1
 have hfar := lead_rng p.sq b.nx
 have hfo : farOK (lead p.sq b.nx) = true := inI_of (by omega)
 have hfd := fnd_dup (nx := b.nx) hsq hmq
 have hPle := pos_le b.nx (lead p.sq b.nx) b.l
 have h43 : ∀ (h : Hp) n, k43 [.i .i64 p.sq, .i .i64 b.nx, .i .i64 16] h n = some (true, { v := .i .i64 (lead p.sq b.nx), n }) := fun h n => by simp only [k43, hmq, hnx, Bool.and_self]
 have hl32 := lead32_rng p.tm (b.mr % 4294967296)
 have hmm : inI 0 4294967295 (b.mr % 4294967296) = true := inI_of (by omega)
 have h43b : ∀ (h : Hp) n, k43 [.i .i64 p.tm, .i .i64 (b.mr % 4294967296), .i .i64 32] h n = some (true, { v := .i .i64 (lead32 p.tm (b.mr % 4294967296)), n }) := fun h n => by simp only [k43, hmt, hmm, Bool.and_self]
 have wm : IntKind.i64.wrap (b.mr % 4294967296) = b.mr % 4294967296 := wrapL (by omega) (by omega)
 generalize hps : stampS b p = S at *
 unfold stampS at hps
 have wS : IntKind.i64.wrap (b.mr + lead32 p.tm (b.mr % 4294967296)) = S := by rw [← hps]; exact wrapL (by omega) (by omega)
 have hin : inI 0 1152921504606846976 S = !(decide (S < 0) || decide (S > 1152921504606846976)) := by
  unfold inI
  rw [Bool.eq_iff_iff]
  simp only [Bool.not_eq_true', Bool.or_eq_false_iff, decide_eq_false_iff_not, decide_eq_true_eq, Bool.and_eq_true]
  omega
 have hlo : inI 0 1152921504606846976 S = true → lrnOK { b with ti := now } S = true := fun h => by
  simp only [lrnOK, Bool.and_eq_true]
  exact ⟨inI_of (by omega), hck, h, inI_of (by omega), hji⟩
 have n4 : decide (64 ≤ b.l.length) = ((b.l.length : Int) == 64) := by
  rw [Bool.eq_iff_iff, decide_eq_true_eq, beq_iff_eq]; omega
 rw [n4] at hR
 rw [← hfd] at hR
 have hsh : (decide (S < 0) || decide (S > 1152921504606846976)) = !(inI 0 1152921504606846976 S) := by rw [hin, Bool.not_not]
 rw [hsh] at hR
 clear hfd hin hsh n4
 by_cases hz : b.l.length = 0
 · have hl0 : b.l = [] := List.eq_nil_of_length_eq_zero hz
   have hk40 := hk40z rfl hz
   have h45 : ∀ (h : Hp) n, hget h 3 = some { cells := Bf.c { b with ti := now } .ze } → hget h 4 = some { cells := [.p 3 0] } →
    k45 [.ze, .i .i64 (lead p.sq b.nx), .fn 44 [.p 4 0]] h n = some (true, { v := .tup [.i .i64 (pos b.nx (lead p.sq b.nx) b.l : Nat), .b (fndB b.nx (lead p.sq b.nx) b.l)], n := n + 2, rd := [4, 3] }) := fun h n g3 g4 => by
    have e1 : bfC (Bf.c { b with ti := now } .ze) = some ({ b with ti := now, l := [] }, .ze) := rfl
    simp only [k45, g3, g4, Option.bind_some, e1, hl0]
    rfl
   have h46 : inI 0 1152921504606846976 S = true → ∀ (h : Hp) n, hget h 3 = some { cells := Bf.c { b with ti := now } .ze } →
    k46 [.p 3 0, .i .i64 S] h n = some (true, { v := .tup [], n, rd := [3], md := [(3, some { cells := (lrnS { b with ti := now } S).c .ze })] }) := fun hi h n g3 => by
    have e1 : bfC (Bf.c { b with ti := now } .ze) = some ({ b with ti := now, l := [] }, .ze) := rfl
    have e2 : lrnOK { b with ti := now, l := [] } S = true := hlo hi
    simp only [k46, g3, Option.bind_some, e1, e2]
    rfl
   have h47 : ∀ (h : Hp) n, hget h 7 = some { cells := Hd.l ⟨p, S⟩ } →
    k47 [.ze, .i .i64 (pos b.nx (lead p.sq b.nx) b.l : Nat), .sl 7 0 1 1] h n = some (true, { v := .fz (rows Hd.l [⟨p, S⟩]) 1, n, rd := [7], md := dels [7] }) := fun h n g7 => by
    have q1 : cellsAt (Hd.l ⟨p, S⟩) 0 (1 * 10) = rows Hd.l [⟨p, S⟩] := rfl
    have q3 := hd_un [⟨p, S⟩]
    have q9 : decide ((rows Hd.l [(⟨p, S⟩ : Hd)]).length = 1 * 10) = true := rfl
    have q8 : wrt h [7] = true := by simp [wrt, g7]
    have q2 : decide (((pos b.nx (lead p.sq b.nx) b.l : Nat) : Int) = 0) = true := decide_eq_true (by rw [hl0]; rfl)
    simp only [k47, vwK_s, g7, Option.bind_some, q1, q3, q8, q9, q2, List.length_singleton] at q3 ⊢
    rfl

   generalize hP : pos b.nx (lead p.sq b.nx) b.l = P at *
   generalize hF : fndB b.nx (lead p.sq b.nx) b.l = F at *
   simp only [putAt, hsd, cond_true, hP] at hR
   obtain ⟨ck, ti, sd, wh, nx, mr, of, tr, ji, lo, l⟩ := b
   obtain ⟨ma, pty, sq, tm, pss, cs, xs, pd, pl⟩ := p
   dsimp only at hsd hln hmr hmm hck hji htr h43 h43b wS hR hz wm
   subst hsd
   simp only [Bf.a, Bf.c, Md.l, lrnS, Hd.l] at hk40 hk41 h45 h46 h47 ⊢
   cases b1 : decide (lead sq nx < 0)
   rotate_left
   · rw [b1] at hR
     refine Seam.run hT15 mo ?_
     dsimp only [T15]
     simp (maxSteps := 400000) only [go_sem, hk40, hk41, h43, h45, and32, wm, h43b, wS, b1, simprocAttr]
     rw [← hR]
     exact covN
   rw [b1] at hR
   simp only [Bool.false_or] at hR
   cases F
   rotate_left
   · simp only [cond_true] at hR
     refine Seam.run hT15 mo ?_
     dsimp only [T15]
     simp (maxSteps := 400000) only [go_sem, hk40, hk41, h43, h45, and32, wm, h43b, wS, b1, simprocAttr]
     rw [← hR]
     exact covN
   simp only [cond_false] at hR
   cases b2 : decide (lead sq nx > 511)
   rotate_left
   · rw [b2] at hR
     refine Seam.run hT15 mo ?_
     dsimp only [T15]
     simp (maxSteps := 400000) only [go_sem, hk40, hk41, h43, h45, and32, wm, h43b, wS, b1, b2, k34, simprocAttr]
     rw [← hR]
     exact covN
   rw [b2] at hR
   simp only [Bool.false_or] at hR
   cases b3 : inI 0 1152921504606846976 S
   · rw [b3] at hR
     refine Seam.run hT15 mo ?_
     dsimp only [T15]
     simp (maxSteps := 400000) only [go_sem, hk40, hk41, h43, h45, and32, wm, h43b, wS, b1, b2, k34, b3, simprocAttr]
     rw [← hR]
     exact covN
   rw [b3] at hR
   simp only [Bool.not_true, cond_false] at hR
   have h46 := h46 b3
   cases b4 : ((l.length : Int) == 64)
   rotate_left
   · rw [hz] at b4; cases b4
   rw [b4] at hR
   simp only [cond_false] at hR
   refine Seam.run hT15 mo ?_
   dsimp only [T15]
   simp (maxSteps := 400000) only [go_sem, hk40, hk41, h43, h45, and32, wm, h43b, wS, b1, b2, k34, b3, b4, h46, h47, dels_cons, dels_nil, appL_del2, simprocAttr]
   rw [← hR]
   dsimp only at hl0
   have hil : insL l P ⟨⟨ma, pty, sq, tm, pss, cs, xs, pd, pl⟩, S⟩ = [⟨⟨ma, pty, sq, tm, pss, cs, xs, pd, pl⟩, S⟩] := by
    rw [hl0]; simp [insL]
   rw [hil]
   exact covB

 · have hk40 := hk40g rfl hz
   have h45 : ∀ (h : Hp) n, hget h 3 = some { cells := Bf.c { b with ti := now } (.sg 4 0 b.l.length) } → hget h 5 = some { cells := [.p 3 0] } → hget h 4 = some { cells := rows Hd.l b.l, gr := some 10 } →
    k45 [.sg 4 0 b.l.length, .i .i64 (lead p.sq b.nx), .fn 44 [.p 5 0]] h n = some (true, { v := .tup [.i .i64 (pos b.nx (lead p.sq b.nx) b.l : Nat), .b (fndB b.nx (lead p.sq b.nx) b.l)], n := n + 3, rd := [4, 5, 3] }) := fun h n g3 g5 g4 => by
    have e1 : bfC (Bf.c { b with ti := now } (.sg 4 0 b.l.length)) = some ({ b with ti := now, l := [] }, .sg 4 0 b.l.length) := rfl
    have c1 : Nat.beq b.l.length b.l.length = true := Nat.beq_refl _
    have c2 : decide (b.l.length ≤ 64) = true := decide_eq_true hln
    simp only [k45, g3, g5, g4, Option.bind_some, e1, hu, c1, c2, hheld, hnx, hfo]
    rfl
   have h46 : inI 0 1152921504606846976 S = true → ∀ (h : Hp) n, hget h 3 = some { cells := Bf.c { b with ti := now } (.sg 4 0 b.l.length) } → hget h 4 = some { cells := rows Hd.l b.l, gr := some 10 } →
    k46 [.p 3 0, .i .i64 S] h n = some (true, { v := .tup [], n := n + 2, rd := [3, 4], md := [(3, some { cells := (lrnS { b with ti := now } S).c (.sg 4 0 b.l.length) })] }) := fun hi h n g3 g4 => by
    have e1 : bfC (Bf.c { b with ti := now } (.sg 4 0 b.l.length)) = some ({ b with ti := now, l := [] }, .sg 4 0 b.l.length) := rfl
    have e2 : lrnOK { b with ti := now, l := [] } S = true := hlo hi
    simp only [k46, g3, g4, Option.bind_some, e1, hu, e2]
    rfl
   have h47 : ∀ (h : Hp) n, hget h 11 = some { cells := Hd.l ⟨p, S⟩ } → hget h 4 = some { cells := rows Hd.l b.l, gr := some 10 } →
    k47 [.sg 4 0 b.l.length, .i .i64 (pos b.nx (lead p.sq b.nx) b.l : Nat), .sl 11 0 1 1] h n = some (true, { v := .fz (rows Hd.l (insL b.l (pos b.nx (lead p.sq b.nx) b.l) ⟨p, S⟩)) (b.l.length + 1), n, rd := [4, 11], md := dels [4, 11] }) := fun h n g11 g4 => by
    have q1 : cellsAt (Hd.l ⟨p, S⟩) 0 (1 * 10) = rows Hd.l [⟨p, S⟩] := rfl
    have q2 : cellsAt (rows Hd.l b.l) 0 (b.l.length * 10) = rows Hd.l b.l := by
     unfold cellsAt
     rw [List.drop_zero]
     exact List.take_of_length_le (by rw [rows_len Hd.len]; omega)
    have q3 := hd_un [⟨p, S⟩]
    have q4 : (rows Hd.l b.l).length = b.l.length * 10 := rows_len Hd.len
    have q5 : decide ((rows Hd.l b.l).length = b.l.length * 10) = true := decide_eq_true q4
    have q6 : decide (0 ≤ ((pos b.nx (lead p.sq b.nx) b.l : Nat) : Int) ∧ ((pos b.nx (lead p.sq b.nx) b.l : Nat) : Int).toNat ≤ b.l.length) = true := decide_eq_true ⟨by omega, by rw [Int.toNat_natCast]; exact hPle⟩
    have q7 : decide (b.l.length + 1 ≤ 1000000) = true := decide_eq_true (by omega)
    simp only [k47, vwK_s, g11, g4, Option.bind_some, q1, gvK_g, q2, q3, hu, q5, q6, List.length_singleton] at q3 ⊢
    have q8 : wrt h [11] = true := by simp [wrt, g11]
    have q9 : decide ((rows Hd.l [(⟨p, S⟩ : Hd)]).length = 1 * 10) = true := rfl
    rw [q7, q8, q9, Int.toNat_natCast]
    rfl

   generalize hP : pos b.nx (lead p.sq b.nx) b.l = P at *
   generalize hF : fndB b.nx (lead p.sq b.nx) b.l = F at *
   simp only [putAt, hsd, cond_true, hP] at hR
   obtain ⟨ck, ti, sd, wh, nx, mr, of, tr, ji, lo, l⟩ := b
   obtain ⟨ma, pty, sq, tm, pss, cs, xs, pd, pl⟩ := p
   dsimp only at hsd hln hmr hmm hck hji htr h43 h43b wS hR hz wm
   subst hsd
   simp only [Bf.a, Bf.c, Md.l, lrnS, Hd.l] at hk40 hk41 h45 h46 h47 ⊢
   cases b1 : decide (lead sq nx < 0)
   rotate_left
   · rw [b1] at hR
     refine Seam.run hT15 mo ?_
     dsimp only [T15]
     simp (maxSteps := 400000) only [go_sem, hk40, hk41, h43, h45, and32, wm, h43b, wS, b1, simprocAttr]
     rw [← hR]
     exact covN
   rw [b1] at hR
   simp only [Bool.false_or] at hR
   cases F
   rotate_left
   · simp only [cond_true] at hR
     refine Seam.run hT15 mo ?_
     dsimp only [T15]
     simp (maxSteps := 400000) only [go_sem, hk40, hk41, h43, h45, and32, wm, h43b, wS, b1, simprocAttr]
     rw [← hR]
     exact covN
   simp only [cond_false] at hR
   cases b2 : decide (lead sq nx > 511)
   rotate_left
   · rw [b2] at hR
     refine Seam.run hT15 mo ?_
     dsimp only [T15]
     simp (maxSteps := 400000) only [go_sem, hk40, hk41, h43, h45, and32, wm, h43b, wS, b1, b2, k34, simprocAttr]
     rw [← hR]
     exact covN
   rw [b2] at hR
   simp only [Bool.false_or] at hR
   cases b3 : inI 0 1152921504606846976 S
   · rw [b3] at hR
     refine Seam.run hT15 mo ?_
     dsimp only [T15]
     simp (maxSteps := 400000) only [go_sem, hk40, hk41, h43, h45, and32, wm, h43b, wS, b1, b2, k34, b3, simprocAttr]
     rw [← hR]
     exact covN
   rw [b3] at hR
   simp only [Bool.not_true, cond_false] at hR
   have h46 := h46 b3
   cases b4 : ((l.length : Int) == 64)
   rotate_left
   · rw [b4] at hR
     refine Seam.run hT15 mo ?_
     dsimp only [T15]
     simp (maxSteps := 400000) only [go_sem, hk40, hk41, h43, h45, and32, wm, h43b, wS, b1, b2, k34, b3, b4, simprocAttr]
     rw [← hR]
     exact covN
   rw [b4] at hR
   simp only [cond_false] at hR
   refine Seam.run hT15 mo ?_
   dsimp only [T15]
   simp (maxSteps := 400000) only [go_sem, hk40, hk41, h43, h45, and32, wm, h43b, wS, b1, b2, k34, b3, b4, h46, h47, dels_cons, dels_nil, appL_del2, simprocAttr]
   rw [← hR]
   have hil : l.length + 1 = (insL l P ⟨⟨ma, pty, sq, tm, pss, cs, xs, pd, pl⟩, S⟩).length := by
    simp only [insL, List.length_append, List.length_take, List.length_drop, List.length_singleton]; omega
   rw [hil]
   exact covB
def k15 : Ct
 | [.agg c, .i .i64 now, .agg q], _, n => (bfA c).bind fun b => (md9 q).bind fun p => some (decide (b.l.length ≤ 9223372036854775807) && (finB b.l && (b.rg && p.fin)), { v := bfV (putS b now p), n })
 | _, _, _ => none
theorem s15 : SoundAt Try.prog 15 k15 := fun args h n c E hc ht => by
 unfold k15 at hc
 split at hc
 · simp only [Option.bind_eq_some_iff] at hc
   obtain ⟨b, hd, p, hp, he⟩ := hc
   cases he
   simp only [Bool.and_eq_true, decide_eq_true_eq] at ht
   rw [bfA_eq hd, md9_eq hp]
   exact CallOK.pure (by kernel_rfl) (by simp only [belL, AV.bel, Bf.bel, Md.bel, Bool.and_self]) (bfV_bel _) (w15 b _ p ht.1 ht.2.1 ht.2.2.1 ht.2.2.2) _ _
 · cases hc
end Go.Proofs.Jit
end
