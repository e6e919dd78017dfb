/- Texts laid as one: ResC9 ResC10 ResC11. -/
import Derived.Test.YthnmkedknannhaaResCc
section
/- The contract of Saw, the whole. -/
namespace Go.Proofs.Res
open Go.Ab
set_option maxRecDepth 100000
set_option maxHeartbeats 4000000
set_option linter.unusedSimpArgs false
set_option linter.unusedVariables false

theorem chk_sq {at_ tp : Int} : ∀ {l : List Wt} {last : Int}, chk at_ tp last l = true → ∀ x ∈ l, wantB x at_ = true
  | [], _, _, x, hx => by cases hx
  | y :: r, last, h, x, hx => by
    simp only [chk, Bool.and_eq_true] at h
    rcases List.mem_cons.1 hx with rfl | hx
    · exact h.1
    · exact chk_sq h.2.2 x hx
abbrev i13u : ICode := (.seq (.reg i13r14) (.seq (.reg i13r15) (.seq (.seq (.reg i13r16) (.block 0 (.rfunc (.t 52) [53] i13a19 i13b19))) i13t)))
theorem mid13 (ti tp tp' now seq d : Int) (l : List Wt) (hl : l.length ≤ 64) (hsq : ∀ x ∈ l, inI 0 65535 x.sq = true) (hd : d ≤ 64) (hd0 : -40000 ≤ d) (ht : inI 0 65535 tp = true) (R : Ws × Int)
    (hR : R = bif decide (64 < (keepL seq tp d l ++ missS tp d now).length) then (zW, 3) else (⟨now, true, tp', keepL seq tp d l ++ missS tp d now⟩, 0)) (e : Env) (he3 : eget e 3 = some (.p 0 0)) (he4 : eget e 4 = some (.p 1 0)) (he5 : eget e 5 = some (.p 2 0)) (he6 : eget e 6 = some (.p 3 0)) (he9 : eget e 9 = some (.p 4 0)) (he10 : eget e 10 = some (.p 5 0)) :
    Seam FS i13u (retK [.c 6 true 4, .t 7] fun v h' n' => CovS 0 v h' n' (rsV R) [] 0) e
      [(5, { cells := int1 tp }), (4, { cells := int1 d }), (3, { cells := [.i .i64 0, .b false, .i .i64 0, .ns] }), (2, { cells := int1 seq }), (1, { cells := int1 now }), (0, { cells := [.i .i64 ti, .b true, .i .i64 tp', .fz (rows Wt.l l) l.length] })] 6 := by
  have hdi : inI (-40000) 40000 d = true := inI_of (by omega)
  have hu := wt4_un l
  have hk := fun hv => rf13 ti tp' now tp d (.sg 5 0 (keepL seq tp d l).length) (lG 5 (keepL seq tp d l)) (keepL seq tp d l) (Nat.le_trans (List.length_filter_le _ _) (by omega)) hd hd0 ht hv R hR
  have hz := fun hl0 => rf13 ti tp' now tp d .ze [] (keepL seq tp d l) (Nat.le_trans (List.length_filter_le _ _) (by omega)) hd hd0 ht (.inl ⟨rfl, rfl, hl0⟩) R hR
  refine Seam.part hT10 mo ?_
  dsimp only [FS]
  simp (config := { maxSteps := 400000 }) only [go_sem, he5, he10, he9, simprocAttr]
  refine Seam.part hT10 mo ?_
  dsimp only [FS, T10]
  have hall : l.all (fun x => inI 0 65535 x.sq) = true := List.all_eq_true.2 hsq
  have hlm : decide (l.length ≤ 1000000000) = true := decide_eq_true (by omega)
  cases l with
  | nil =>
    have hz := hz rfl
    have h57 : ∀ (h : Hp) n, k57 [.fz (rows Wt.l []) 0] h n = some (true, { v := .ze, n }) := fun _ _ => rfl
    simp (config := { maxSteps := 400000 }) only [go_sem, he3, he5, he10, he9, h57, k56, int1, oneB, ht, hdi, simprocAttr]
    refine Seam.seq ?_
    refine Seam.part hT10 mo ?_
    try dsimp only [FS, T10]
    simp (config := { maxSteps := 400000 }) only [go_sem, he3, he4, he5, he6, he10, he9, k58, int1, simprocAttr]
    refine Seam.ren [(2, 3), (3, 6), (4, 7)] hz (by decide) (by decide) ?_ ?_
    · simp (config := { maxSteps := 400000 }) only [go_sem, he3, he4, he6, AV.ren, renL, AV.bel, belL, nblt, simprocAttr]
    · simp (config := { maxSteps := 400000 }) only [go_sem, hS, int1, Blk.ren, AV.ren, renL, AV.bel, belL, nblt, wrB, wrR, simprocAttr]
  | cons x r =>
    simp only [List.length_cons] at hu hl hlm
    have hrl : decide (r.length ≤ 1000000000) = true := decide_eq_true (by omega)
    have h57 : ∀ (h : Hp) n, k57 [.fz (rows Wt.l (x :: r)) (r.length + 1)] h n = some (decide (r.length ≤ 1000000000), { v := .sg n 0 (r.length + 1), n := n + 1, nw := [(n, { cells := rows Wt.l (x :: r), gr := some 4 })] }) := fun h n => by
      simp only [k57, hu, Option.bind_some]
    simp (config := { maxSteps := 400000 }) only [go_sem, he3, he5, he10, he9, h57, hu, hrl, k56, int1, oneB, ht, hdi, hall, hlm, simprocAttr]
    refine andB_i (decide_eq_true (by omega)) ?_
    refine Seam.seq ?_
    refine Seam.part hT10 mo ?_
    try dsimp only [FS, T10]
    simp (config := { maxSteps := 400000 }) only [go_sem, he3, he4, he5, he6, he10, he9, k58, int1, simprocAttr]
    refine Seam.ren [(2, 3), (3, 11), (4, 12), (5, 6)] (hk (.inr ⟨rfl, rfl⟩)) (by decide) (by decide) ?_ ?_
    · simp (config := { maxSteps := 400000 }) only [go_sem, he3, he4, he6, AV.ren, renL, AV.bel, belL, nblt, simprocAttr]
    · simp (config := { maxSteps := 400000 }) only [go_sem, hS, lG, int1, Blk.ren, AV.ren, renL, AV.bel, belL, nblt, wrB, wrR, simprocAttr]
theorem w13 (w : Ws) (now seq : Int) (hl : w.l.length ≤ 1000000000000) : FTL Try.prog 13 [.agg w.a, .i .i64 now, .i .i64 seq] [] 0 (rsV (sawS w now seq)) [] 0 := by
  have hwa := wsA_a w
  have hll : decide (w.l.length ≤ 1000000000000) = true := decide_eq_true hl
  have hgd : lateS w now = 0 → goodB w = true := fun h => by
    unfold lateS at h
    cases hg : goodB w
    · rw [hg] at h; simp at h
    · rfl
  generalize hR : sawS w now seq = R
  unfold sawS sawL at hR
  have hlt : lateS w now = lateS w now := rfl
  generalize hL : lateS w now = E at hR hgd
  obtain ⟨ti, st, tp, l⟩ := w
  dsimp only at hR hl hll
  simp only [Ws.a] at hwa ⊢
  refine FTL.of_seamC (cx := cxT T10) Try.func13 i13_eq (by simp [i13]) ?_
  dsimp only [i13]
  refine Seam.part hT10 mo ?_
  simp (config := { maxSteps := 400000 }) only [go_sem, simprocAttr]
  refine Seam.part hT10 mo ?_
  dsimp only [T10]
  by_cases hE : E = 0
  rotate_left
  · have e1 : (E != 0) = true := by simp [bne, hE]
    rw [if_neg hE] at hR
    simp (config := { maxSteps := 400000 }) only [go_sem, k54, hwa, hll, hL, e1, simprocAttr]
    rw [← hR]
    exact cov_n
  have hg := hgd hE
  subst hE
  rw [if_pos rfl] at hR
  have e1 : ((0 : Int) != 0) = false := rfl
  simp (config := { maxSteps := 400000 }) only [go_sem, k54, hwa, hll, hL, e1, simprocAttr]
  refine Seam.part hT10 mo ?_
  try dsimp only [T10]
  cases a1 : inI 0 65535 seq
  · rw [a1] at hR
    simp (config := { maxSteps := 400000 }) only [go_sem, k49, a1, simprocAttr]
    rw [← hR]
    exact cov_n
  rw [a1] at hR
  simp (config := { maxSteps := 400000 }) only [go_sem, k49, a1, simprocAttr]
  refine Seam.part hT10 mo ?_
  try dsimp only [T10]
  cases st
  · simp (config := { maxSteps := 400000 }) only [go_sem, simprocAttr]
    rw [← hR]
    exact cov_n
  simp (config := { maxSteps := 400000 }) only [go_sem, simprocAttr]
  have hhd : headB ⟨ti, true, tp, l⟩ = true ∧ chk ti tp (-1001) l = true := by
    simp only [goodB, Bool.and_eq_true] at hg; exact hg
  obtain ⟨_, a2, hl64⟩ := headB_t hhd.1
  have hsq : ∀ x ∈ l, inI 0 65535 x.sq = true := fun x hx => wantB_sq (chk_sq hhd.2 x hx)
  dsimp only at a2 hl64
  refine Seam.part hT10 mo ?_
  try dsimp only [T10]
  simp (config := { maxSteps := 400000 }) only [go_sem, k51, a1, a2, simprocAttr]
  have hrg := lead_rng seq tp
  generalize lead seq tp = d at hR hrg
  refine Seam.part hT10 mo ?_
  try dsimp only [T10]
  cases a3 : decide (d > 64)
  rotate_left
  · rw [a3] at hR
    simp (config := { maxSteps := 400000 }) only [go_sem, a3, simprocAttr]
    rw [← hR]
    exact cov_n
  rw [a3] at hR
  have hd := of_decide_eq_false a3
  simp (config := { maxSteps := 400000 }) only [go_sem, a3, simprocAttr]
  refine Seam.part hT10 mo ?_
  try dsimp only [T10]
  simp (config := { maxSteps := 400000 }) only [go_sem, simprocAttr]
  refine Seam.part hT10 mo ?_
  try dsimp only [T10]
  have mid := fun tp' hh => mid13 ti tp tp' now seq d l hl64 hsq (by omega) (by omega) a2 R hh
  by_cases a4 : d > 0
  · have a4' : decide (d > 0) = true := decide_eq_true a4
    rw [if_pos a4] at hR
    simp (config := { maxSteps := 400000 }) only [go_sem, a4', simprocAttr]
    exact mid seq hR.symm _ rfl rfl rfl rfl rfl rfl
  · have a4' : decide (d > 0) = false := decide_eq_false a4
    rw [if_neg a4] at hR
    simp (config := { maxSteps := 400000 }) only [go_sem, a4', simprocAttr]
    exact mid tp hR.symm _ rfl rfl rfl rfl rfl rfl
end Go.Proofs.Res
end
section
/- The contract of the reference's Saw. -/
namespace Go.Proofs.Res
open Go.Ab
set_option maxRecDepth 100000
set_option maxHeartbeats 4000000
set_option linter.unusedSimpArgs false
set_option linter.unusedVariables false

theorem snoc_f {α : Type} {p : α → Bool} {l : List α} {k : Nat} {x : α} (h : l[k]? = some x) : (l.take (k + 1)).filter p = (l.take k).filter p ++ (if p x then [x] else []) := by
  rw [List.take_add_one, h, List.filter_append]
  cases hq : p x <;> simp [hq]
def T11 : List (Nat × Ct) := [(53, k53), (59, k54)]
theorem hT11 : Sound Try.prog (cxT T11) := Sound.cons s53 (Sound.cons s59 Sound.nil)
noncomputable abbrev FR : Fx := ⟨Try.prog, cxT T11, [18, 26, 30, 39, 42, 47, 57, 70, 84, 95, 112], 119, 0⟩
/-- The head state of the reference's loops: q lies in the list under the name 2. -/
abbrev eR (now seq d : Int) (q : List Wt) (t : Nat) (k : Int) : Env := [(1, .i .i64 now), (2, .i .i64 seq), (3, .p 0 0), (6, .p 1 0), (9, .i .i64 d), (10, (gQ Wt.l 4 q).v 2), (t, .i .i64 k)]
abbrev hR (ti tp : Int) (l q : List Wt) : Hp := (gQ Wt.l 4 q).h 2 ++ [(1, { cells := [.i .i64 0, .b false, .i .i64 0, .ns] }), (0, { cells := [.i .i64 ti, .b true, .i .i64 tp, .fz (rows Wt.l l) l.length] })]
theorem gQp (q : List Wt) : (gQ Wt.l 4 q).plain = true := (gQ_is (f := Wt.l) Wt.bel Wt.len q).pl
/-- What is known of the temporaries. -/
def eGets (e : Env) (now seq d : Int) (q : List Wt) : Prop := eget e 1 = some (.i .i64 now) ∧ eget e 2 = some (.i .i64 seq) ∧ eget e 3 = some (.p 0 0) ∧ eget e 6 = some (.p 1 0) ∧ eget e 9 = some (.i .i64 d) ∧ eget e 10 = some ((gQ Wt.l 4 q).v 2)
theorem loop18 (ti tp now seq d : Int) (l : List Wt) (hl : l.length ≤ 64) {K : Kont} {e : Env} {h : Hp} {n : Nat} (m0 : List (Nat × Nat)) (hm0 : rnOK m0 0 3 = true)
    (he : EnvR 3 m0 e (eR now seq d [] 11 0)) (hh : HpR 3 m0 h (hR ti tp l []))
    (hK : ∀ e', eGets e' now seq d (l.filter fun x => !(x.sq == seq)) → K (.exit 0) e' (hR ti tp l (l.filter fun x => !(x.sq == seq))) 3) :
    Ab.Loop Try.prog [18, 26, 30, 39, 42, 47, 57, 70, 84, 95, 112] 119 0 i14l18 K e h n := by
  refine Loop.stepR (F := FR) hT11 mo (X := Nat) (fun k => k ≤ l.length) (fun k => l.length - k)
    (fun k => eR now seq d ((l.take k).filter fun x => !(x.sq == seq)) 11 (k : Int)) (fun k => hR ti tp l ((l.take k).filter fun x => !(x.sq == seq))) 3 0 (fun k => k + 1) m0 (fun k => match l[k]? with | some x => if x.sq == seq then [] else [(2, 4)] | none => []) (by decide) hm0 (fun k => by split <;> (try split) <;> decide) (Nat.zero_le _) he hh (fun k hk => ?_)
  dsimp only [FR, T11]
  by_cases hlt : k < l.length
  · have c1 : decide ((k : Int) < (l.length : Int)) = true := decide_eq_true (by omega)
    have c2 : decide (0 ≤ (k : Int) ∧ (k : Int) < (l.length : Int)) = true := decide_eq_true (by omega)
    have hw : IntKind.i64.wrap ((k : Int) + 1) = ((k + 1 : Nat) : Int) := by rw [wrapL (by omega) (by omega)]; omega
    obtain ⟨x, hx⟩ : ∃ x, l[k]? = some x := ⟨_, List.getElem?_eq_getElem hlt⟩
    have hr := wt_at hx
    have hr0 : (rows Wt.l l)[k * 4]? = some (.i .i64 x.sq) := by
      have := rows_get (f := Wt.l) (z := 4) (j := 0) (v := .i .i64 x.sq) Wt.len hx rfl
      simpa using this
    have hsn := snoc_f (p := fun x => !(x.sq == seq)) hx
    have hsk : l.length - (k + 1) < l.length - k := by omega
    have hfl : ((l.take k).filter fun x => !(x.sq == seq)).length ≤ 64 := Nat.le_trans (List.length_filter_le _ _) (Nat.le_trans (List.length_take_le _ _) (by omega))
    generalize hq : (l.take k).filter (fun x => !(x.sq == seq)) = q at *
    rw [hsn, hx]
    have gm : decide (32 * (q.length + 1) ≤ growMax) = true := decide_eq_true (by simp only [growMax]; omega)
    have zR : (rows Wt.l q).length = q.length * 4 := rows_len Wt.len
    have pk := gQp q
    have hLb := wrB 3
    cases hs : (x.sq == seq)
    · have hs' : (x.sq != seq) = true := by simp [bne, hs]
      have pk' := gQp (q ++ [x])
      simp only [hs, Bool.not_false, if_true, Bool.false_eq_true, if_false, eR, hR]
      rw [gQ_snoc] at pk' ⊢
      obtain ⟨sq, fd, ak, tr⟩ := x
      simp only [Wt.l] at pk' hr hr0
      simp (config := { maxSteps := 400000 }) only [go_sem, c1, c2, hw, hr, hr0, hs', gm, zR, pk, pk', hsk, hlt, AV.bel, belL, nblt, Blk.ren, renL, AV.ren, wrB, wrR, Wt.l, Nat.add_zero, simprocAttr]
      exact hlt
    · have hs' : (x.sq != seq) = false := by simp [bne, hs]
      simp only [hs, Bool.not_true, Bool.false_eq_true, if_false, if_true, List.append_nil, eR, hR]
      simp (config := { maxSteps := 400000 }) only [go_sem, c1, c2, hw, hr0, hs', pk, hsk, hlt, AV.bel, belL, nblt, Blk.ren, renL, AV.ren, wrB, wrR, Nat.add_zero, simprocAttr]
      exact hlt
  · have c1 : decide ((k : Int) < (l.length : Int)) = false := decide_eq_false (by omega)
    obtain rfl : k = l.length := by omega
    rw [List.take_length]
    generalize l.filter (fun x => !(x.sq == seq)) = q at *
    have pk := gQp q
    simp only [eR, hR]
    simp (config := { maxSteps := 400000 }) only [go_sem, c1, pk, simprocAttr]
    exact hK _ ⟨rfl, rfl, rfl, rfl, rfl, rfl⟩
theorem loop24 (ti tp now seq d : Int) (l : List Wt) (hl : l.length ≤ 64) (hd : -40000 ≤ d ∧ d ≤ 40000) (htp : inI 0 65535 tp = true) (hsq : ∀ x ∈ l, inI 0 65535 x.sq = true) {K : Kont} {e : Env} {h : Hp} {n : Nat} (m0 : List (Nat × Nat)) (hm0 : rnOK m0 0 3 = true)
    (he : EnvR 3 m0 e (eR now seq d [] 12 0)) (hh : HpR 3 m0 h (hR ti tp l []))
    (hK : ∀ e', eGets e' now seq d (l.filter fun x => decide (lead x.sq tp - d ≥ -1000)) → K (.exit 2) e' (hR ti tp l (l.filter fun x => decide (lead x.sq tp - d ≥ -1000))) 3) :
    Ab.Loop Try.prog [18, 26, 30, 39, 42, 47, 57, 70, 84, 95, 112] 119 0 i14l24 K e h n := by
  refine Loop.stepR (F := FR) hT11 mo (X := Nat) (fun k => k ≤ l.length) (fun k => l.length - k)
    (fun k => eR now seq d ((l.take k).filter fun x => decide (lead x.sq tp - d ≥ -1000)) 12 (k : Int)) (fun k => hR ti tp l ((l.take k).filter fun x => decide (lead x.sq tp - d ≥ -1000))) 3 0 (fun k => k + 1) m0 (fun k => match l[k]? with | some x => if lead x.sq tp - d ≥ -1000 then [(2, 4)] else [] | none => []) (by decide) hm0 (fun k => by split <;> (try split) <;> decide) (Nat.zero_le _) he hh (fun k hk => ?_)
  dsimp only [FR, T11]
  by_cases hlt : k < l.length
  · have c1 : decide ((k : Int) < (l.length : Int)) = true := decide_eq_true (by omega)
    have c2 : decide (0 ≤ (k : Int) ∧ (k : Int) < (l.length : Int)) = true := decide_eq_true (by omega)
    have hw : IntKind.i64.wrap ((k : Int) + 1) = ((k + 1 : Nat) : Int) := by rw [wrapL (by omega) (by omega)]; omega
    obtain ⟨x, hx⟩ : ∃ x, l[k]? = some x := ⟨_, List.getElem?_eq_getElem hlt⟩
    have hr := wt_at hx
    have hr0 : (rows Wt.l l)[k * 4]? = some (.i .i64 x.sq) := by
      have := rows_get (f := Wt.l) (z := 4) (j := 0) (v := .i .i64 x.sq) Wt.len hx rfl
      simpa using this
    have hsn := snoc_f (p := fun x => decide (lead x.sq tp - d ≥ -1000)) hx
    have hsk : l.length - (k + 1) < l.length - k := by omega
    have hfl : ((l.take k).filter fun x => decide (lead x.sq tp - d ≥ -1000)).length ≤ 64 := Nat.le_trans (List.length_filter_le _ _) (Nat.le_trans (List.length_take_le _ _) (by omega))
    generalize hq : (l.take k).filter (fun x => decide (lead x.sq tp - d ≥ -1000)) = q at *
    rw [hsn, hx]
    have gm : decide (32 * (q.length + 1) ≤ growMax) = true := decide_eq_true (by simp only [growMax]; omega)
    have zR : (rows Wt.l q).length = q.length * 4 := rows_len Wt.len
    have pk := gQp q
    have hLb := wrB 3
    have hld := lead_rng x.sq tp
    have hxs := hsq x (List.mem_of_getElem? hx)
    have hwl : IntKind.i64.wrap (lead x.sq tp - d) = lead x.sq tp - d := wrapL (by omega) (by omega)
    by_cases hs : lead x.sq tp - d ≥ -1000
    · have hs' : decide (lead x.sq tp - d ≥ -1000) = true := decide_eq_true hs
      have pk' := gQp (q ++ [x])
      simp only [hs', if_pos hs, if_true, eR, hR]
      rw [gQ_snoc] at pk' ⊢
      obtain ⟨sq, fd, ak, tr⟩ := x
      simp only [Wt.l] at pk' hr hr0
      simp (config := { maxSteps := 400000 }) only [go_sem, c1, c2, hw, hr, hr0, k53, hxs, htp, hwl, hs', gm, zR, pk, pk', hsk, hlt, AV.bel, belL, nblt, Blk.ren, renL, AV.ren, wrB, wrR, Wt.l, Nat.add_zero, simprocAttr]
      exact hlt
    · have hs' : decide (lead x.sq tp - d ≥ -1000) = false := decide_eq_false hs
      simp only [hs', if_neg hs, Bool.false_eq_true, if_false, List.append_nil, eR, hR]
      simp (config := { maxSteps := 400000 }) only [go_sem, c1, c2, hw, hr0, k53, hxs, htp, hwl, hs', pk, hsk, hlt, AV.bel, belL, nblt, Blk.ren, renL, AV.ren, wrB, wrR, Nat.add_zero, simprocAttr]
      exact hlt
  · have c1 : decide ((k : Int) < (l.length : Int)) = false := decide_eq_false (by omega)
    obtain rfl : k = l.length := by omega
    rw [List.take_length]
    generalize l.filter (fun x => decide (lead x.sq tp - d ≥ -1000)) = q at *
    have pk := gQp q
    simp only [eR, hR]
    simp (config := { maxSteps := 400000 }) only [go_sem, c1, pk, simprocAttr]
    exact hK _ ⟨rfl, rfl, rfl, rfl, rfl, rfl⟩
theorem loop29 (ti tp now seq d : Int) (l q0 : List Wt) (hl : q0.length ≤ 64) (hd : d ≤ 64) (htp : inI 0 65535 tp = true) {K : Kont} {e : Env} {h : Hp} {n : Nat} (m0 : List (Nat × Nat)) (hm0 : rnOK m0 0 3 = true)
    (he : EnvR 3 m0 e (eR now seq d q0 13 1)) (hh : HpR 3 m0 h (hR ti tp l q0))
    (hK : ∀ e', eGets e' now seq d (q0 ++ missS tp d now) → K (.exit 4) e' (hR ti tp l (q0 ++ missS tp d now)) 3) :
    Ab.Loop Try.prog [18, 26, 30, 39, 42, 47, 57, 70, 84, 95, 112] 119 0 i14l29 K e h n := by
  have htp := inI_t htp
  refine Loop.stepR (F := FR) hT11 mo (X := Nat) (fun k => k ≤ (d - 1).toNat) (fun k => (d - 1).toNat - k)
    (fun k => eR now seq d (q0 ++ mapN (missF tp now) k) 13 ((k : Int) + 1)) (fun k => hR ti tp l (q0 ++ mapN (missF tp now) k)) 3 0 (fun k => k + 1) m0 (fun _ => [(2, 4)]) (by decide) hm0 (fun k => by decide) (Nat.zero_le _) (by simpa [mapN] using he) (by simpa [mapN] using hh) (fun k hk => ?_)
  dsimp only [FR, T11]
  by_cases hlt : k < (d - 1).toNat
  · have c1 : decide ((k : Int) + 1 < d) = true := decide_eq_true (by omega)
    have hw : IntKind.i64.wrap ((k : Int) + 1 + 1) = ((k + 1 : Nat) : Int) + 1 := by rw [wrapL (by omega) (by omega)]; omega
    have w2 : IntKind.i64.wrap (tp + ((k : Int) + 1)) = tp + ((k : Int) + 1) := wrapL (by omega) (by omega)
    have w3 : (tp + ((k : Int) + 1)).tmod 65536 = (tp + ((k : Int) + 1)) % 65536 := Int.tmod_eq_emod_of_nonneg (by omega)
    have hsk : (d - 1).toNat - (k + 1) < (d - 1).toNat - k := by omega
    have hms : q0 ++ mapN (missF tp now) (k + 1) = (q0 ++ mapN (missF tp now) k) ++ [⟨(tp + ((k : Int) + 1)) % 65536, now, 0, 0⟩] := by
      rw [mapN_s, List.append_assoc]; rfl
    rw [hms]
    have hfl : (q0 ++ mapN (missF tp now) k).length ≤ 200 := by rw [List.length_append, mapN_len]; omega
    generalize q0 ++ mapN (missF tp now) k = q at *
    have gm : decide (32 * (q.length + 1) ≤ growMax) = true := decide_eq_true (by simp only [growMax]; omega)
    have zR : (rows Wt.l q).length = q.length * 4 := rows_len Wt.len
    have pk := gQp q
    have pk' := gQp (q ++ [⟨(tp + ((k : Int) + 1)) % 65536, now, 0, 0⟩])
    simp only [eR, hR]
    rw [gQ_snoc] at pk' ⊢
    simp only [Wt.l] at pk'
    simp (config := { maxSteps := 400000 }) only [go_sem, c1, hw, w2, w3, gm, zR, pk, pk', hsk, hlt, AV.bel, belL, nblt, Blk.ren, renL, AV.ren, wrB, wrR, Wt.l, Nat.add_zero, simprocAttr]
    exact hlt
  · have c1 : decide ((k : Int) + 1 < d) = false := decide_eq_false (by omega)
    obtain rfl : k = (d - 1).toNat := by omega
    unfold missS at hK
    generalize q0 ++ mapN (missF tp now) (d - 1).toNat = q at *
    have pk := gQp q
    simp only [eR, hR]
    simp (config := { maxSteps := 400000 }) only [go_sem, c1, pk, simprocAttr]
    exact hK _ ⟨rfl, rfl, rfl, rfl, rfl, rfl⟩
end Go.Proofs.Res
end
section
/- The contract of the reference's Saw, the whole; SameWants. -/
namespace Go.Proofs.Res
open Go.Ab
set_option maxRecDepth 100000
set_option maxHeartbeats 4000000
set_option linter.unusedSimpArgs false
set_option linter.unusedVariables false

theorem gQcap (q : List Wt) : (gQ Wt.l 4 q).capOK := by unfold gQ; split <;> trivial
theorem cov_q {ti tp e : Int} {st : Bool} {h : Hp} {n : Nat} {q : List Wt} {b : Nat} (hk : hasS h (gQ Wt.l 4 q) b) : CovS 0 (.tup [.agg [.i .i64 ti, .b st, .i .i64 tp, (gQ Wt.l 4 q).v b], .i .i64 e]) h n (rsV (⟨ti, st, tp, q⟩, e)) [] 0 := by
  refine CovS.frzS (h' := []) (v' := rsV (⟨ti, st, tp, q⟩, e)) (gQ_is (f := Wt.l) Wt.bel Wt.len q) (gQ_fresh q) (gQcap q) hk (FzV.tup ⟨FzV.agg ⟨FzV.refl, FzV.refl, FzV.refl, FzV.hit, trivial⟩, FzV.refl, trivial⟩) (fun c kk hc => by simp [hget] at hc) ?_
  exact CovS.ends (Ends.pureE (by simp only [rsV, AV.bel, belL, Ws.bel, Bool.and_self]) rfl)
theorem chk_ld {at_ tp : Int} : ∀ {l : List Wt} {last : Int}, -1001 ≤ last → chk at_ tp last l = true → ∀ x ∈ l, -1000 ≤ lead x.sq tp ∧ lead x.sq tp ≤ -1
  | [], _, _, _, x, hx => by cases hx
  | y :: r, last, h0, h, x, hx => by
    simp only [chk, Bool.and_eq_true] at h
    have h1 := inI_t h.2.1
    rcases List.mem_cons.1 hx with rfl | hx
    · omega
    · exact chk_ld (by omega) h.2.2 x hx
/-- On valid wants the reference's list is the program's. -/
theorem keep_le {ti tp seq : Int} {l : List Wt} (h : chk ti tp (-1001) l = true) (hd : lead seq tp ≤ 0) : keepL seq tp (lead seq tp) l ++ missS tp (lead seq tp) 0 = l.filter (fun x => !(x.sq == seq)) := by
  have hm : missS tp (lead seq tp) 0 = [] := by rw [missS, show (lead seq tp - 1).toNat = 0 by omega]; rfl
  rw [hm, List.append_nil, keepL]
  refine List.filter_congr (fun x hx => ?_)
  have := chk_ld (by omega) h x hx
  simp only [goneB]
  rw [show max (lead seq tp) 0 = 0 by omega, decide_eq_false (by omega), Bool.or_false]
theorem keep_gt {ti tp seq : Int} {l : List Wt} (h : chk ti tp (-1001) l = true) (hd : 0 < lead seq tp) : keepL seq tp (lead seq tp) l = l.filter (fun x => decide (lead x.sq tp - lead seq tp ≥ -1000)) := by
  rw [keepL]
  refine List.filter_congr (fun x hx => ?_)
  have := chk_ld (by omega) h x hx
  simp only [goneB]
  have hne : (x.sq == seq) = false := beq_eq_false_iff_ne.2 (fun e => by rw [e] at this; omega)
  rw [hne, show max (lead seq tp) 0 = lead seq tp by omega, Bool.false_or, Bool.eq_iff_iff]
  simp
theorem w14 (w : Ws) (now seq : Int) (hl : w.l.length ≤ 1000000000000) : FTL Try.prog 14 [.agg w.a, .i .i64 now, .i .i64 seq] [] 0 (rsV (sawS w now seq)) [] 0 := by
  have hwa := wsA_a w
  have hll : decide (w.l.length ≤ 1000000000000) = true := decide_eq_true hl
  have hgd : lateS w now = 0 → goodB w = true := fun h => by
    unfold lateS at h
    cases hg : goodB w
    · rw [hg] at h; simp at h
    · rfl
  generalize hRR : sawS w now seq = R
  unfold sawS sawL at hRR
  generalize hL : lateS w now = E at hRR hgd
  obtain ⟨ti, st, tp, l⟩ := w
  dsimp only at hRR hl hll
  simp only [Ws.a] at hwa ⊢
  refine FTL.of_cov (cx := cxT T11) hT11 mo Try.func14 i14_eq (by simp [i14]) (iw_of_jw ?_)
  dsimp only [i14, T11]
  by_cases hE : E = 0
  rotate_left
  · have e1 : (E != 0) = true := by simp [bne, hE]
    rw [if_neg hE] at hRR
    simp (config := { maxSteps := 400000 }) only [go_sem, k54, hwa, hll, hL, e1, simprocAttr]
    rw [← hRR]
    exact cov_n
  have hg := hgd hE
  subst hE
  rw [if_pos rfl] at hRR
  have e1 : ((0 : Int) != 0) = false := rfl
  cases b1 : decide (seq < 0)
  rotate_left
  · have a1 : inI 0 65535 seq = false := by simp only [inI]; rw [decide_eq_false (by have := of_decide_eq_true b1; omega)]; rfl
    rw [a1] at hRR
    simp (config := { maxSteps := 400000 }) only [go_sem, k54, hwa, hll, hL, e1, b1, simprocAttr]
    rw [← hRR]
    exact cov_n
  cases b2 : decide (seq > 65535)
  rotate_left
  · have a1 : inI 0 65535 seq = false := by simp only [inI]; rw [decide_eq_false (p := seq ≤ 65535) (by have := of_decide_eq_true b2; omega), Bool.and_false]
    rw [a1] at hRR
    simp (config := { maxSteps := 400000 }) only [go_sem, k54, hwa, hll, hL, e1, b1, b2, simprocAttr]
    rw [← hRR]
    exact cov_n
  have a1 : inI 0 65535 seq = true := inI_of (by have := of_decide_eq_false b1; have := of_decide_eq_false b2; omega)
  rw [a1] at hRR
  cases st
  · simp (config := { maxSteps := 400000 }) only [go_sem, k54, hwa, hll, hL, e1, b1, b2, simprocAttr]
    rw [← hRR]
    exact cov_n
  have hhd : headB ⟨ti, true, tp, l⟩ = true ∧ chk ti tp (-1001) l = true := by
    simp only [goodB, Bool.and_eq_true] at hg; exact hg
  obtain ⟨_, a2, hl64⟩ := headB_t hhd.1
  have hsq : ∀ x ∈ l, inI 0 65535 x.sq = true := fun x hx => wantB_sq (chk_sq hhd.2 x hx)
  dsimp only at a2 hl64
  have hrg := lead_rng seq tp
  have hle := keep_le (seq := seq) hhd.2
  have hgt := keep_gt (seq := seq) hhd.2
  have hk53 : ∀ (h : Hp) n, k53 [.i .i64 seq, .i .i64 tp, .i .i64 16] h n = some (true, { v := .i .i64 (lead seq tp), n }) := fun h n => by simp only [k53, a1, a2, Bool.and_self]
  have hm0 : missS tp (lead seq tp) now = missS tp (lead seq tp) 0 ∨ 0 < lead seq tp := by
    by_cases h : 0 < lead seq tp
    · exact .inr h
    · left; rw [missS, missS, show (lead seq tp - 1).toNat = 0 by omega]; rfl
  generalize lead seq tp = d at hRR hrg hle hgt hk53 hm0
  cases a3 : decide (d > 64)
  rotate_left
  · rw [a3] at hRR
    simp (config := { maxSteps := 400000 }) only [go_sem, k54, hwa, hll, hL, e1, b1, b2, hk53, a3, simprocAttr]
    rw [← hRR]
    exact cov_n
  rw [a3] at hRR
  have hd := of_decide_eq_false a3
  by_cases a4 : d ≤ 0
  · have a4' : decide (d ≤ 0) = true := decide_eq_true a4
    rw [if_neg (by omega), hm0.resolve_right (by omega), hle a4] at hRR
    simp (config := { maxSteps := 400000 }) only [go_sem, k54, hwa, hll, hL, e1, b1, b2, hk53, a3, a4', simprocAttr]
    refine loop18 ti tp now seq d l hl64 [] (by decide) ?_ ?_ (fun e' he' => ?_)
    · simp (config := { maxSteps := 400000 }) only [go_sem, eR, gQ_nil, fv_n, AV.bel, belL, nblt, AV.ren, renL, simprocAttr]
    · simp (config := { maxSteps := 400000 }) only [go_sem, hR, gQ_nil, fh_n, AV.bel, belL, nblt, Blk.ren, AV.ren, renL, wrB, wrR, simprocAttr]
    obtain ⟨g1, g2, g3, g4, g5, g6⟩ := he'
    generalize l.filter (fun x => !(x.sq == seq)) = q at *
    have n1 : decide ((q.length : Int) > 64) = decide (64 < q.length) := decide_eq_decide.2 (by omega)
    have pk := gQp q
    have hfr := gQ_fresh (f := Wt.l) (z := 4) q
    cases hc : decide (64 < q.length)
    · rw [hc] at hRR
      simp (config := { maxSteps := 400000 }) only [go_sem, hR, g1, g2, g3, g4, g5, g6, gQ_len, n1, hc, pk, simprocAttr]
      rw [← hRR]
      exact cov_q (by simp [hasS_cons, hasS_hit, hasS_hit0])
    · rw [hc] at hRR
      simp (config := { maxSteps := 400000 }) only [go_sem, hR, g1, g2, g3, g4, g5, g6, gQ_len, n1, hc, pk, simprocAttr]
      rw [← hRR]
      exact cov_n
  · have a4' : decide (d ≤ 0) = false := decide_eq_false a4
    rw [if_pos (by omega), hgt (by omega)] at hRR
    simp (config := { maxSteps := 400000 }) only [go_sem, k54, hwa, hll, hL, e1, b1, b2, hk53, a3, a4', simprocAttr]
    refine loop24 ti tp now seq d l hl64 (by omega) a2 hsq [] (by decide) ?_ ?_ (fun e' he' => ?_)
    · simp (config := { maxSteps := 400000 }) only [go_sem, eR, gQ_nil, fv_n, AV.bel, belL, nblt, AV.ren, renL, simprocAttr]
    · simp (config := { maxSteps := 400000 }) only [go_sem, hR, gQ_nil, fh_n, AV.bel, belL, nblt, Blk.ren, AV.ren, renL, wrB, wrR, simprocAttr]
    obtain ⟨g1, g2, g3, g4, g5, g6⟩ := he'
    have hfl : (l.filter fun x => decide (lead x.sq tp - d ≥ -1000)).length ≤ 64 := Nat.le_trans (List.length_filter_le _ _) (by omega)
    generalize l.filter (fun x => decide (lead x.sq tp - d ≥ -1000)) = q at *
    have pk := gQp q
    simp (config := { maxSteps := 400000 }) only [go_sem, hR, g1, g2, g3, g4, g5, g6, pk, simprocAttr]
    refine loop29 ti tp now seq d l q hfl (by omega) a2 [] (by decide) ?_ ?_ (fun e' he' => ?_)
    · simp (config := { maxSteps := 400000 }) only [go_sem, eR, g1, g2, g3, g4, g5, g6, pk, AV.bel, belL, nblt, AV.ren, renL, simprocAttr]
    · simp (config := { maxSteps := 400000 }) only [go_sem, hR, AV.bel, belL, nblt, Blk.ren, AV.ren, renL, wrB, wrR, pk, simprocAttr]
    clear g1 g2 g3 g4 g5 g6
    obtain ⟨g1, g2, g3, g4, g5, g6⟩ := he'
    generalize q ++ missS tp d now = q' at *
    have n1 : decide ((q'.length : Int) > 64) = decide (64 < q'.length) := decide_eq_decide.2 (by omega)
    have pk := gQp q'
    cases hc : decide (64 < q'.length)
    · rw [hc] at hRR
      simp (config := { maxSteps := 400000 }) only [go_sem, hR, g1, g2, g3, g4, g5, g6, gQ_len, n1, hc, pk, simprocAttr]
      rw [← hRR]
      exact cov_q (by simp [hasS_cons, hasS_hit, hasS_hit0])
    · rw [hc] at hRR
      simp (config := { maxSteps := 400000 }) only [go_sem, hR, g1, g2, g3, g4, g5, g6, gQ_len, n1, hc, pk, simprocAttr]
      rw [← hRR]
      exact cov_n
end Go.Proofs.Res
end
