/- Texts laid as one: FlzC23 FlzC24. -/
import Derived.Test.YtlokbfkdgnopeaaGreatDoorFlzCh
section
/- Take, from the loop over the halfs on. -/
namespace Go.Proofs.Flz
open Go.Ab Go.Proofs.Flt
set_option maxRecDepth 100000
set_option maxHeartbeats 4000000
set_option linter.unusedSimpArgs false
set_option linter.unusedVariables false
theorem appL_dn1 {pn : Option Value} {v : AV} {n : Nat} {rd : List Nat} {b c : Nat} {k : Blk} {h : Hp} : (Eff.mk v n rd [(b, none)] [(c, k)] pn).appL h = hdel ((c, k) :: h) b := (rfl)
theorem appL_dn2 {pn : Option Value} {v : AV} {n : Nat} {rd : List Nat} {b b2 c : Nat} {k : Blk} {h : Hp} : (Eff.mk v n rd [(b, none), (b2, none)] [(c, k)] pn).appL h = hdel (hdel ((c, k) :: h) b2) b := (rfl)
theorem rep0 : ∀ n : Nat, Go.Lib.repeatL [0] n = List.replicate n 0
 | 0 => rfl
 | n + 1 => by
  have := rep0 n
  rw [List.replicate_succ, ← this]
  rfl
theorem ins_at {α : Type} (x : α) : ∀ (l : List α) (i : Nat), i ≤ l.length → (Go.Ab.insL l [x] i)[i]? = some x
 | l, 0, _ => rfl
 | [], i + 1, h => by simp at h
 | y :: l, i + 1, h => by rw [ins_s, List.getElem?_cons_succ]; exact ins_at x l i (by simpa using h)
theorem ins_set {α : Type} (x y : α) : ∀ (l : List α) (i : Nat), i ≤ l.length → (Go.Ab.insL l [x] i).set i y = Go.Ab.insL l [y] i
 | l, 0, _ => rfl
 | [], i + 1, h => by simp at h
 | z :: l, i + 1, h => by rw [ins_s, ins_s, List.set_cons_succ, ins_set x y l i (by simpa using h)]
theorem ins_len {α : Type} (x : α) (l : List α) (i : Nat) (h : i ≤ l.length) : (Go.Ab.insL l [x] i).length = l.length + 1 := by
 simp only [Go.Ab.insL, List.length_append, List.length_take, List.length_drop, List.length_singleton]; omega
theorem ins_mem {α : Type} {x y : α} {l : List α} {i : Nat} (h : y ∈ Go.Ab.insL l [x] i) : y = x ∨ y ∈ l := by
 simp only [Go.Ab.insL, List.mem_append, List.mem_singleton] at h
 rcases h with h | h | h
 · exact .inr (List.mem_of_mem_take h)
 · exact .inl h
 · exact .inr (List.mem_of_mem_drop h)
def rpB (p : Pc) : Bool := wholeB p && decide (0 ≤ p.kd ∧ p.kd ≤ 255 ∧ 0 ≤ p.ln ∧ 0 ≤ p.sq ∧ p.sq ≤ 65535 ∧ 0 ≤ p.ofs)
theorem fil_new {p : Pc} (hp : rpB p = true) : filB (newH p) p = true := by
 simp only [rpB, Bool.and_eq_true, decide_eq_true_eq] at hp
 obtain ⟨hw, h1, h2, h3, h4, h5, h6⟩ := hp
 have hw2 := hw
 simp only [wholeB, Bool.and_eq_true, decide_eq_true_eq] at hw2
 simp only [filB, newH, gotB, Bool.and_eq_true, decide_eq_true_eq, beq_iff_eq, List.length_replicate]
 exact ⟨trivial, by omega, inW_of (by omega), hw, h6⟩
theorem fil_old {h : Flt.Hf} {p : Pc} (hp : rpB p = true) (hh : halfB h = true) : filB h p = true := by
 simp only [rpB, Bool.and_eq_true, decide_eq_true_eq] at hp
 obtain ⟨hw, h1, h2, h3, h4, h5, h6⟩ := hp
 simp only [halfB, Bool.and_eq_true] at hh
 obtain ⟨_, a2, a3, _, a5, _⟩ := hh
 simp only [filB, Bool.and_eq_true, decide_eq_true_eq]
 exact ⟨a5, a3, a2, hw, h6⟩
theorem half_got {h : Flt.Hf} (hh : halfB h = true) : h.got.length ≤ 4000 := by
 simp only [halfB, Bool.and_eq_true] at hh
 obtain ⟨_, a2, _, _, a5, _⟩ := hh
 have a2 := inW_t a2
 have := got_len a5 a2.1
 omega
def midR (nx : Int) (hs : List Flt.Hf) (p : Pc) : Jn × List Nt × Int :=
 if p.sq < nx then (⟨nx, hs⟩, [], 0)
 else if p.sq ≥ nx + 4 then (zJn, [], 3)
 else match putH p hs with
  | none => (zJn, [], 5)
  | some hs => ((giveS nx hs).1, (giveS nx hs).2, 0)
theorem tk_mid {g0 g1 g2 : Nat} (hG : [g0, g1, g2].Nodup) (nx : Int) (hn0 : 0 ≤ nx) (hn1 : nx ≤ 65536) (hs : List Flt.Hf) (hhs : hsB nx none hs = true) (p : Pc) (hp : rpB p = true) :
 Seam F21 (.seq (.seq (.reg i23r12) (.cond (.t 46) (.seq (.reg i23r13) .ret) .skip)) (.seq (.reg i23r14) (.seq (.reg i23r15) (.seq (.seq (.reg i23r16) (.cond (.t 64) (.dreg i23r17) .skip)) (.seq (.reg i23r18) (.seq (.reg i23r19) (.seq (.reg i23r20) (.seq (.block 2 (.loop i23l26)) (.seq (.dreg i23r27) .ret)))))))))
  (KT g0 g1 g2 (midR nx hs p)) [(2, .p 0 0), (4, .p 1 0), (5, .p 2 0), (6, .p 3 0), (7, .p 4 0)]
  ((gQ Flt.Hf.l 5 hs).h 5 ++ [(4, { cells := p.l }), (1, { cells := [.i .i64 nx, (gQ Flt.Hf.l 5 hs).v 5], gid := some g0 }), (2, { cells := [.ns], gid := some g1 }), (3, { cells := [.i .i64 0], gid := some g2 }), (0, { cells := [.i .i64 nx, .fz (rows Flt.Hf.l hs) hs.length] })]) 6 := by
 obtain ⟨b01, b02, b10, b12, b20, b21, b00, b11, b22⟩ := gids hG
 have hp' := hp
 simp only [rpB, Bool.and_eq_true, decide_eq_true_eq] at hp'
 obtain ⟨hw, p1, p2, p3, p4, p5, p6⟩ := hp'
 simp only [wholeB, Bool.and_eq_true, decide_eq_true_eq] at hw
 have hlen : hs.length ≤ 4 := by
  have := hsB_len (lo := nx) hhs (fun _ => rfl) (fun e h => by cases h) (by omega)
  omega
 have hall := hsB_all hhs
 have hasc := (hsB_asc hhs).1
 obtain ⟨q0, q1, q2⟩ := putH_at p hs
 have hb := fun j => hrB j hs
 have hbr := fun ψ => hrR ψ hs
 have hLl : (rows Flt.Hf.l hs).length = hs.length * 5 := rows_len Flt.Hf.len
 have hu : unrows 5 hf5 hs.length (rows Flt.Hf.l hs) = some hs := unrows_rows Flt.Hf.len hf5_l hs
 have hcl : cellsAt (rows Flt.Hf.l hs) 0 (hs.length * 5) = rows Flt.Hf.l hs := by rw [cellsAt, List.drop_zero, ← hLl, List.take_length]
 have gqN : gQ Flt.Hf.l 5 ([] : List Flt.Hf) = .nil := rfl
 have gqC : ∀ l : List Flt.Hf, l ≠ [] → gQ Flt.Hf.l 5 l = .sg { cells := rows Flt.Hf.l l, gr := some 5 } 0 l.length := fun l h => by unfold gQ; rw [if_neg (by simpa using h)]
 have wn : IntKind.i64.wrap (nx + 4) = nx + 4 := wrapL (by omega) (by omega)
 have hM : midR nx hs p = if p.sq < nx then ((⟨nx, hs⟩, [], 0) : Jn × List Nt × Int) else if p.sq ≥ nx + 4 then (zJn, [], 3) else match putH p hs with
  | none => (zJn, [], 5)
  | some hs => ((giveS nx hs).1, (giveS nx hs).2, 0) := rfl
 have c64 : decide (hs.length ≤ 64) = true := decide_eq_true (by omega)
 have hrp : ∀ (h : Hp) n, k36 [.s [0], .i .i64 p.ln] h n = some (true, { v := .s (newH p).bd, n }) := fun h n => by
  simp only [k36, List.length_singleton, newH, rep0]
  rw [decide_eq_true (by omega : 0 ≤ p.ln ∧ 1 * p.ln.toNat ≤ 1000000 ∧ p.ln ≤ 1000000)]
 have hbs : hs ≠ [] → ∀ (h : Hp) n, hget h 5 = some { cells := rows Flt.Hf.l hs, gr := some 5 } → k61 [.sg 5 0 hs.length, .i .i64 p.sq, .fn 62 []] h n = some (true, { v := .tup [.i .i64 (posH p.sq hs : Nat), .b (fndH p.sq hs)], n, rd := [5] }) := fun _ h n h5 => by
  simp only [k61, vwK_g, h5, Option.bind_some, hcl, hu, hasc, hLl, decide_true, c64, Bool.and_self]
 have hbs0 : ∀ (h : Hp) n, k61 [.ns, .i .i64 p.sq, .fn 62 []] h n = some (true, { v := .tup [.i .i64 0, .b false], n }) := fun h n => rfl
 have hNn : Flt.Hf.l (newH p) = [.i .i64 p.kd, .i .i64 p.ln, .i .i64 p.sq, .s (newH p).bd, .fz [] 0] := rfl
 have hin0 : ∀ (h : Hp) n, hget h 6 = some { cells := [.i .i64 p.kd, .i .i64 p.ln, .i .i64 p.sq, .s (newH p).bd, .ns] } → k64 [.ns, .i .i64 0, .sl 6 0 1 1] h n = some (true, { v := .sg n 0 1, n := n + 1, rd := [6], md := [(6, none)], nw := [(n, { cells := rows Flt.Hf.l [newH p], gr := some 5 })] }) := fun h n h6 => by
  have w1 : wrt h [6] = true := by simp [wrt, h6]
  simp only [k64, vwK_s, h6, Option.bind_some, w1]
  rfl
 have hin : hs ≠ [] → ∀ (h : Hp) n, hget h 6 = some { cells := [.i .i64 p.kd, .i .i64 p.ln, .i .i64 p.sq, .s (newH p).bd, .ns] } → hget h 5 = some { cells := rows Flt.Hf.l hs, gr := some 5 } →
  k64 [.sg 5 0 hs.length, .i .i64 (posH p.sq hs : Nat), .sl 6 0 1 1] h n = some (true, { v := .sg n 0 (hs.length + 1), n := n + 1, rd := [5, 6], md := [(5, none), (6, none)], nw := [(n, { cells := rows Flt.Hf.l (Go.Ab.insL hs [newH p] (posH p.sq hs)), gr := some 5 })] }) := fun _ h n h6 h5 => by
  have w1 : wrt h [6] = true := by simp [wrt, h6]
  have w2 : decide (0 ≤ ((posH p.sq hs : Nat) : Int) ∧ (posH p.sq hs) ≤ hs.length ∧ True ∧ hs.length ≤ 1000000) = true := decide_eq_true ⟨by omega, q0, trivial, by omega⟩
  have w3 : cellsAt [.i .i64 p.kd, .i .i64 p.ln, .i .i64 p.sq, .s (newH p).bd, .ns] 0 (1 * 5) = [.i .i64 p.kd, .i .i64 p.ln, .i .i64 p.sq, .s (newH p).bd, .ns] := rfl
  have w4 : hfn [.i .i64 p.kd, .i .i64 p.ln, .i .i64 p.sq, .s (newH p).bd, .ns] = some (newH p) := rfl
  simp only [k64, vwK_s, h6, h5, Option.bind_some, w1, w3, w4, gvK_g, hcl, hu, hLl, decide_true, Bool.and_self, Int.toNat_natCast, w2]
  rfl
 -- found
 have fnd : hs ≠ [] → ¬ p.sq < nx → ¬ p.sq ≥ nx + 4 → fndH p.sq hs = true → Seam F21 (.seq (.reg i23r18) (.seq (.reg i23r19) (.seq (.reg i23r20) (.seq (.block 2 (.loop i23l26)) (.seq (.dreg i23r27) .ret))))) (KT g0 g1 g2 (midR nx hs p)) [(10, .i .i64 (posH p.sq hs : Nat)), (7, .p 4 0), (4, .p 1 0), (5, .p 2 0), (6, .p 3 0)]
  [(5, { cells := rows Flt.Hf.l hs, gr := some 5 }), (4, { cells := p.l }), (1, { cells := [.i .i64 nx, .sg 5 0 hs.length], gid := some g0 }), (2, { cells := [.ns], gid := some g1 }), (3, { cells := [.i .i64 0], gid := some g2 })] 6 := fun hne n1 n2 hf => by
  obtain ⟨x, e1, e2, e3⟩ := q1 hf
  have hx := hall x (List.mem_of_getElem? e1)
  have := tk_fill hG nx hn0 hn1 hs (by omega) (fun y hy => by have := half_got (hall y hy).2.2; omega) (posH p.sq hs) x e1 p (fil_old hp hx.2.2)
  have hr : midR nx hs p = putR nx hs (posH p.sq hs) (fillS x p) := by
   rw [hM, if_neg n1, if_neg n2, e3]
   cases fillS x p <;> rfl
  rw [hr]; exact this
 -- not found
 have new : ¬ p.sq < nx → ¬ p.sq ≥ nx + 4 → fndH p.sq hs = false → Seam F21 (.seq (.reg i23r18) (.seq (.reg i23r19) (.seq (.reg i23r20) (.seq (.block 2 (.loop i23l26)) (.seq (.dreg i23r27) .ret))))) (KT g0 g1 g2 (midR nx hs p)) [(10, .i .i64 (posH p.sq hs : Nat)), (7, .p 4 0), (4, .p 1 0), (5, .p 2 0), (6, .p 3 0)]
  [(5, { cells := rows Flt.Hf.l (Go.Ab.insL hs [newH p] (posH p.sq hs)), gr := some 5 }), (4, { cells := p.l }), (1, { cells := [.i .i64 nx, .sg 5 0 (hs.length + 1)], gid := some g0 }), (2, { cells := [.ns], gid := some g1 }), (3, { cells := [.i .i64 0], gid := some g2 })] 6 := fun n1 n2 hf => by
  have e3 := q2 hf
  have hil := ins_len (newH p) hs (posH p.sq hs) q0
  have := tk_fill hG nx hn0 hn1 (Go.Ab.insL hs [newH p] (posH p.sq hs)) (by omega) (fun y hy => by
   rcases ins_mem hy with rfl | hy
   · exact Nat.zero_le _
   · have := half_got (hall y hy).2.2; omega) (posH p.sq hs) (newH p) (ins_at _ _ _ q0) p (fil_new hp)
  rw [hil] at this
  have hr : midR nx hs p = putR nx (Go.Ab.insL hs [newH p] (posH p.sq hs)) (posH p.sq hs) (fillS (newH p) p) := by
   rw [hM, if_neg n1, if_neg n2, e3]
   cases fillS (newH p) p with
   | none => rfl
   | some h =>
    show _ = ((giveS nx ((Go.Ab.insL hs [newH p] (posH p.sq hs)).set (posH p.sq hs) h)).1, (giveS nx ((Go.Ab.insL hs [newH p] (posH p.sq hs)).set (posH p.sq hs) h)).2, (0 : Int))
    rw [ins_set _ _ _ _ q0]
    rfl
  rw [hr]; exact this
 have hMb := fun j => hrB j (Go.Ab.insL hs [newH p] (posH p.sq hs))
 have hMr := fun ψ => hrR ψ (Go.Ab.insL hs [newH p] (posH p.sq hs))
 clear q1 q2 hall hasc hhs hp
 generalize hMR : midR nx hs p = R at *
 obtain ⟨pk, pl, ps, po, pt⟩ := p
 simp only [Pc.l] at hin0 hin fnd new hrp hbs hbs0 ⊢
 dsimp only at p1 p2 p3 p4 p5 p6 hM
 generalize hBd : (newH ⟨pk, pl, ps, po, pt⟩).bd = B at *
 refine Seam.part (F := F21) hTC21 mo ?_
 dsimp only [F21, TC21]
 cases a : decide (ps < nx)
 rotate_left
 · have hM := hM.trans (if_pos (of_decide_eq_true a))
   rw [hM]
   dsimp only [KT]
   by_cases hne : hs = []
   · subst hne
     rw [gqN]
     dsimp only [i23]
     simp (maxSteps := 400000) only [go_sem, a, hglobC, hglob, b01, b02, b10, b12, b20, b21, b00, b11, b22, cond_true, cond_false, i58, simprocAttr]
     exact CovS.frzN (v' := tkR (⟨nx, []⟩, [], 0)) (l := []) (FzV.tup ⟨FzV.agg ⟨FzV.refl, FzV.hit, trivial⟩, FzV.hit, FzV.refl, trivial⟩) (CovS.ends (Ends.pureE (tkR_bel _) rfl))
   · rw [gqC _ hne]
     dsimp only [i23]
     simp (maxSteps := 400000) only [go_sem, a, hglobC, hglob, b01, b02, b10, b12, b20, b21, b00, b11, b22, cond_true, cond_false, i58, simprocAttr]
     refine CovS.frz (b := 5) (k := { cells := rows Flt.Hf.l hs, gr := some 5 }) (h' := []) (o := 0) (m := hs.length) (x := .sg 5 0 hs.length) (cs := rows Flt.Hf.l hs) (v' := .tup [.agg [.i .i64 nx, .fz (rows Flt.Hf.l hs) hs.length], .ns, .i .i64 0]) rfl rfl (.inr rfl) (.inl List.drop_zero.symm) (FzV.tup ⟨FzV.agg ⟨FzV.refl, FzV.hit, trivial⟩, FzV.refl, FzV.refl, trivial⟩) (fun c kk hc => by simp [hget] at hc) ends_n
 have n1 : ¬ ps < nx := of_decide_eq_false a
 cases c : decide (ps < nx + 4)
 · have n2 : ps ≥ nx + 4 := by have := of_decide_eq_false c; omega
   have hM := hM.trans ((if_neg n1).trans (if_pos n2))
   rw [hM]
   dsimp only [KT]
   by_cases hne : hs = []
   · subst hne
     rw [gqN]
     simp (maxSteps := 400000) only [go_sem, a, simprocAttr]
     refine Seam.part (F := F21) hTC21 mo ?_
     dsimp only [F21, TC21, i23]
     simp (maxSteps := 400000) only [go_sem, k59, a, c, wn, hglobC, hglob, b01, b02, b10, b12, b20, b21, b00, b11, b22, cond_true, cond_false, i58, refV, Option.map_some, getT, simprocAttr]
     exact ends_z
   · rw [gqC _ hne]
     simp (maxSteps := 400000) only [go_sem, a, simprocAttr]
     refine Seam.part (F := F21) hTC21 mo ?_
     dsimp only [F21, TC21, i23]
     simp (maxSteps := 400000) only [go_sem, k59, a, c, wn, hglobC, hglob, b01, b02, b10, b12, b20, b21, b00, b11, b22, cond_true, cond_false, i58, refV, Option.map_some, getT, simprocAttr]
     exact ends_z
 have n2 : ¬ ps ≥ nx + 4 := by have := of_decide_eq_true c; omega
 clear hM
 by_cases hne : hs = []
 · subst hne
   have new := new n1 n2 rfl
   rw [gqN]
   generalize KT g0 g1 g2 R = K at *
   simp (maxSteps := 400000) only [go_sem, a, simprocAttr]
   refine Seam.part (F := F21) hTC21 mo ?_
   dsimp only [F21, TC21]
   simp (maxSteps := 400000) only [go_sem, k59, c, wn, simprocAttr]
   refine Seam.part (F := F21) hTC21 mo ?_
   dsimp only [F21, TC21]
   simp (maxSteps := 400000) only [go_sem, hbs0, simprocAttr]
   refine Seam.part (F := F21) hTC21 mo ?_
   dsimp only [F21, TC21]
   simp (maxSteps := 400000) only [go_sem, hrp, hin0, appL_dn1, simprocAttr]
   have hi0 : Go.Ab.insL ([] : List Flt.Hf) [newH ⟨pk, pl, ps, po, pt⟩] (posH ps []) = [newH ⟨pk, pl, ps, po, pt⟩] := rfl
   have hp0 : posH ps ([] : List Flt.Hf) = 0 := rfl
   exact Seam.ren [(5, 7)] new (by decide) (by decide) (by simp (maxSteps := 400000) only [go_sem, hp0, Int.natCast_zero, AV.bel, belL, nblt, AV.ren, renL, simprocAttr]) (by simp (maxSteps := 400000) only [go_sem, hi0, AV.bel, belL, nblt, AV.ren, renL, Blk.ren, hrB, hrR, simprocAttr])
 · have hbs := hbs hne
   have hin := hin hne
   have fnd := fnd hne n1 n2
   have new := new n1 n2
   rw [gqC _ hne]
   generalize KT g0 g1 g2 R = K at *
   generalize Go.Ab.insL hs [newH ⟨pk, pl, ps, po, pt⟩] (posH ps hs) = L2 at *
   generalize posH ps hs = pos at *
   generalize fndH ps hs = fd at *
   simp (maxSteps := 400000) only [go_sem, a, simprocAttr]
   refine Seam.part (F := F21) hTC21 mo ?_
   dsimp only [F21, TC21]
   simp (maxSteps := 400000) only [go_sem, k59, c, wn, simprocAttr]
   refine Seam.part (F := F21) hTC21 mo ?_
   dsimp only [F21, TC21]
   simp (maxSteps := 400000) only [go_sem, hbs, simprocAttr]
   refine Seam.part (F := F21) hTC21 mo ?_
   dsimp only [F21, TC21]
   cases fd
   · have new := new rfl
     simp (maxSteps := 400000) only [go_sem, hrp, hin, appL_dn2, simprocAttr]
     exact Seam.ren [(5, 7)] new (by decide) (by decide) (by simp (maxSteps := 400000) only [go_sem, AV.bel, belL, nblt, AV.ren, renL, simprocAttr]) (by simp (maxSteps := 400000) only [go_sem, AV.bel, belL, nblt, AV.ren, renL, Blk.ren, hMb, hMr, simprocAttr])
   · have fnd := fnd rfl
     simp (maxSteps := 400000) only [go_sem, simprocAttr]
     exact Seam.ren [] fnd (by decide) (by decide) (by simp (maxSteps := 400000) only [go_sem, AV.bel, belL, nblt, AV.ren, renL, simprocAttr]) (by simp (maxSteps := 400000) only [go_sem, AV.bel, belL, nblt, AV.ren, renL, Blk.ren, hb, hbr, simprocAttr])
end Go.Proofs.Flz
end
section
/- Take. -/
namespace Go.Proofs.Flz
open Go.Ab Go.Proofs.Flt
set_option maxRecDepth 100000
set_option maxHeartbeats 4000000
set_option linter.unusedSimpArgs false
set_option linter.unusedVariables false
theorem part_bnd (s : List UInt8) (a b k : Nat) (h : b - a ≤ k) : 0 ≤ partS s a b ∧ partS s a b < (256 ^ k : Nat) := by
 obtain ⟨n, h1, h2⟩ := num_lt ((s.drop a).take (b - a))
 have h3 : ((s.drop a).take (b - a)).length ≤ k := by rw [List.length_take]; omega
 have h4 : 256 ^ ((s.drop a).take (b - a)).length ≤ 256 ^ k := Nat.pow_le_pow_right (by decide) h3
 have h5 : partS s a b = (n : Int) := h1
 rw [h5]
 omega
theorem readS_rp {s : List UInt8} (h : (readS s).2 = 0) : rpB (readS s).1 = true := by
 have key : ∀ s : List UInt8, wholeB (readP s) = true → rpB (readP s) = true := fun s hw => by
  have h1 := part_bnd s 0 1 1 (by decide)
  have h2 := part_bnd s 1 4 3 (by decide)
  have h3 := part_bnd s 4 6 2 (by decide)
  have h4 := part_bnd s 6 9 3 (by decide)
  simp only [rpB, hw, Bool.true_and, decide_eq_true_eq]
  simp only [readP]
  omega
 unfold readS at h ⊢
 repeat' split at h
 all_goals first | (cases h; done) | skip
 rename_i h1 h2 h3 h4 h5
 rw [if_neg h1, if_neg h2, if_neg h3, if_neg h4, if_pos h5]
 exact key s h5
theorem takeS_mid (nx : Int) (hs : List Flt.Hf) (s : List UInt8) : takeS ⟨nx, hs⟩ s = if jnB ⟨nx, hs⟩ = true then (if (readS s).2 = 0 then midR nx hs (readS s).1 else (zJn, [], (readS s).2)) else (zJn, [], 191) := rfl
theorem w23 (j : Jn) (s : List UInt8) (hf : jnF j = true) (hl : s.length ≤ 9223372036854775807) : FTL Tryz.prog 23 [.agg j.a, .s s] [] 0 (tkR (takeS j s)) [] 0 := by
 have hj2 := jn2_a j
 have hll : decide (s.length ≤ 9223372036854775807) = true := decide_eq_true hl
 obtain ⟨nx, hs⟩ := j
 have hM := takeS_mid nx hs s
 have hb := fun j => hrB j hs
 have hbr := fun ψ => hrR ψ hs
 have hcj : ∀ (h : Hp) n, k21 [.agg [.i .i64 nx, .fz (rows Flt.Hf.l hs) hs.length]] h n = some (true, { v := .i .i64 (if jnB ⟨nx, hs⟩ then 0 else 191), n }) := fun h n => by
  simp only [k21]
  show (jn2 (Jn.a ⟨nx, hs⟩)).bind _ = _
  rw [hj2, Option.bind_some, hf]
 have hrd : ∀ (h : Hp) n, k50 [.s s] h n = some (true, { v := rdV (readS s), n, pn := rdP (readS s) }) := fun h n => by simp only [k50, hll]
 have hpc := readS_rp (s := s)
 have hz := readS_z (s := s)
 generalize hR : takeS ⟨nx, hs⟩ s = R at *
 generalize hrr : readS s = rr at *
 obtain ⟨p, e⟩ := rr
 dsimp only at hM hpc hz
 refine FTLx.of_dfrS0 (pn := none) Cov.covs hTC21 mo Tryz.func23 i23_eq (by simp [i23]) (pre := i23r0) (ops := [oo 14 (.mkf 58 [.t 4, .t 5, .t 6])]) rfl (by kernel_rfl) Tryz.func58 i58_eq rfl ?_
 dsimp only [TC21, i23, Jn.a]
 simp (maxSteps := 400000) only [go_sem, thenRJ, AV.bel, belL, nblt, hb, simprocAttr]
 refine dfrK_intro (caps := [.p 1 0, .p 2 0, .p 3 0]) (bs := [1, 2, 3]) rfl rfl (by decide) (fun Gs h1 h2 => ?_)
 obtain ⟨g0, g1, g2, rfl⟩ : ∃ a b c, Gs = [a, b, c] := by
  match Gs, h1 with
  | [a, b, c], _ => exact ⟨a, b, c, rfl⟩
 refine ⟨by simp [i58], ?_⟩
 have hG := h2
 obtain ⟨b01, b02, b10, b12, b20, b21, b00, b11, b22⟩ := gids hG
 dsimp only [setG, hget]
 have e0 : ((0 : Int) == 0) = true := rfl
 have e1 : ((191 : Int) == 0) = false := rfl
 refine Seam.part (F := F21) hTC21 mo ?_
 dsimp only [F21, TC21]
 cases hj : jnB ⟨nx, hs⟩
 · rw [hj, if_neg (by decide)] at hM
   rw [hM]
   rw [hj] at hcj
   simp only [Bool.false_eq_true, if_false] at hcj
   simp (maxSteps := 400000) only [go_sem, hcj, k59, e1, hset, hglobC, hglob, b01, b02, b10, b12, b20, b21, b00, b11, b22, cond_true, cond_false, i58, refV, Option.map_some, getT, simprocAttr]
   exact ends_z
 rw [hj, if_pos rfl] at hM
 rw [hj] at hcj
 simp only [if_true] at hcj
 simp (maxSteps := 400000) only [go_sem, hcj, k59, e0, hset, AV.bel, belL, nblt, hb, simprocAttr]
 refine Seam.part (F := F21) hTC21 mo ?_
 dsimp only [F21, TC21]
 by_cases he : e = 0
 rotate_left
 · have hz := hz he
   subst hz
   rw [if_neg he] at hM
   rw [hM]
   have hrd2 : ∀ (h : Hp) n, k50 [.s s] h n = some (true, { v := .tup [], n, pn := some (refV e) }) := fun h n => by
    have : (e == 0) = false := by simpa using he
    rw [hrd h n]; simp only [rdV, rdP, this, cond_false]
   simp (maxSteps := 400000) only [go_sem, hrd2, hset, hglobC, hglob, b01, b02, b10, b12, b20, b21, b00, b11, b22, cond_true, cond_false, i58, refV, Option.map_some, getT, simprocAttr]
   exact ends_z
 subst he
 have hp := hpc rfl
 rw [if_pos rfl] at hM
 have hjn := hj
 simp only [jnB, Bool.and_eq_true] at hjn
 obtain ⟨hnx, hhs⟩ := hjn
 have hnx := inW_t hnx
 have hlen : hs.length ≤ 4 := by
  have := hsB_len (lo := nx) hhs (fun _ => rfl) (fun e h => by cases h) (by omega)
  omega
 have hgot : ∀ x ∈ hs, x.got.length ≤ 4000 := fun x hx => half_got (hsB_all hhs x hx).2.2
 have mid0 := tk_mid hG nx hnx.1 hnx.2 hs hhs p hp
 rw [← hM] at mid0
 clear hM hR hpc hz hcj hf hj2 hhs hp hj hll hl
 have hrd2 : ∀ (h : Hp) n, k50 [.s s] h n = some (true, { v := .agg p.l, n }) := fun h n => by
  rw [hrd h n]; rfl
 clear hrd hrr
 obtain ⟨pk, pl, ps, po, pt⟩ := p
 simp only [Pc.l] at mid0 hrd2
 simp (maxSteps := 400000) only [go_sem, hrd2, simprocAttr]
 refine Seam.cut (fun K hK => ?_)
 have hK2 : K = KT g0 g1 g2 R := hK
 rw [← hK2] at mid0
 clear hK hK2
 refine Seam.part (F := F21) hTC21 mo ?_
 dsimp only [F21, TC21]
 simp (maxSteps := 400000) only [go_sem, simprocAttr]
 refine Seam.part (F := F21) hTC21 mo ?_
 dsimp only [F21, TC21]
 simp (maxSteps := 400000) only [go_sem, AV.bel, belL, nblt, hb, simprocAttr]
 have gqN : gQ Flt.Hf.l 5 ([] : List Flt.Hf) = .nil := rfl
 have gqC : ∀ l : List Flt.Hf, l ≠ [] → gQ Flt.Hf.l 5 l = .sg { cells := rows Flt.Hf.l l, gr := some 5 } 0 l.length := fun l h => by unfold gQ; rw [if_neg (by simpa using h)]
 have t0 : hs.take 0 = [] := rfl
 refine Loop.stepS (F := F21) (X := Nat) (fun k => k ≤ hs.length) (fun k => hs.length - k)
  (fun k => [(2, .p 0 0), (4, .p 1 0), (5, .p 2 0), (6, .p 3 0), (7, .p 4 0), (25, .fz (rows Flt.Hf.l hs) hs.length), (26, .i .i64 (hs.length : Int)), (27, .i .i64 (k : Int))])
  (fun k => (gQ Flt.Hf.l 5 (hs.take k)).h 5 ++ [(4, { cells := [.i .i64 pk, .i .i64 pl, .i .i64 ps, .i .i64 po, .s pt] }), (1, { cells := [.i .i64 nx, (gQ Flt.Hf.l 5 (hs.take k)).v 5], gid := some g0 }), (2, { cells := [.ns], gid := some g1 }), (3, { cells := [.i .i64 0], gid := some g2 }), (0, { cells := [.i .i64 nx, .fz (rows Flt.Hf.l hs) hs.length] })]) 6 0 (fun k => k + 1) [] (fun k => [(5, 9)]) (by decide) (by decide) (fun k => by decide) (Nat.zero_le _) ?_ ?_ (fun k hk => ?_)
 · simp (maxSteps := 400000) only [go_sem, AV.ren, renL, AV.bel, belL, nblt, hb, hbr, simprocAttr]
 · rw [t0, gqN]
   simp (maxSteps := 400000) only [go_sem, AV.ren, renL, AV.bel, belL, nblt, Blk.ren, hb, hbr, simprocAttr]
 refine Seam.part (F := F21) hTC21 mo ?_
 dsimp only [F21, TC21]
 by_cases hlt : k < hs.length
 rotate_left
 · have hkl : k = hs.length := by omega
   subst hkl
   rw [List.take_length]
   have c4 : decide ((hs.length : Int) < (hs.length : Int)) = false := decide_eq_false (by omega)
   generalize hV : gQ Flt.Hf.l 5 hs = Q at *
   simp (maxSteps := 400000) only [go_sem, c4, simprocAttr]
   refine Seam.part (F := F21) hTC21 mo ?_
   dsimp only [F21, TC21]
   simp (maxSteps := 400000) only [go_sem, simprocAttr]
   by_cases hne : hs = []
   · subst hne
     rw [gqN] at hV
     subst hV
     exact Seam.ren [] mid0 (by decide) (by decide) (by simp (maxSteps := 400000) only [go_sem, AV.bel, belL, nblt, AV.ren, renL, simprocAttr]) (by simp (maxSteps := 400000) only [go_sem, AV.bel, belL, nblt, AV.ren, renL, Blk.ren, hb, hbr, simprocAttr])
   · rw [gqC _ hne] at hV
     subst hV
     exact Seam.ren [] mid0 (by decide) (by decide) (by simp (maxSteps := 400000) only [go_sem, AV.bel, belL, nblt, AV.ren, renL, simprocAttr]) (by simp (maxSteps := 400000) only [go_sem, AV.bel, belL, nblt, AV.ren, renL, Blk.ren, hb, hbr, simprocAttr])
 obtain ⟨x, hx⟩ : ∃ x, hs[k]? = some x := ⟨_, List.getElem?_eq_getElem hlt⟩
 have hr : List.take 5 (List.drop (k * 5) (rows Flt.Hf.l hs)) = x.l := rows_at Flt.Hf.len hx
 have c4 : decide ((k : Int) < (hs.length : Int)) = true := decide_eq_true (by omega)
 have c5 : decide (0 ≤ (k : Int) ∧ (k : Int) < (hs.length : Int)) = true := decide_eq_true (by omega)
 have hwr : IntKind.i64.wrap ((k : Int) + 1) = ((k + 1 : Nat) : Int) := by rw [wrapL (by omega) (by omega)]; omega
 have hst : k + 1 ≤ hs.length ∧ hs.length - (k + 1) < hs.length - k := ⟨by omega, by omega⟩
 have htk : hs.take (k + 1) = hs.take k ++ [x] := by
  rw [List.take_succ_eq_append_getElem hlt]
  rw [List.getElem?_eq_getElem hlt] at hx
  rw [Option.some.inj hx]
 have hgx := hgot x (List.mem_of_getElem? hx)
 obtain ⟨l, hl⟩ : ∃ l, l = hs.take k := ⟨_, rfl⟩
 have hll : l.length ≤ 4 := by rw [hl, List.length_take]; omega
 rw [← hl] at htk ⊢
 have lb := fun j => hrB j l
 have lbr := fun ψ => hrR ψ l
 have hLz : (rows Flt.Hf.l l).length = l.length * 5 := rows_len Flt.Hf.len
 have gm : decide (64 * (l.length + 1) ≤ growMax) = true := decide_eq_true (by simp only [growMax]; omega)
 have gm1 : decide (64 ≤ growMax) = true := by decide
 have lap : rows Flt.Hf.l (l ++ [x]) = rows Flt.Hf.l l ++ x.l := by rw [rows_append, rows_cons, rows_nil, List.append_nil]
 have lbx : ∀ j, belL j (rows Flt.Hf.l l ++ x.l) = true := fun j => by rw [← lap]; exact hrB j _
 have lrx : ∀ ψ, renL ψ (rows Flt.Hf.l l ++ x.l) = rows Flt.Hf.l l ++ x.l := fun ψ => by rw [← lap]; exact hrR ψ _
 have hcl0 : x.got = [] → ∀ (h : Hp) n, k60 [.fz (rows gp x.got) x.got.length] h n = some (true, { v := .ze, n }) := fun hg h n => by rw [hg]; rfl
 have hcl1 : x.got ≠ [] → ∀ (h : Hp) n, k60 [.fz (rows gp x.got) x.got.length] h n = some (true, { v := .sg n 0 x.got.length, n := n + 1, nw := [(n, { cells := rows gp x.got, gr := some 2 })] }) := fun hg h n => by
  have hu : unrows 2 gp2 x.got.length (rows gp x.got) = some x.got := unrows_rows gp_len gp2_l x.got
  simp only [k60, hu, Option.bind_some]
  revert hgx hg
  cases x.got with
  | nil => intro _ h; exact absurd rfl h
  | cons y r =>
   intro hgx _
   simp only [List.length_cons] at hgx ⊢
   rw [decide_eq_true (by omega : r.length ≤ 1000000000)]
 generalize hL : rows Flt.Hf.l hs = L at *
 clear hx hgx hgot
 obtain ⟨xk, xl, xs, xb, xg⟩ := x
 simp only [Flt.Hf.l] at hr lap lbx lrx
 dsimp only at hcl0 hcl1
 have hgb := fun j => grB j xg
 have hgr := fun ψ => grR ψ xg
 simp (maxSteps := 400000) only [go_sem, c4, simprocAttr]
 refine Seam.part (F := F21) hTC21 mo ?_
 dsimp only [F21, TC21]
 simp (maxSteps := 400000) only [go_sem, simprocAttr]
 refine Seam.seq ?_
 refine Seam.block ?_
 refine Seam.cut (fun K1 hK1 => ?_)
 have tail : Seam F21 (.reg i23r9) K1 [(9, .p 6 0), (2, .p 0 0), (4, .p 1 0), (5, .p 2 0), (6, .p 3 0), (7, .p 4 0), (25, .fz L hs.length), (26, .i .i64 (hs.length : Int)), (27, .i .i64 (k : Int))]
  ((gQ Flt.Hf.l 5 l).h 5 ++ [(6, { cells := [.i .i64 xk, .i .i64 xl, .i .i64 xs, .s xb, .fz (rows gp xg) xg.length] }), (4, { cells := [.i .i64 pk, .i .i64 pl, .i .i64 ps, .i .i64 po, .s pt] }), (1, { cells := [.i .i64 nx, (gQ Flt.Hf.l 5 l).v 5], gid := some g0 }), (2, { cells := [.ns], gid := some g1 }), (3, { cells := [.i .i64 0], gid := some g2 }), (0, { cells := [.i .i64 nx, .fz L hs.length] })]) 8 := by
  subst hK1
  clear mid0 hcl0 hcl1
  rw [htk, gQ_snoc]
  simp only [gS, Flt.Hf.l]
  refine Seam.run (F := F21) hTC21 mo ?_
  dsimp only [F21, TC21]
  by_cases hne : l = []
  · subst hne
    rw [gqN]
    simp (maxSteps := 400000) only [go_sem, gm1, AV.bel, belL, nblt, hgb, simprocAttr]
    refine Seam.run (F := F21) hTC21 mo ?_
    dsimp only [F21, TC21]
    simp (maxSteps := 400000) only [go_sem, hwr, hst, rows_nil, List.nil_append, AV.ren, renL, AV.bel, belL, nblt, Blk.ren, hb, hbr, hgb, hgr, simprocAttr]
  · rw [gqC _ hne]
    simp (maxSteps := 400000) only [go_sem, gm, hLz, AV.bel, belL, nblt, hgb, simprocAttr]
    refine Seam.run (F := F21) hTC21 mo ?_
    dsimp only [F21, TC21]
    simp (maxSteps := 400000) only [go_sem, hwr, hst, AV.ren, renL, AV.bel, belL, nblt, Blk.ren, hb, hbr, lbx, lrx, hgb, hgr, simprocAttr]
 clear hK1
 by_cases hne : l = []
 · subst hne
   rw [gqN] at tail ⊢
   refine Seam.part (F := F21) hTC21 mo ?_
   dsimp only [F21, TC21]
   simp (maxSteps := 400000) only [go_sem, c5, hr, AV.bel, belL, nblt, hgb, simprocAttr]
   refine Seam.part (F := F21) hTC21 mo ?_
   dsimp only [F21, TC21]
   by_cases hg : xg = []
   · have hcl0 := hcl0 hg
     have hwz : Wka .ze (.fz (rows gp xg) xg.length) := by rw [hg]; exact Wka.ze
     simp (maxSteps := 400000) only [go_sem, hcl0, simprocAttr]
     refine Seam.ren (n2 := 8) (e2 := [(9, .p 6 0), (2, .p 0 0), (4, .p 1 0), (5, .p 2 0), (6, .p 3 0), (7, .p 4 0), (25, .fz L hs.length), (26, .i .i64 (hs.length : Int)), (27, .i .i64 (k : Int))]) (h2 := [(6, { cells := [.i .i64 xk, .i .i64 xl, .i .i64 xs, .s xb, .ze] }), (4, { cells := [.i .i64 pk, .i .i64 pl, .i .i64 ps, .i .i64 po, .s pt] }), (1, { cells := [.i .i64 nx, .ns], gid := some g0 }), (2, { cells := [.ns], gid := some g1 }), (3, { cells := [.i .i64 0], gid := some g2 }), (0, { cells := [.i .i64 nx, .fz L hs.length] })]) [] ?_ (by decide) (by decide) (by simp (maxSteps := 400000) only [go_sem, AV.bel, belL, nblt, AV.ren, renL, hb, hbr, simprocAttr]) (by simp (maxSteps := 400000) only [go_sem, AV.bel, belL, nblt, AV.ren, renL, Blk.ren, lb, lbr, hb, hbr, hgb, hgr, simprocAttr])
     exact Seam.wk tail ⟨⟨_, rfl, Wka.refl _⟩, ⟨_, rfl, Wka.refl _⟩, ⟨_, rfl, Wka.refl _⟩, ⟨_, rfl, Wka.refl _⟩, ⟨_, rfl, Wka.refl _⟩, ⟨_, rfl, Wka.refl _⟩, ⟨_, rfl, Wka.refl _⟩, ⟨_, rfl, Wka.refl _⟩, ⟨_, rfl, Wka.refl _⟩, trivial⟩ ⟨⟨_, rfl, rfl, rfl, rfl, Wka.refl _, Wka.refl _, Wka.refl _, Wka.refl _, hwz, trivial⟩, ⟨_, rfl, rfl, rfl, rfl, WkaL.refl _⟩, ⟨_, rfl, rfl, rfl, rfl, WkaL.refl _⟩, ⟨_, rfl, rfl, rfl, rfl, WkaL.refl _⟩, ⟨_, rfl, rfl, rfl, rfl, WkaL.refl _⟩, ⟨_, rfl, rfl, rfl, rfl, WkaL.refl _⟩, trivial⟩
   · have hcl1 := hcl1 hg
     simp (maxSteps := 400000) only [go_sem, hcl1, simprocAttr]
     exact Seam.frz (b := 7) (x := .sg 7 0 xg.length) (o := 0) (m := xg.length) (k := { cells := rows gp xg, gr := some 2 }) (cs := rows gp xg) tail rfl rfl (.inr rfl) (.inl rfl) ⟨⟨_, rfl, FzV.refl⟩, ⟨_, rfl, FzV.refl⟩, ⟨_, rfl, FzV.refl⟩, ⟨_, rfl, FzV.refl⟩, ⟨_, rfl, FzV.refl⟩, ⟨_, rfl, FzV.refl⟩, ⟨_, rfl, FzV.refl⟩, ⟨_, rfl, FzV.refl⟩, ⟨_, rfl, FzV.refl⟩, trivial⟩ ⟨⟨by decide, _, rfl, rfl, rfl, rfl, FzV.refl, FzV.refl, FzV.refl, FzV.refl, FzV.hit, trivial⟩, ⟨by decide, _, rfl, rfl, rfl, rfl, FzVs.refl⟩, ⟨by decide, _, rfl, rfl, rfl, rfl, FzVs.refl⟩, ⟨by decide, _, rfl, rfl, rfl, rfl, FzVs.refl⟩, ⟨by decide, _, rfl, rfl, rfl, rfl, FzVs.refl⟩, ⟨by decide, _, rfl, rfl, rfl, rfl, FzVs.refl⟩, trivial⟩
 · rw [gqC _ hne] at tail ⊢
   refine Seam.part (F := F21) hTC21 mo ?_
   dsimp only [F21, TC21]
   simp (maxSteps := 400000) only [go_sem, c5, hr, AV.bel, belL, nblt, hgb, simprocAttr]
   refine Seam.part (F := F21) hTC21 mo ?_
   dsimp only [F21, TC21]
   by_cases hg : xg = []
   · have hcl0 := hcl0 hg
     have hwz : Wka .ze (.fz (rows gp xg) xg.length) := by rw [hg]; exact Wka.ze
     simp (maxSteps := 400000) only [go_sem, hcl0, simprocAttr]
     refine Seam.ren (n2 := 8) (e2 := [(9, .p 6 0), (2, .p 0 0), (4, .p 1 0), (5, .p 2 0), (6, .p 3 0), (7, .p 4 0), (25, .fz L hs.length), (26, .i .i64 (hs.length : Int)), (27, .i .i64 (k : Int))]) (h2 := [(5, { cells := rows Flt.Hf.l l, gr := some 5 }), (6, { cells := [.i .i64 xk, .i .i64 xl, .i .i64 xs, .s xb, .ze] }), (4, { cells := [.i .i64 pk, .i .i64 pl, .i .i64 ps, .i .i64 po, .s pt] }), (1, { cells := [.i .i64 nx, .sg 5 0 l.length], gid := some g0 }), (2, { cells := [.ns], gid := some g1 }), (3, { cells := [.i .i64 0], gid := some g2 }), (0, { cells := [.i .i64 nx, .fz L hs.length] })]) [] ?_ (by decide) (by decide) (by simp (maxSteps := 400000) only [go_sem, AV.bel, belL, nblt, AV.ren, renL, hb, hbr, simprocAttr]) (by simp (maxSteps := 400000) only [go_sem, AV.bel, belL, nblt, AV.ren, renL, Blk.ren, lb, lbr, hb, hbr, hgb, hgr, simprocAttr])
     exact Seam.wk tail ⟨⟨_, rfl, Wka.refl _⟩, ⟨_, rfl, Wka.refl _⟩, ⟨_, rfl, Wka.refl _⟩, ⟨_, rfl, Wka.refl _⟩, ⟨_, rfl, Wka.refl _⟩, ⟨_, rfl, Wka.refl _⟩, ⟨_, rfl, Wka.refl _⟩, ⟨_, rfl, Wka.refl _⟩, ⟨_, rfl, Wka.refl _⟩, trivial⟩ ⟨⟨_, rfl, rfl, rfl, rfl, WkaL.refl _⟩, ⟨_, rfl, rfl, rfl, rfl, Wka.refl _, Wka.refl _, Wka.refl _, Wka.refl _, hwz, trivial⟩, ⟨_, rfl, rfl, rfl, rfl, WkaL.refl _⟩, ⟨_, rfl, rfl, rfl, rfl, WkaL.refl _⟩, ⟨_, rfl, rfl, rfl, rfl, WkaL.refl _⟩, ⟨_, rfl, rfl, rfl, rfl, WkaL.refl _⟩, ⟨_, rfl, rfl, rfl, rfl, WkaL.refl _⟩, trivial⟩
   · have hcl1 := hcl1 hg
     simp (maxSteps := 400000) only [go_sem, hcl1, simprocAttr]
     exact Seam.frz (b := 7) (x := .sg 7 0 xg.length) (o := 0) (m := xg.length) (k := { cells := rows gp xg, gr := some 2 }) (cs := rows gp xg) tail rfl rfl (.inr rfl) (.inl rfl) ⟨⟨_, rfl, FzV.refl⟩, ⟨_, rfl, FzV.refl⟩, ⟨_, rfl, FzV.refl⟩, ⟨_, rfl, FzV.refl⟩, ⟨_, rfl, FzV.refl⟩, ⟨_, rfl, FzV.refl⟩, ⟨_, rfl, FzV.refl⟩, ⟨_, rfl, FzV.refl⟩, ⟨_, rfl, FzV.refl⟩, trivial⟩ ⟨⟨by decide, _, rfl, rfl, rfl, rfl, FzVs.refl⟩, ⟨by decide, _, rfl, rfl, rfl, rfl, FzV.refl, FzV.refl, FzV.refl, FzV.refl, FzV.hit, trivial⟩, ⟨by decide, _, rfl, rfl, rfl, rfl, FzVs.refl⟩, ⟨by decide, _, rfl, rfl, rfl, rfl, FzVs.refl⟩, ⟨by decide, _, rfl, rfl, rfl, rfl, FzVs.refl⟩, ⟨by decide, _, rfl, rfl, rfl, rfl, FzVs.refl⟩, ⟨by decide, _, rfl, rfl, rfl, rfl, FzVs.refl⟩, trivial⟩
end Go.Proofs.Flz
end
