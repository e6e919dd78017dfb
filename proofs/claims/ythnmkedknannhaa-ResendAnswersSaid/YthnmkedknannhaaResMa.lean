/- Texts laid as one: ResM1 ResM2 ResM3. -/
import Derived.Test.YthnmkedknannhaaResKT
import Derived.Test.YthnmkedknannhaaAbFzs
section
/- Contracts of 'fits' and media.Check. -/
namespace Go.Proofs.Res
open Go.Ab
set_option maxRecDepth 100000
set_option maxHeartbeats 4000000
set_option linter.unusedSimpArgs false
set_option linter.unusedVariables false
theorem w97 (n bits : Int) (hb : 0 ≤ bits ∧ bits ≤ 63) : FTL Try.prog 97 [.i .i64 n, .fp [.i .i64 bits] 0] [] 0 (.b !(fitB bits n)) [] 0 := by
 refine FTL.of_iw Sound.nil mo Try.func97 i97_eq (by simp [i97]) (iw_of_jw ?_)
 dsimp only [i97]
 have c1 : decide (0 ≤ bits) = true := decide_eq_true hb.1
 cases h1 : decide (n < 0)
 · have h1' : decide (0 ≤ n) = true := decide_eq_true (by simpa using h1)
   simp (maxSteps := 400000) only [go_sem, h1, c1, simprocAttr]
   have hm : Nat.min bits.toNat 64 = bits.toNat := Nat.min_eq_left (by omega)
   have hi : bits ≤ 64 := by omega
   exact Ends.pureE rfl (by simp [fitB, h1', bne, hm, hi])
 · have h1' : decide (0 ≤ n) = false := decide_eq_false (by simpa using h1)
   simp (maxSteps := 400000) only [go_sem, h1, c1, simprocAttr]
   exact Ends.pureE rfl (by simp [fitB, h1'])
theorem w94 (l : List Int) (bits : Int) (hb : 0 ≤ bits ∧ bits ≤ 63) (hl : l.length ≤ 1000000000000) : FTL Try.prog 94 [.fz (rows int1 l) l.length, .fn 97 [.fp [.i .i64 bits] 0]] [] 0 (.i .i64 (ixf (fun n => !fitB bits n) l 0)) [] 0 :=
 ixf_fz1 (el := fun n => .i .i64 n) mo Try.func94 i94_eq (by kernel_rfl) (fun _ => rfl) rfl (fun _ => rfl) (fun a b h => by cases h; rfl) l hl (fun n _ => w97 n bits hb)
theorem w72 (l : List Int) (bits : Int) (hb : 0 ≤ bits ∧ bits ≤ 63) (hl : l.length ≤ 1000000000000) : FTL Try.prog 72 [.fz (rows int1 l) l.length, .fn 97 [.fp [.i .i64 bits] 0]] [] 0 (.b (l.any fun n => !fitB bits n)) [] 0 :=
 cof_fz mo Try.func72 i72_eq (by kernel_rfl) (rows_bel int1_bel) rfl (w94 l bits hb hl) (ixf_neg _ l 0 (by omega))
def k72 : Ct
 | [x, .fn 97 [.p b 0]], h, n => vwK h 1 x fun rd m cs ok => (hget h b).bind fun kb => (oneB kb).bind fun bits => (unrows 1 intV m cs).bind fun l =>
  some (ok && decide (0 ≤ bits ∧ bits ≤ 63) && decide (m ≤ 1000000000000), { v := .b (l.any fun n => !fitB bits n), n, rd := b :: rd })
 | _, _, _ => none
theorem s72 : SoundAt Try.prog 72 k72 := fun args h n c E hc ht => by
 unfold k72 at hc
 split at hc
 · rename_i x b
   rw [vwK_eq] at hc
   simp only [Option.bind_eq_some_iff] at hc
   obtain ⟨⟨rd, m, cs, ok⟩, hv, kb, hkb, bits, hbits, l, hl, he⟩ := hc
   cases he
   simp only [Bool.and_eq_true, decide_eq_true_eq] at ht
   obtain ⟨⟨rfl, hb⟩, hm⟩ := ht
   obtain ⟨rfl, hlm⟩ := unrows_eq (f := int1) intV_eq hl
   subst hlm
   refine CallOK.viewG (by kernel_rfl) (argsF := [.fz (rows int1 l) l.length, .fn 97 [.fp kb.cells 0]]) ⟨vwK_sub hv (rows_bel int1_bel) (fun c hc => by rw [inl_cons]; split; rfl; exact hc), VwV.fn ⟨VwV.p (by simp only [only, inl_cons, if_true, cond_true]; exact hkb) ?_, trivial⟩, trivial⟩ rfl ?_
   · rw [oneB_eq hbits]; rfl
   · rw [oneB_eq hbits]; exact w72 l bits hb hm
 · cases hc
def TM1 : List (Nat × Ct) := [(72, k72)]
theorem hTM1 : Sound Try.prog (cxT TM1) := Sound.cons s72 Sound.nil
theorem w93 (l : List Int) (bits : Int) (hb : 0 ≤ bits ∧ bits ≤ 63) (hl : l.length ≤ 1000000000000) : FTL Try.prog 93 [.i .i64 bits, .fz (rows int1 l) l.length] [] 0 (.b (l.all (fitB bits))) [] 0 := by
 refine FTL.of_iw hTM1 mo Try.func93 i93_eq (by simp [i93]) (iw_of_jw ?_)
 dsimp only [i93, TM1]
 have hu : unrows 1 intV l.length (rows int1 l) = some l := unrows_rows int1_len (fun _ => rfl) l
 have c1 : decide (0 ≤ bits ∧ bits ≤ 63) = true := decide_eq_true hb
 have c2 : decide (l.length ≤ 1000000000000) = true := decide_eq_true hl
 have hvw : ∀ (h : Hp) (k : List Nat → Nat → List AV → Bool → Option (Bool × Eff)), vwK h 1 (.fz (rows int1 l) l.length) k = k [] l.length (rows int1 l) true := fun h k => vwK_rows int1_len
 simp (maxSteps := 400000) only [go_sem, k72, hvw, hu, c1, c2, oneB, simprocAttr]
 refine Ends.pureE rfl (congrArg _ ?_)
 rw [List.any_eq_not_all_not]
 simp
def k93 : Ct
 | [.i .i64 bits, x], h, n => vwK h 1 x fun rd m cs ok => (unrows 1 intV m cs).bind fun l => some (ok && decide (0 ≤ bits ∧ bits ≤ 63) && decide (m ≤ 1000000000000), { v := .b (l.all (fitB bits)), n, rd })
 | _, _, _ => none
theorem s93 : SoundAt Try.prog 93 k93 := fun args h n c E hc ht => by
 unfold k93 at hc
 split at hc
 · rename_i bits x
   rw [vwK_eq] at hc
   simp only [Option.bind_eq_some_iff] at hc
   obtain ⟨⟨rd, m, cs, ok⟩, hv, l, hl, he⟩ := hc
   cases he
   simp only [Bool.and_eq_true, decide_eq_true_eq] at ht
   obtain ⟨⟨rfl, hb⟩, hm⟩ := ht
   obtain ⟨rfl, hlm⟩ := unrows_eq (f := int1) intV_eq hl
   subst hlm
   exact CallOK.viewG (by kernel_rfl) (argsF := [.i .i64 bits, .fz (rows int1 l) l.length]) ⟨VwV.same rfl, vwK_sub hv (rows_bel int1_bel) (fun c hc => hc), trivial⟩ rfl (w93 l bits hb hm)
 · cases hc
def TM2 : List (Nat × Ct) := [(93, k93)]
theorem hTM2 : Sound Try.prog (cxT TM2) := Sound.cons s93 Sound.nil
end Go.Proofs.Res
end
section
/- The contract of media.Check. -/
namespace Go.Proofs.Res
open Go.Ab
set_option maxRecDepth 100000
set_option maxHeartbeats 4000000
set_option linter.unusedSimpArgs false
set_option linter.unusedVariables false
theorem loop68 (p : Md) (hf : p.fin = true) (pre : Bool) {K : Kont} {e : Env} {h : Hp} {n : Nat}
 (he : EnvIn 1 e [(1, .p 0 0), (3, .b pre), (48, .fz (rows xtR p.xs) p.xs.length), (49, .i .i64 (p.xs.length : Int)), (50, .i .i64 0)])
 (hh : HpIn 1 h [(0, { cells := p.l })]) (hK : ∀ e' h' n', eget e' 3 = some (.b (pre && allN (xtOK p.xs) p.xs.length)) → K (.exit 0) e' h' n') :
 Ab.Loop Try.prog [51, 88] 89 0 i68l7 K e h n := by
 simp only [Md.fin, Bool.and_eq_true, decide_eq_true_eq, List.all_eq_true] at hf
 obtain ⟨⟨⟨_, hxl⟩, hxd⟩, _⟩ := hf
 refine Loop.countI (F := ⟨Try.prog, cxT TM2, [51, 88], 89, 0⟩) hTM2 mo p.xs.length (fun _ => True)
  (fun k => [(1, .p 0 0), (3, .b (pre && allN (xtOK p.xs) k)), (48, .fz (rows xtR p.xs) p.xs.length), (49, .i .i64 (p.xs.length : Int)), (50, .i .i64 (k : Int))])
  (fun k => [(0, { cells := p.l })]) 1 (by decide) trivial (by simpa [allN] using he) hh (fun k hk _ => ?_)
 dsimp only [TM2]
 have hLb : belL 1 p.l = true := belL_mono0 _ p.bel
 have hXb : belL 1 (rows xtR p.xs) = true := belL_mono0 _ (rows_bel xtR_bel)
 have hCb : belL 1 (rows int1 p.cs) = true := belL_mono0 _ (rows_bel int1_bel)
 by_cases hlt : k < p.xs.length
 · have c1 : decide ((k : Int) < (p.xs.length : Int)) = true := decide_eq_true (by omega)
   have c2 : decide (0 ≤ (k : Int) ∧ (k : Int) < (p.xs.length : Int)) = true := decide_eq_true (by omega)
   obtain ⟨x, hx⟩ : ∃ x, p.xs[k]? = some x := ⟨_, List.getElem?_eq_getElem hlt⟩
   have hw : IntKind.i64.wrap ((k : Int) + 1) = ((k + 1 : Nat) : Int) := by rw [wrapL (by omega) (by omega)]; omega
   have hr : List.take 2 (List.drop (k * 2) (rows xtR p.xs)) = [.i .i64 x.1, .s x.2] := rows_at xtR_len hx
   have hxx := hxd x (List.mem_of_getElem? hx)
   have hsn : allN (xtOK p.xs) (k + 1) = (allN (xtOK p.xs) k && xtOK p.xs k) := rfl
   cases hp : pre && allN (xtOK p.xs) k
   · have hnx : (pre && allN (xtOK p.xs) (k + 1)) = false := by rw [hsn, ← Bool.and_assoc, hp]; rfl
     simp (maxSteps := 400000) only [go_sem, c1, c2, hr, hp, hw, hnx, hlt, Md.l, AV.bel, belL, nblt, hXb, hCb, simprocAttr]
   · have hnx : (pre && allN (xtOK p.xs) (k + 1)) = xtOK p.xs k := by rw [hsn, ← Bool.and_assoc, hp]; rfl
     cases a1 : inZ 0 255 x.1
     · have hx0 : xtOK p.xs k = false := by simp [xtOK, hx, a1]
       rw [hx0] at hnx
       simp (maxSteps := 400000) only [go_sem, c1, c2, hr, hp, hw, hnx, hlt, k93, vwK_s, unrows, intV, fit8, List.all_cons, List.all_nil, a1, Md.l, AV.bel, belL, nblt, hXb, hCb, simprocAttr]
     cases a2 : inZ 0 255 (x.2.length : Int)
     · have hx0 : xtOK p.xs k = false := by simp [xtOK, hx, a1, a2]
       rw [hx0] at hnx
       simp (maxSteps := 400000) only [go_sem, c1, c2, hr, hp, hw, hnx, hlt, k93, vwK_s, unrows, intV, fit8, List.all_cons, List.all_nil, a1, a2, Md.l, AV.bel, belL, nblt, hXb, hCb, simprocAttr]
     cases a3 : decide (0 < x.1)
     · have hx0 : xtOK p.xs k = false := by simp only [xtOK, hx, a1, a2, a3, Bool.and_false, Bool.false_and]
       rw [hx0] at hnx
       simp (maxSteps := 400000) only [go_sem, c1, c2, hr, hp, hw, hnx, hlt, k93, vwK_s, unrows, intV, fit8, List.all_cons, List.all_nil, a1, a2, a3, Md.l, AV.bel, belL, nblt, hXb, hCb, simprocAttr]
     by_cases hk0 : k = 0
     · have d1 : (k == 0) = true := by simp [hk0]
       have hx0 : xtOK p.xs k = true := by simp only [xtOK, hx, a1, a2, a3, d1, Bool.and_self, Bool.true_or]
       rw [hx0] at hnx
       have d0 : ((k : Int) == 0) = true := by simp [hk0]
       simp (maxSteps := 400000) only [go_sem, c1, c2, hr, hp, hw, hnx, hlt, k93, vwK_s, unrows, intV, fit8, List.all_cons, List.all_nil, a1, a2, a3, d0, Md.l, AV.bel, belL, nblt, hXb, hCb, simprocAttr]
     · have d0 : ((k : Int) == 0) = false := by simp [hk0]
       have d1 : (k == 0) = false := by simp [hk0]
       obtain ⟨y, hy⟩ : ∃ y, p.xs[k - 1]? = some y := ⟨_, List.getElem?_eq_getElem (by omega)⟩
       have hx0 : xtOK p.xs k = decide (y.1 < x.1) := by simp only [xtOK, hx, hy, a1, a2, a3, d1, Bool.true_and, Bool.false_or]
       rw [hx0] at hnx
       have q2 : IntKind.i64.wrap ((k : Int) - 1) = ((k - 1 : Nat) : Int) := by rw [wrapL (by omega) (by omega)]; omega
       have c3 : decide (0 ≤ ((k - 1 : Nat) : Int) ∧ ((k - 1 : Nat) : Int) < (p.xs.length : Int)) = true := decide_eq_true (by omega)
       have hy1 : (rows xtR p.xs)[(k - 1) * 2 + 0]? = some (.i .i64 y.1) := rows_get (j := 0) xtR_len hy rfl
       rw [Nat.add_zero] at hy1
       simp (maxSteps := 400000) only [go_sem, c1, c2, c3, hr, hp, hw, hnx, hlt, k93, vwK_s, unrows, intV, fit8, List.all_cons, List.all_nil, a1, a2, a3, d0, q2, hy1, Md.l, AV.bel, belL, nblt, hXb, hCb, simprocAttr]
       repeat' (first | refine spB_i (fun _ => ?_) (fun _ => ?_) | refine andB_i ?_ ?_)
       all_goals skip
 · have c1 : decide ((k : Int) < (p.xs.length : Int)) = false := decide_eq_false (by omega)
   obtain rfl : k = p.xs.length := by omega
   simp (maxSteps := 400000) only [go_sem, c1, simprocAttr]
   exact hK _ _ _ rfl
theorem w68 (p : Md) (hf : p.fin = true) : FTL Try.prog 68 [.agg p.l] [] 0 (.i .i64 (if mdB p then 0 else 230)) [] 0 := by
 have hf' := hf
 simp only [Md.fin, Bool.and_eq_true, decide_eq_true_eq] at hf'
 refine FTL.of_iw hTM2 mo Try.func68 i68_eq (by simp [i68]) (iw_of_jw ?_)
 dsimp only [i68, TM2]
 have hu : unrows 1 intV p.cs.length (rows int1 p.cs) = some p.cs := unrows_rows int1_len (fun _ => rfl) p.cs
 have hcl : decide (p.cs.length ≤ 1000000000000) = true := decide_eq_true hf'.1.1.1
 have hvw : ∀ (h : Hp) (k : List Nat → Nat → List AV → Bool → Option (Bool × Eff)), vwK h 1 (.fz (rows int1 p.cs) p.cs.length) k = k [] p.cs.length (rows int1 p.cs) true := fun h k => vwK_rows int1_len
 have h32 : fitB 32 = inZ 0 4294967295 := funext fit32
 have c15 : decide ((p.cs.length : Int) ≤ 15) = decide (p.cs.length ≤ 15) := decide_eq_decide.2 (by omega)
 have c16 : decide ((p.xs.length : Int) ≤ 16) = decide (p.xs.length ≤ 16) := decide_eq_decide.2 (by omega)
 have hLb : belL 1 p.l = true := belL_mono0 _ p.bel
 have hXb : belL 1 (rows xtR p.xs) = true := belL_mono0 _ (rows_bel xtR_bel)
 have hCb : belL 1 (rows int1 p.cs) = true := belL_mono0 _ (rows_bel int1_bel)
 have hpre := rfl (a := mdPre p)
 generalize hR : (if mdB p then (0 : Int) else 230) = R
 have hrun : ∀ (pre : Bool) (e' : Env) (h' : Hp) (n' : Nat), pre = mdPre p → eget e' 3 = some (.b (pre && allN (xtOK p.xs) p.xs.length)) →
  jw ⟨Try.prog, cxT [(93, k93)], [51, 88], 89, 0⟩ (.seq (.seq (.reg i68r8) (.cond (.t 88) (.seq (.reg i68r9) .ret) .skip)) (.seq (.reg i68r10) .ret)) (retK [.t 2] fun v h' n' => Ab.Ends 0 v h' n' (.i .i64 R) [] 0) e' h' n' := by
  intro pre e' h' n' hp he3
  subst hp
  cases hb : mdPre p && allN (xtOK p.xs) p.xs.length
  · rw [hb] at he3
    simp (maxSteps := 400000) only [go_sem, he3, simprocAttr]
    exact Ends.pureE rfl (by rw [← hR]; simp [mdB, hb])
  · rw [hb] at he3
    simp (maxSteps := 400000) only [go_sem, he3, simprocAttr]
    exact Ends.pureE rfl (by rw [← hR]; simp [mdB, hb])
 cases a1 : inZ 0 127 p.ty
 · simp (maxSteps := 400000) only [go_sem, k93, vwK_s, unrows, intV, fit7, fit8, fit16, h32, List.all_cons, List.all_nil, hvw, hu, hcl, c15, c16, a1, Md.l, simprocAttr]
   refine loop68 p hf false ?_ ?_ (fun e' h' n' he => ?_)
   · simp (maxSteps := 400000) only [go_sem, AV.bel, belL, nblt, hXb, hCb, simprocAttr]
   · simp (maxSteps := 400000) only [go_sem, Md.l, AV.bel, belL, nblt, hXb, hCb, simprocAttr]
   · simp only [blockK_e, if_true, thenK_n]
     exact hrun _ _ _ _ (by simp only [mdPre, a1, Bool.false_and, Bool.and_false, Bool.and_self]) he
 cases a2 : inZ 0 65535 p.sq
 · simp (maxSteps := 400000) only [go_sem, k93, vwK_s, unrows, intV, fit7, fit8, fit16, h32, List.all_cons, List.all_nil, hvw, hu, hcl, c15, c16, a1, a2, Md.l, simprocAttr]
   refine loop68 p hf false ?_ ?_ (fun e' h' n' he => ?_)
   · simp (maxSteps := 400000) only [go_sem, AV.bel, belL, nblt, hXb, hCb, simprocAttr]
   · simp (maxSteps := 400000) only [go_sem, Md.l, AV.bel, belL, nblt, hXb, hCb, simprocAttr]
   · simp only [blockK_e, if_true, thenK_n]
     exact hrun _ _ _ _ (by simp only [mdPre, a1, a2, Bool.false_and, Bool.and_false, Bool.and_self]) he
 cases a3 : (inZ 0 4294967295 p.tm && inZ 0 4294967295 p.ss)
 · simp (maxSteps := 400000) only [go_sem, k93, vwK_s, unrows, intV, fit7, fit8, fit16, h32, List.all_cons, List.all_nil, hvw, hu, hcl, c15, c16, a1, a2, a3, Md.l, simprocAttr]
   refine loop68 p hf false ?_ ?_ (fun e' h' n' he => ?_)
   · simp (maxSteps := 400000) only [go_sem, AV.bel, belL, nblt, hXb, hCb, simprocAttr]
   · simp (maxSteps := 400000) only [go_sem, Md.l, AV.bel, belL, nblt, hXb, hCb, simprocAttr]
   · simp only [blockK_e, if_true, thenK_n]
     exact hrun _ _ _ _ (by simp only [mdPre, a1, a2, a3, Bool.false_and, Bool.and_false, Bool.and_self]) he
 cases a4 : p.cs.all (inZ 0 4294967295)
 · simp (maxSteps := 400000) only [go_sem, k93, vwK_s, unrows, intV, fit7, fit8, fit16, h32, List.all_cons, List.all_nil, hvw, hu, hcl, c15, c16, a1, a2, a3, a4, Md.l, simprocAttr]
   refine loop68 p hf false ?_ ?_ (fun e' h' n' he => ?_)
   · simp (maxSteps := 400000) only [go_sem, AV.bel, belL, nblt, hXb, hCb, simprocAttr]
   · simp (maxSteps := 400000) only [go_sem, Md.l, AV.bel, belL, nblt, hXb, hCb, simprocAttr]
   · simp only [blockK_e, if_true, thenK_n]
     exact hrun _ _ _ _ (by simp only [mdPre, a1, a2, a3, a4, Bool.false_and, Bool.and_false, Bool.and_self]) he
 cases a5 : inZ 0 255 p.pd
 · simp (maxSteps := 400000) only [go_sem, k93, vwK_s, unrows, intV, fit7, fit8, fit16, h32, List.all_cons, List.all_nil, hvw, hu, hcl, c15, c16, a1, a2, a3, a4, a5, Md.l, simprocAttr]
   refine loop68 p hf false ?_ ?_ (fun e' h' n' he => ?_)
   · simp (maxSteps := 400000) only [go_sem, AV.bel, belL, nblt, hXb, hCb, simprocAttr]
   · simp (maxSteps := 400000) only [go_sem, Md.l, AV.bel, belL, nblt, hXb, hCb, simprocAttr]
   · simp only [blockK_e, if_true, thenK_n]
     exact hrun _ _ _ _ (by simp only [mdPre, a1, a2, a3, a4, a5, Bool.false_and, Bool.and_false, Bool.and_self]) he
 cases a6 : decide (p.cs.length ≤ 15)
 · simp (maxSteps := 400000) only [go_sem, k93, vwK_s, unrows, intV, fit7, fit8, fit16, h32, List.all_cons, List.all_nil, hvw, hu, hcl, c15, c16, a1, a2, a3, a4, a5, a6, Md.l, simprocAttr]
   refine loop68 p hf false ?_ ?_ (fun e' h' n' he => ?_)
   · simp (maxSteps := 400000) only [go_sem, AV.bel, belL, nblt, hXb, hCb, simprocAttr]
   · simp (maxSteps := 400000) only [go_sem, Md.l, AV.bel, belL, nblt, hXb, hCb, simprocAttr]
   · simp only [blockK_e, if_true, thenK_n]
     exact hrun _ _ _ _ (by simp only [mdPre, a1, a2, a3, a4, a5, a6, Bool.false_and, Bool.and_false, Bool.and_self]) he
 cases a7 : decide (p.xs.length ≤ 16)
 · simp (maxSteps := 400000) only [go_sem, k93, vwK_s, unrows, intV, fit7, fit8, fit16, h32, List.all_cons, List.all_nil, hvw, hu, hcl, c15, c16, a1, a2, a3, a4, a5, a6, a7, Md.l, simprocAttr]
   refine loop68 p hf false ?_ ?_ (fun e' h' n' he => ?_)
   · simp (maxSteps := 400000) only [go_sem, AV.bel, belL, nblt, hXb, hCb, simprocAttr]
   · simp (maxSteps := 400000) only [go_sem, Md.l, AV.bel, belL, nblt, hXb, hCb, simprocAttr]
   · simp only [blockK_e, if_true, thenK_n]
     exact hrun _ _ _ _ (by simp only [mdPre, a1, a2, a3, a4, a5, a6, a7, Bool.false_and, Bool.and_false, Bool.and_self]) he
 simp (maxSteps := 400000) only [go_sem, k93, vwK_s, unrows, intV, fit7, fit8, fit16, h32, List.all_cons, List.all_nil, hvw, hu, hcl, c15, c16, a1, a2, a3, a4, a5, a6, a7, Md.l, simprocAttr]
 refine loop68 p hf true ?_ ?_ (fun e' h' n' he => ?_)
 · simp (maxSteps := 400000) only [go_sem, AV.bel, belL, nblt, hXb, hCb, simprocAttr]
 · simp (maxSteps := 400000) only [go_sem, Md.l, AV.bel, belL, nblt, hXb, hCb, simprocAttr]
 · simp only [blockK_e, if_true, thenK_n]
   exact hrun _ _ _ _ (by simp only [mdPre, a1, a2, a3, a4, a5, a6, a7, Bool.false_and, Bool.and_false, Bool.and_self]) he
def k68 : Ct
 | [.agg l], _, n => (md9 l).bind fun p => some (p.fin, { v := .i .i64 (if mdB p then 0 else 230), n })
 | _, _, _ => none
theorem s68 : SoundAt Try.prog 68 k68 := fun args h n c E hc ht => by
 unfold k68 at hc
 split at hc
 · simp only [Option.bind_eq_some_iff] at hc
   obtain ⟨p, hp, he⟩ := hc
   cases he
   rw [md9_eq hp]
   exact CallOK.pure (by kernel_rfl) (by simp only [belL, AV.bel, p.bel, Bool.and_self]) rfl (w68 p ht) _ _
 · cases hc
end Go.Proofs.Res
end
section
/- Histories: what is valid (Sound). -/
namespace Go.Proofs.Res
open Go.Ab
set_option maxRecDepth 100000
set_option maxHeartbeats 4000000
set_option linter.unusedSimpArgs false
set_option linter.unusedVariables false
structure Kp where
 p : Md
 ti : Int
 ak : Int
def Kp.l (x : Kp) : List AV := [.b x.p.ma, .i .i64 x.p.ty, .i .i64 x.p.sq, .i .i64 x.p.tm, .i .i64 x.p.ss, .fz (rows int1 x.p.cs) x.p.cs.length, .fz (rows xtR x.p.xs) x.p.xs.length, .i .i64 x.p.pd, .s x.p.pl, .i .i64 x.ti, .i .i64 x.ak]
theorem Kp.len (x : Kp) : x.l.length = 11 := rfl
theorem Kp.bel (x : Kp) : belL 0 x.l = true := by simp only [Kp.l, belL, AV.bel, rows_bel int1_bel, rows_bel xtR_bel, Bool.and_self]
theorem Kp.one (x : Kp) : oneAll x.l = true := rfl
theorem Kp.inj {a b : Kp} (h : a.l = b.l) : a = b := by
 have hp : a.p = b.p := Md.inj (by
  simp only [Kp.l, List.cons.injEq] at h
  simp only [Md.l, List.cons.injEq]
  obtain ⟨h1, h2, h3, h4, h5, h6, h7, h8, h9, _⟩ := h
  exact ⟨h1, h2, h3, h4, h5, h6, h7, h8, h9, trivial⟩)
 obtain ⟨p, t, k⟩ := a
 obtain ⟨q, u, m⟩ := b
 simp only [Kp.l, List.cons.injEq, AV.i.injEq, true_and, and_true] at h
 dsimp only at hp
 obtain ⟨_, _, _, _, _, _, _, _, _, rfl, rfl⟩ := h
 rw [hp]
def kp11 : List AV → Option Kp
 | [a, b, c, d, e, f, g, h, i, .i .i64 t, .i .i64 k] => (md9 [a, b, c, d, e, f, g, h, i]).bind fun p => some ⟨p, t, k⟩
 | _ => none
theorem kp11_l (x : Kp) : kp11 x.l = some x := by
 have h := md9_l x.p
 simp only [Md.l] at h
 simp only [kp11, Kp.l, h, Option.bind_some]
theorem kp11_eq {c : List AV} {x : Kp} (h : kp11 c = some x) : c = x.l := by
 unfold kp11 at h
 split at h
 · simp only [Option.bind_eq_some_iff, Option.some.injEq] at h
   obtain ⟨p, hp, rfl⟩ := h
   have := md9_eq hp
   simp only [Md.l, List.cons.injEq, and_true] at this
   obtain ⟨rfl, rfl, rfl, rfl, rfl, rfl, rfl, rfl, rfl⟩ := this
   rfl
 · cases h
theorem kp_at {l : List Kp} {k : Nat} {x : Kp} (h : l[k]? = some x) : List.take 11 (List.drop (k * 11) (rows Kp.l l)) = x.l := rows_at Kp.len h
theorem krB (j : Nat) (l : List Kp) : belL j (rows Kp.l l) = true := belL_mono0 _ (rows_bel Kp.bel)
theorem krR (ψ : Nat → Nat) (l : List Kp) : renL ψ (rows Kp.l l) = rows Kp.l l := renL_fix0 _ (rows_bel Kp.bel)
theorem csB (j : Nat) (l : List Int) : belL j (rows int1 l) = true := belL_mono0 _ (rows_bel int1_bel)
theorem xsB (j : Nat) (l : List Xt) : belL j (rows xtR l) = true := belL_mono0 _ (rows_bel xtR_bel)
structure Hs where
 ti : Int
 ss : Int
 ty : Int
 nx : Int
 l : List Kp
def Hs.a (h : Hs) : List AV := [.i .i64 h.ti, .i .i64 h.ss, .i .i64 h.ty, .i .i64 h.nx, .fz (rows Kp.l h.l) h.l.length]
theorem Hs.bel (h : Hs) : belL 0 h.a = true := by simp only [Hs.a, belL, AV.bel, krB, Bool.and_self]
theorem Hs.a_of (h : Hs) : h.a = [.i .i64 h.ti, .i .i64 h.ss, .i .i64 h.ty, .i .i64 h.nx, .fz (rows Kp.l h.l) h.l.length] := rfl
theorem kp_un (l : List Kp) : unrows 11 kp11 l.length (rows Kp.l l) = some l := unrows_rows Kp.len kp11_l l
def hsA : List AV → Option Hs
 | [.i .i64 ti, .i .i64 ss, .i .i64 ty, .i .i64 nx, .fz L m] => (unrows 11 kp11 m L).bind fun l => some ⟨ti, ss, ty, nx, l⟩
 | _ => none
theorem hsA_a (h : Hs) : hsA h.a = some h := by
 obtain ⟨ti, ss, ty, nx, l⟩ := h
 simp only [hsA, Hs.a, kp_un, Option.bind_some]
theorem hsA_eq {c : List AV} {h : Hs} (e : hsA c = some h) : c = h.a := by
 unfold hsA at e
 split at e
 · simp only [Option.bind_eq_some_iff, Option.some.injEq] at e
   obtain ⟨l, hl, rfl⟩ := e
   obtain ⟨rfl, hm⟩ := unrows_eq (f := Kp.l) (fun c a h => kp11_eq h) hl
   subst hm
   rfl
 · cases e
def namesB (ss ty nx : Int) : Bool := inI 0 4294967295 ss && (inI 0 127 ty && inI 0 65535 nx)
def TM66 : List (Nat × Ct) := [(49, k49)]
theorem hTM66 : Sound Try.prog (cxT TM66) := Sound.cons s49 Sound.nil
theorem w66 (a b c : Int) : FTL Try.prog 66 [.i .i64 a, .i .i64 b, .i .i64 c] [] 0 (.b (namesB a b c)) [] 0 := by
 refine FTL.of_iw hTM66 mo Try.func66 i66_eq (by simp [i66]) (iw_of_jw ?_)
 dsimp only [i66, TM66]
 cases h1 : inI 0 4294967295 a
 · simp (maxSteps := 400000) only [go_sem, k49, h1, simprocAttr]
   exact Ends.pureE rfl (by simp only [namesB, h1]; rfl)
 cases h2 : inI 0 127 b
 · simp (maxSteps := 400000) only [go_sem, k49, h1, h2, simprocAttr]
   exact Ends.pureE rfl (by simp only [namesB, h1, h2]; rfl)
 · simp (maxSteps := 400000) only [go_sem, k49, h1, h2, simprocAttr]
   exact Ends.pureE rfl (by simp only [namesB, h1, h2]; rfl)
def k66 : Ct
 | [.i .i64 a, .i .i64 b, .i .i64 c], _, n => some (true, { v := .b (namesB a b c), n })
 | _, _, _ => none
theorem s66 : SoundAt Try.prog 66 k66 := fun args h n c E hc ht => by
 unfold k66 at hc
 split at hc
 · cases hc
   exact CallOK.pure (by kernel_rfl) rfl rfl (w66 _ _ _) _ _
 · cases hc
def TM71 : List (Nat × Ct) := [(68, k68)]
theorem hTM71 : Sound Try.prog (cxT TM71) := Sound.cons s68 Sound.nil
theorem w71 (x : Kp) (hf : x.p.fin = true) : FTL Try.prog 71 [.agg x.l] [] 0 (.b !(mdB x.p)) [] 0 := by
 have h9 := md9_l x.p
 have hk : ∀ (h : Hp) n, k68 [.agg x.p.l] h n = some (true, { v := .i .i64 (if mdB x.p then 0 else 230), n }) := fun h n => by
  simp only [k68, h9, Option.bind_some, hf]
 obtain ⟨p, t, k⟩ := x
 simp only [Md.l] at hk
 dsimp only at hf hk
 refine FTL.of_iw hTM71 mo Try.func71 i71_eq (by simp [i71]) (iw_of_jw ?_)
 dsimp only [i71, TM71]
 cases hb : mdB p
 all_goals
  simp only [hb, if_true, if_false, Bool.false_eq_true] at hk
  simp (maxSteps := 400000) only [go_sem, Kp.l, hk, simprocAttr]
  exact Ends.pureE rfl rfl
theorem w74s (l : List Kp) (hl : l.length ≤ 1000000000000) (hf : l.all (fun x => x.p.fin) = true) : FTL Try.prog 74 [.fz (rows Kp.l l) l.length, .fn 71 []] [] 0 (.i .i64 (ixf (fun x => !mdB x.p) l 0)) [] 0 :=
 ixf_fz (row := Kp.l) (el := fun p => .agg p.l) mo Try.func74 i74_eq (by kernel_rfl) Kp.len Kp.bel rfl (fun _ => rfl) (fun a b h => by simp only [AV.agg.injEq] at h; rw [Kp.inj h]) l hl (fun p hp => w71 p (by rw [List.all_eq_true] at hf; exact hf p hp))
theorem w40 (l : List Kp) (hl : l.length ≤ 1000000000000) (hf : l.all (fun x => x.p.fin) = true) : FTL Try.prog 40 [.fz (rows Kp.l l) l.length, .fn 71 []] [] 0 (.b (l.any fun x => !mdB x.p)) [] 0 :=
 cof_fz mo Try.func40 i40_eq (by kernel_rfl) (rows_bel Kp.bel) rfl (w74s l hl hf) (ixf_neg _ l 0 (by omega))
def k40 : Ct
 | [.fz L m, .fn 71 []], _, n => (unrows 11 kp11 m L).bind fun l => some (decide (m ≤ 1000000000000) && l.all (fun x => x.p.fin), { v := .b (l.any fun x => !mdB x.p), n })
 | _, _, _ => none
theorem s40 : SoundAt Try.prog 40 k40 := fun args h n c E hc ht => by
 unfold k40 at hc
 split at hc
 · simp only [Option.bind_eq_some_iff] at hc
   obtain ⟨l, hl, he⟩ := hc
   cases he
   simp only [Bool.and_eq_true, decide_eq_true_eq] at ht
   obtain ⟨rfl, hlm⟩ := unrows_eq (f := Kp.l) (fun c a h => kp11_eq h) hl
   subst hlm
   exact CallOK.pure (by kernel_rfl) (by simp only [belL, AV.bel, krB, Bool.and_self]) rfl (w40 l ht.1 ht.2) _ _
 · cases hc
/-! Sound -/
def headH (h : Hs) : Bool := inI 0 TT h.ti && (namesB h.ss h.ty h.nx && decide (h.l.length ≤ 64))
def akB (hat : Int) (x : Kp) : Bool := (x.ak == -1) || inI x.ti hat x.ak
def chH (hat lq : Int) : Int → Int → List Kp → Bool
 | _, _, [] => true
 | from_, ld, x :: r => inI from_ hat x.ti && (akB hat x && (inI (ld + 1) 0 (lead x.p.sq lq) && chH hat lq x.ti (lead x.p.sq lq) r))
def lastQ (l : List Kp) : Int := match l[l.length - 1]? with
 | some x => x.p.sq
 | none => 0
def goodH (h : Hs) : Bool := headH h && (h.l.all (fun x => mdB x.p) && chH h.ti (lastQ h.l) 0 (-16385) h.l)
def frH (l : List Kp) : Nat → Int
 | 0 => 0
 | k + 1 => match l[k]? with
  | some x => x.ti
  | none => 0
def ldH (lq : Int) (l : List Kp) : Nat → Int
 | 0 => -16385
 | k + 1 => match l[k]? with
  | some x => lead x.p.sq lq
  | none => 0
theorem ldH_rng (lq : Int) (l : List Kp) (k : Nat) : -32768 ≤ ldH lq l k ∧ ldH lq l k ≤ 32767 := by
 unfold ldH
 split
 · omega
 · split
   · exact lead_rng _ _
   · omega
theorem mdB_sq {p : Md} (h : mdB p = true) : inI 0 65535 p.sq = true := by
 simp only [mdB, mdPre, Bool.and_eq_true] at h
 have := inZ_iff.1 h.1.1.1.1.1.1.2
 exact inI_of this
def TM35 : List (Nat × Ct) := [(40, k40), (49, k49), (51, k51), (66, k66)]
theorem hTM35 : Sound Try.prog (cxT TM35) := Sound.cons s40 (Sound.cons s49 (Sound.cons s51 (Sound.cons s66 Sound.nil)))
theorem w35 (hs : Hs) (hl : hs.l.length ≤ 1000000000000) (hf : hs.l.all (fun x => x.p.fin) = true) : FTL Try.prog 35 [.agg hs.a] [] 0 (.i .i64 (if goodH hs then 0 else 281)) [] 0 := by
 have hgd : goodH hs = ((inI 0 TT hs.ti && (namesB hs.ss hs.ty hs.nx && decide (hs.l.length ≤ 64))) && (hs.l.all (fun x => mdB x.p) && chH hs.ti (lastQ hs.l) 0 (-16385) hs.l)) := rfl
 generalize goodH hs = gd at *
 obtain ⟨ti, ss, ty, nx, l⟩ := hs
 simp only [TT] at hgd
 dsimp only at hl hf hgd
 simp only [Hs.a]
 have hLb : ∀ j, belL j (rows Kp.l l) = true := fun j => krB j l
 have hany : (l.any fun x => !mdB x.p) = !(l.all fun x => mdB x.p) := by rw [List.any_eq_not_all_not]; simp
 have n1 : decide ((l.length : Int) > 64) = !decide (l.length ≤ 64) := by rw [Bool.eq_iff_iff]; simp; omega
 have hll : decide (l.length ≤ 1000000000000) = true := decide_eq_true hl
 have hk40 : ∀ (h : Hp) n, k40 [.fz (rows Kp.l l) l.length, .fn 71 []] h n = some (true, { v := .b (!(l.all fun x => mdB x.p)), n }) := fun h n => by
  simp only [k40, kp_un, Option.bind_some, hll, hf, hany, Bool.and_self]
 refine FTL.of_iw hTM35 mo Try.func35 i35_eq (by simp [i35]) (iw_of_jw ?_)
 dsimp only [i35, TM35]
 cases a1 : inI 0 1099511627776 ti
 · simp (maxSteps := 400000) only [go_sem, k49, a1, simprocAttr]
   exact Ends.pureE rfl (by rw [hgd, a1]; rfl)
 cases a2 : namesB ss ty nx
 · simp (maxSteps := 400000) only [go_sem, k49, k66, a1, a2, simprocAttr]
   exact Ends.pureE rfl (by rw [hgd, a1, a2]; rfl)
 cases a3 : decide (l.length ≤ 64)
 · simp (maxSteps := 400000) only [go_sem, k49, k66, a1, a2, n1, a3, simprocAttr]
   exact Ends.pureE rfl (by rw [hgd, a1, a2, a3]; rfl)
 have hl64 := of_decide_eq_true a3
 cases a4 : l.all fun x => mdB x.p
 · rw [a4] at hk40
   simp (maxSteps := 400000) only [go_sem, k49, k66, hk40, a1, a2, n1, a3, simprocAttr]
   exact Ends.pureE rfl (by rw [hgd, a1, a2, a3, a4]; rfl)
 rw [a4] at hk40
 rw [a1, a2, a3, a4] at hgd
 simp only [Bool.true_and, Bool.and_self] at hgd
 rw [List.all_eq_true] at a4
 simp (maxSteps := 400000) only [go_sem, k49, k66, hk40, a1, a2, n1, a3, simprocAttr]
 refine Loop.countI (F := ⟨Try.prog, cxT TM35, [27, 30, 35, 80], 85, 0⟩) hTM35 mo l.length (fun k => gd = chH ti (lastQ l) (frH l k) (ldH (lastQ l) l k) (l.drop k))
  (fun k => [(1, .p 0 0), (3, .i .i64 (frH l k)), (4, .i .i64 (ldH (lastQ l) l k)), (32, .fz (rows Kp.l l) l.length), (33, .i .i64 (l.length : Int)), (34, .i .i64 (k : Int))])
  (fun k => [(0, { cells := [.i .i64 ti, .i .i64 ss, .i .i64 ty, .i .i64 nx, .fz (rows Kp.l l) l.length] })]) 1 (by decide) hgd ?_ ?_ (fun k hk hinv => ?_)
 · simp (maxSteps := 400000) only [go_sem, frH, ldH, hLb, AV.bel, belL, nblt, simprocAttr]
 · simp (maxSteps := 400000) only [go_sem, hLb, AV.bel, belL, nblt, simprocAttr]
 dsimp only [TM35]
 by_cases hlt : k < l.length
 · have c1 : decide ((k : Int) < (l.length : Int)) = true := decide_eq_true (by omega)
   have c2 : decide (0 ≤ (k : Int) ∧ (k : Int) < (l.length : Int)) = true := decide_eq_true (by omega)
   have hw : IntKind.i64.wrap ((k : Int) + 1) = ((k + 1 : Nat) : Int) := by rw [wrapL (by omega) (by omega)]; omega
   have hw2 : IntKind.i64.wrap ((l.length : Int) - 1) = ((l.length - 1 : Nat) : Int) := by rw [wrapL (by omega) (by omega)]; omega
   have c3 : decide (0 ≤ ((l.length - 1 : Nat) : Int) ∧ ((l.length - 1 : Nat) : Int) < (l.length : Int)) = true := decide_eq_true (by omega)
   obtain ⟨x, hx⟩ : ∃ x, l[k]? = some x := ⟨_, List.getElem?_eq_getElem hlt⟩
   obtain ⟨y, hy⟩ : ∃ y, l[l.length - 1]? = some y := ⟨_, List.getElem?_eq_getElem (by omega)⟩
   have hr := kp_at hx
   have hry : (rows Kp.l l)[(l.length - 1) * 11 + 2]? = some (.i .i64 y.p.sq) := rows_get (f := Kp.l) (z := 11) (j := 2) (v := .i .i64 y.p.sq) Kp.len hy rfl
   have hlq : lastQ l = y.p.sq := by simp only [lastQ, hy]
   have hdr : l.drop k = x :: l.drop (k + 1) := by
    rw [List.drop_eq_getElem_cons hlt]
    rw [List.getElem?_eq_getElem hlt] at hx
    cases hx; rfl
   have hxs := mdB_sq (a4 x (List.mem_of_getElem? hx))
   have hys := mdB_sq (a4 y (List.mem_of_getElem? hy))
   have hfs : frH l (k + 1) = x.ti := by simp only [frH, hx]
   have hls : ldH (lastQ l) l (k + 1) = lead x.p.sq (lastQ l) := by simp only [ldH, hx]
   have hrg := ldH_rng (lastQ l) l k
   have hw3 : IntKind.i64.wrap (ldH (lastQ l) l k + 1) = ldH (lastQ l) l k + 1 := wrapL (by omega) (by omega)
   rw [hfs, hls]
   rw [hdr] at hinv
   simp only [chH] at hinv
   generalize lastQ l = lq at *
   subst hlq
   generalize ldH y.p.sq l k = ld at *
   generalize frH l k = fr at *
   have hk51 : ∀ (h : Hp) n, k51 [.i .i64 x.p.sq, .i .i64 y.p.sq] h n = some (true, { v := .i .i64 (lead x.p.sq y.p.sq), n }) := fun h n => by simp only [k51, hxs, hys, Bool.and_self]
   generalize lead x.p.sq y.p.sq = d at *
   have hak : akB ti x = ((x.ak == -1) || inI x.ti ti x.ak) := rfl
   have hB1 := csB 1 x.p.cs
   have hB2 := xsB 1 x.p.xs
   obtain ⟨⟨ma, pty, sq, tm, pss, cs, xs, pd, pl⟩, xt, xa⟩ := x
   simp only [Kp.l] at hr
   dsimp only at hinv hak hk51
   cases b1 : inI fr ti xt
   · rw [b1] at hinv
     simp (maxSteps := 400000) only [go_sem, c1, c2, c3, hr, hry, hw2, hk51, k49, b1, simprocAttr]
     exact Ends.pureE rfl (by rw [hinv]; rfl)
   cases b2 : (xa == -1)
   · have b2' : (xa != -1) = true := by simp [bne, b2]
     cases b3 : inI xt ti xa
     · rw [b1, hak, b2, b3] at hinv
       simp (maxSteps := 400000) only [go_sem, c1, c2, c3, hr, hry, hw2, hk51, k49, b1, b2', b3, simprocAttr]
       exact Ends.pureE rfl (by rw [hinv]; rfl)
     cases b4 : inI (ld + 1) 0 d
     · rw [b1, hak, b2, b3, b4] at hinv
       simp (maxSteps := 400000) only [go_sem, c1, c2, c3, hr, hry, hw2, hw3, hk51, k49, b1, b2', b3, b4, simprocAttr]
       exact Ends.pureE rfl (by rw [hinv]; rfl)
     rw [b1, hak, b2, b3, b4] at hinv
     simp only [Bool.true_and, Bool.false_or, Bool.or_true] at hinv
     simp (maxSteps := 400000) only [go_sem, c1, c2, c3, hr, hry, hw, hw2, hw3, hk51, k49, b1, b2', b3, b4, hlt, hLb, AV.bel, belL, nblt, simprocAttr]
     exact hinv
   · have b2' : (xa != -1) = false := by simp [bne, b2]
     cases b4 : inI (ld + 1) 0 d
     · rw [b1, hak, b2, b4] at hinv
       simp (maxSteps := 400000) only [go_sem, c1, c2, c3, hr, hry, hw2, hw3, hk51, k49, b1, b2', b4, simprocAttr]
       exact Ends.pureE rfl (by rw [hinv]; rfl)
     rw [b1, hak, b2, b4] at hinv
     simp only [Bool.true_and, Bool.true_or] at hinv
     simp (maxSteps := 400000) only [go_sem, c1, c2, c3, hr, hry, hw, hw2, hw3, hk51, k49, b1, b2', b4, hlt, hLb, AV.bel, belL, nblt, simprocAttr]
     exact hinv
 · have c1 : decide ((k : Int) < (l.length : Int)) = false := decide_eq_false (by omega)
   obtain rfl : k = l.length := by omega
   rw [List.drop_length] at hinv
   simp (maxSteps := 400000) only [go_sem, c1, simprocAttr]
   exact Ends.pureE rfl (by rw [hinv]; rfl)
def k35 : Ct
 | [.agg c], _, n => (hsA c).bind fun h => some (decide (h.l.length ≤ 1000000000000) && h.l.all (fun x => x.p.fin), { v := .i .i64 (if goodH h then 0 else 281), n })
 | _, _, _ => none
theorem s35 : SoundAt Try.prog 35 k35 := fun args h n c E hc ht => by
 unfold k35 at hc
 split at hc
 · simp only [Option.bind_eq_some_iff] at hc
   obtain ⟨hs, hd, he⟩ := hc
   cases he
   rw [hsA_eq hd]
   simp only [Bool.and_eq_true, decide_eq_true_eq] at ht
   exact CallOK.pure (by kernel_rfl) (by simp only [belL, AV.bel, Hs.bel, Bool.and_self]) rfl (w35 hs ht.1 ht.2) _ _
 · cases hc
end Go.Proofs.Res
end
