/- Texts laid as one: AbDel AbRf AbRf2. -/
import Derived.Test.YthnmkedknannhaaAbFzs
import Derived.Test.YthnmkedknannhaaAbShs
import Derived.Test.YthnmkedknannhaaAbSimps
import Derived.Test.YthnmkedknannhaaAbRead
section
/- The abstract layer, part 62: slices.Clone of a frozen slice; slices.DeleteFunc on a grown one. -/
namespace Go.Ab
set_option maxRecDepth 100000
set_option maxHeartbeats 4000000
set_option linter.unusedSimpArgs false
set_option linter.unusedVariables false
theorem FTL.nilOr {P : Program} {f : FuncId} {pre post : List AV} {l : List AV} {h h' : Hp} {n n' : Nat} {v' : AV} (h1 : FTL P f (pre ++ .ns :: post) h n v' h' n') (h2 : FTL P f (pre ++ .en :: post) h n v' h' n') : FTL P f (pre ++ .fz l 0 :: post) h n v' h' n' := by
 intro D φ w us hD hH hA
 have hi : (pre ++ .fz l 0 :: post)[pre.length]? = some (.fz l 0) := by simp
 obtain ⟨u, hu, hr⟩ := hA.get hi
 have go : ∀ y, VRel D φ y u → All2 D φ (pre ++ y :: post) us := fun y hy => ⟨by have := hA.1; simp at this ⊢; exact this, fun i a u' ha hu' => by
  by_cases hip : i = pre.length
  · subst hip
    simp at ha; subst ha
    rw [hu] at hu'; cases hu'; exact hy
  · refine hA.2 i a u' ?_ hu'
    rcases Nat.lt_or_ge i pre.length with hlt | hge
    · rw [List.getElem?_append_left hlt] at ha ⊢; exact ha
    · rw [List.getElem?_append_right hge] at ha ⊢
      obtain ⟨j, hj⟩ : ∃ j, i - pre.length = j + 1 := ⟨i - pre.length - 1, by omega⟩
      rw [hj] at ha ⊢; simpa using ha⟩
 cases hr with
 | fz _ _ B o cap vs hB hc hs hh => exact h2 D φ w us hD hH (go _ (.en _ _))
 | fz0 _ x cap hc0 =>
  cases x with
  | some x => exact h2 D φ w us hD hH (go _ (.en _ _))
  | none =>
   exact h1 D φ w us hD hH (go _ (by rw [hc0 rfl]; exact .ns))
theorem CovS.trunc {n0 n n2 : Nat} {v v2 : AV} {h h' h2 : Hp} {b m : Nat} {k : Blk} (hk : hget h b = some k) (hh : ∀ c kk, hget h' c = some kk → (c = b ∧ kk = { k with cells := k.cells.take m }) ∨ hget h c = some kk)
 (hc : CovS n0 v h' n v2 h2 n2) : CovS n0 v h n v2 h2 n2 := by
 intro D φ w D0 φ0 H0 w0 u hD0 hD hv hH hS
 have get : ∀ c kk, hget h' c = some kk → ∃ k0, hget h c = some k0 ∧ k0.ro = kk.ro ∧ k0.gr = kk.gr ∧ k0.gid = kk.gid ∧ ∀ (i : Nat) (v : AV), kk.cells[i]? = some v → k0.cells[i]? = some v := fun c kk hc => by
  rcases hh c kk hc with ⟨rfl, rfl⟩ | h1
  · refine ⟨k, hk, rfl, rfl, rfl, fun i v hv => ?_⟩
    simp only [List.getElem?_take] at hv
    split at hv
    · exact hv
    · cases hv
  · exact ⟨kk, h1, rfl, rfl, rfl, fun _ _ h => h⟩
 have hH1 : HR D φ (hget h') w := by
  refine ⟨⟨fun c kk hc => ?_, fun b1 b2 k1 k2 hne h1 h2 hr => ?_⟩, hH.fz, hH.lp, fun c kk B vs hc hr hB => ?_⟩
  · obtain ⟨k0, g1, g2, g3, g4, g5⟩ := get c kk hc
    obtain ⟨hd, ⟨⟨cs, elem, fr, q1, q2, q3, q4⟩, q5⟩⟩ := hH.at_ c k0 g1
    exact ⟨hd, ⟨⟨cs, elem, fr, q1, fun i v hv => q2 i v (g5 i v hv), fun hr => ⟨fun h => (q3 (g2.trans hr)).1 (g3.trans h), fun i hi => (q3 (g2.trans hr)).2 i (by rw [g3]; exact hi)⟩, fun e he => by
     obtain ⟨r1, r2, r3⟩ := q4 e (g3.trans he)
     exact ⟨g2.symm.trans r1, r2, r3⟩⟩, fun g hg => q5 g (g4.trans hg)⟩⟩
  · obtain ⟨k10, g1, g2, _⟩ := get b1 k1 h1
    obtain ⟨k20, g3, _⟩ := get b2 k2 h2
    exact hH.sep b1 b2 k10 k20 hne g1 g3 (g2.trans hr)
  · obtain ⟨k0, g1, g2, _⟩ := get c kk hc
    exact hH.fsep c k0 B vs g1 (g2.trans hr) hB
 exact hc D φ w D0 φ0 H0 w0 u hD0 hD hv hH1 ⟨hS.sub, hS.agree, hH1, hS.frm, fun c kk hc hr => by
  obtain ⟨k0, g1, g2, _⟩ := get c kk hc
  exact hS.img c k0 g1 (g2.trans hr), hS.fnew⟩
theorem CovS.zeS {n0 n n2 : Nat} {v v' v2 : AV} {h h2 : Hp} {b o : Nat} (hf : FzV (.sl b o 0 0) .ze v v') (hc : CovS n0 v' h n v2 h2 n2) : CovS n0 v h n v2 h2 n2 := by
 intro D φ w D0 φ0 H0 w0 u hD0 hD hv hH hS
 exact hc D φ w D0 φ0 H0 w0 u hD0 hD (hf D φ u (fun u1 h1 => by cases h1; exact .ze _) hv) hH hS
theorem CovS.zeN {n0 n n2 : Nat} {v v' v2 : AV} {h h2 : Hp} (hf : FzV .ns .ze v v') (hc : CovS n0 v' h n v2 h2 n2) : CovS n0 v h n v2 h2 n2 := by
 intro D φ w D0 φ0 H0 w0 u hD0 hD hv hH hS
 exact hc D φ w D0 φ0 H0 w0 u hD0 hD (hf D φ u (fun u1 h1 => by cases h1; exact .ze _) hv) hH hS
abbrev clnC (z bytes : Nat) (zs : List AV) : ICode := (.seq (.reg [⟨some 2, .mv (.c .ns), none, false⟩]) (.seq (.seq (.reg [⟨some 3, .mv (.t 0), none, false⟩, ⟨some 4, .eqn false 1 (.t 3) (.c .ns), none, true⟩]) (.cond (.t 4) (.seq (.reg [⟨some 2, .mv (.c .ns), none, false⟩]) .ret) .skip))
 (.seq (.reg [⟨some 5, .bsl [] 0 [], none, false⟩, ⟨some 6, .mv (.t 0), none, false⟩, ⟨some 7, .app z bytes zs (.t 5) (.t 6), none, false⟩, ⟨some 2, .mv (.t 7), none, false⟩]) .ret)))
def clnI (z bytes : Nat) (zs : List AV) : IFn := { np := 1, N := 8, ct := [4], code := clnC z bytes zs, res := [.t 2] }
section
variable {P : Program} {f : FuncId} {fn : Func} {z bytes : Nat} {zs : List AV}
theorem cln_0 (hm : P.follows .mixedOrders = true) (hf : P.funcs[f]? = some fn) (hI : compF P fn = some (clnI z bytes zs)) (l : List AV) : FTL P f [.fz l 0] [] 0 .ze [] 0 := by
 refine FTL.nilOr (pre := []) (post := []) ?_ ?_
 · refine FTL.of_cov (cx := cxT []) Sound.nil hm hf hI (by simp [clnI]) (iw_of_jw ?_)
   dsimp only [clnI]
   simp (maxSteps := 400000) only [go_sem, simprocAttr]
   exact CovS.zeN FzV.hit (CovS.ends (Ends.pureE rfl rfl))
 · refine FTL.of_cov (cx := cxT []) Sound.nil hm hf hI (by simp [clnI]) (iw_of_jw ?_)
   dsimp only [clnI]
   simp (maxSteps := 400000) only [go_sem, simprocAttr]
   exact CovS.zeS FzV.hit (CovS.ends (Ends.pureE rfl rfl))
theorem cln_1 (hm : P.follows .mixedOrders = true) (hf : P.funcs[f]? = some fn) (hI : compF P fn = some (clnI z bytes zs)) {L : List AV} {m : Nat} (hL : L.length = (m + 1) * z) (hone : oneAll L = true) (hb : belL 0 L = true) (hz : bytes * (m + 1) ≤ growMax) :
 FTL P f [.fz L (m + 1)] [] 0 (.sg 0 0 (m + 1)) [(0, { cells := L, gr := some z })] 1 := by
 refine FTL.of_iw (cx := cxT []) Sound.nil hm hf hI (by simp [clnI]) (iw_of_jw ?_)
 dsimp only [clnI]
 have h1 : List.take ((m + 1) * z) L = L := List.take_of_length_le (by omega)
 have h2 : decide (bytes * (m + 1) ≤ growMax) = true := decide_eq_true hz
 simp (maxSteps := 400000) only [go_sem, h1, h2, hL, hone, Nat.zero_add, List.drop_zero, Nat.zero_mul, simprocAttr]
 exact Ends.new1 (b := 1) (by decide) rfl rfl rfl hb rfl
end
abbrev dlr6 (z : Nat) (zs : List AV) : List IOper := [⟨some 22, .mv (.t 0), none, false⟩, ⟨some 23, .mv (.t 6), none, false⟩, ⟨some 24, .ixaV z (.t 22) (.t 23), none, false⟩, ⟨some 25, .ld true z (.t 24), none, false⟩, ⟨some 7, .new zs, none, false⟩, ⟨none, .st z (.t 7) (.t 25), none, false⟩]
abbrev dlr7 (z : Nat) : List IOper := [⟨some 26, .mv (.t 1), none, false⟩, ⟨some 27, .ld true z (.t 7), none, false⟩, ⟨some 28, .call (.t 26) [.t 27], none, false⟩, ⟨some 29, .not (.t 28), none, true⟩]
abbrev dlr8 (z : Nat) : List IOper := [⟨some 30, .mv (.t 0), none, false⟩, ⟨some 31, .mv (.t 5), none, false⟩, ⟨some 32, .ld true z (.t 7), none, false⟩, ⟨some 33, .ixaV z (.t 30) (.t 31), none, false⟩, ⟨none, .st z (.t 33) (.t 32), none, false⟩]
abbrev dll (z : Nat) (zs : List AV) : ICode := (.seq (.seq (.reg [⟨some 16, .mv (.t 6), none, false⟩, ⟨some 17, .mv (.t 0), none, false⟩, ⟨some 18, .lenV (.t 17), none, false⟩, ⟨some 19, .bin .lss (.t 16) (.t 18), none, true⟩]) (.cond (.t 19) .skip (.exit 0)))
 (.seq (.block 1 (.seq (.reg (dlr6 z zs)) (.seq (.reg (dlr7 z)) (.cond (.t 29) (.seq (.reg (dlr8 z)) (.reg [⟨some 34, .mv (.t 5), none, false⟩, ⟨some 35, .bin .add (.t 34) (.c (.i .i64 1)), none, false⟩, ⟨some 5, .mv (.t 35), none, false⟩])) .skip)))) (.reg [⟨some 20, .mv (.t 6), none, false⟩, ⟨some 21, .bin .add (.t 20) (.c (.i .i64 1)), none, false⟩, ⟨some 6, .mv (.t 21), none, false⟩])))
abbrev dlC (z : Nat) (zs : List AV) (ix : Nat) : ICode := (.seq (.reg [⟨some 4, .mv (.c .ns), none, false⟩]) (.seq (.reg [⟨some 8, .mv (.t 0), none, false⟩, ⟨some 9, .mv (.t 1), none, false⟩, ⟨some 10, .call (.c (.fn ix [])) [.t 8, .t 9], none, false⟩, ⟨some 5, .mv (.t 10), none, false⟩])
 (.seq (.seq (.reg [⟨some 11, .mv (.t 5), none, false⟩, ⟨some 12, .bin .eql (.t 11) (.c (.i .i64 (-1))), none, true⟩]) (.cond (.t 12) (.seq (.reg [⟨some 13, .mv (.t 0), none, false⟩, ⟨some 4, .mv (.t 13), none, false⟩]) .ret) .skip))
 (.seq (.seq (.reg [⟨some 14, .mv (.t 5), none, false⟩, ⟨some 15, .bin .add (.t 14) (.c (.i .i64 1)), none, false⟩, ⟨some 6, .mv (.t 15), none, false⟩]) (.block 0 (.loop (dll z zs))))
 (.seq (.reg [⟨some 36, .mv (.t 0), none, false⟩, ⟨some 37, .mv (.t 5), none, false⟩, ⟨some 38, .slV z (.t 36) (some (.t 37)) none none, none, false⟩, ⟨none, .clr z zs (.t 38), none, false⟩])
 (.seq (.reg [⟨some 39, .mv (.t 0), none, false⟩, ⟨some 40, .mv (.t 5), none, false⟩, ⟨some 41, .slV z (.t 39) none (some (.t 40)) none, none, false⟩, ⟨some 4, .mv (.t 41), none, false⟩]) .ret))))))
def dlI (z : Nat) (zs : List AV) (ix : Nat) : IFn := { np := 2, N := 42, ct := [12, 19, 29], code := dlC z zs ix, res := [.t 4] }
abbrev dlH (z : Nat) (L : List AV) (x1 x2 x3 : Int) : Hp := [(0, { cells := L, gr := some z }), (1, { cells := int1 x1 }), (2, { cells := int1 x2 }), (3, { cells := int1 x3 })]
def cntF {α : Type} (p : α → Bool) (l : List α) (k : Nat) : Nat := ((l.take k).filter fun a => !p a).length
theorem cntF_s {α : Type} {p : α → Bool} {l : List α} {k : Nat} {a : α} (h : l[k]? = some a) : cntF p l (k + 1) = if p a then cntF p l k else cntF p l k + 1 := by
 unfold cntF
 rw [List.take_add_one, h, List.filter_append, List.length_append]
 cases hp : p a <;> simp [hp]
theorem ixf_some {α : Type} {p : α → Bool} : ∀ (l : List α) (i : Int), 0 ≤ i → ixf p l i = -1 ∨ ∃ k : Nat, k < l.length ∧ ixf p l i = i + k ∧ (∀ x ∈ l.take k, p x = false) ∧ ∃ a, l[k]? = some a ∧ p a = true
 | [], i, _ => .inl rfl
 | x :: r, i, hi => by
  simp only [ixf]
  by_cases hx : p x = true
  · right; rw [if_pos hx]; exact ⟨0, by simp, by simp, by simp, x, rfl, hx⟩
  · rw [if_neg hx]
    rcases ixf_some r (i + 1) (by omega) with h | ⟨k, h1, h2, h3, a, h4, h5⟩
    · exact .inl h
    · right
      refine ⟨k + 1, by simp; omega, by rw [h2]; omega, fun y hy => ?_, a, by simpa using h4, h5⟩
      rcases List.mem_cons.1 (by simpa using hy) with rfl | hy
      · simpa using hx
      · exact h3 y hy
theorem ixf_m1 {α : Type} {p : α → Bool} : ∀ (l : List α) (i : Int), 0 ≤ i → ixf p l i = -1 → ∀ x ∈ l, p x = false
 | [], i, _, _, x, hx => by cases hx
 | y :: r, i, hi, h, x, hx => by
  simp only [ixf] at h
  split at h
  · omega
  · rename_i hy
    rcases List.mem_cons.1 hx with rfl | hx
    · simpa using hy
    · exact ixf_m1 r (i + 1) (by omega) h x hx
theorem del_fz {P : Program} {f : FuncId} {fn : Func} {α : Type} {row : α → List AV} {p : α → Bool} {g ix z : Nat} {zs : List AV} {x1 x2 x3 : Int} {cx : Cx} (hcx : Sound P cx) (hm : P.follows .mixedOrders = true) (hf : P.funcs[f]? = some fn) (hI : compF P fn = some (dlI z zs ix))
 (hz0 : 0 < z) (hlen : ∀ a, (row a).length = z) (hbel : ∀ a, belL 0 (row a) = true) (hone : ∀ a, oneAll (row a) = true) (hzs : zs.length = z) (hzb : belL 0 zs = true) (hzo : oneAll zs = true) (l : List α) (hl : l.length ≤ 1000000000)
 {rd0 rd1 : List Nat} (hix : cx ix [.sg 0 0 l.length, .fn g [.p 1 0, .p 2 0, .p 3 0]] (dlH z (rows row l) x1 x2 x3) 4 = some (true, { v := .i .i64 (ixf p l 0), n := 4, rd := rd0 }))
 (hp : ∀ a ∈ l, ∀ (L : List AV) (k : Blk), cx g [.agg (row a), .p 1 0, .p 2 0, .p 3 0] ((4, k) :: dlH z L x1 x2 x3) 5 = some (true, { v := .b (p a), n := 5, rd := rd1 })) :
 FTL P f [.sg 0 0 l.length, .fn g [.p 1 0, .p 2 0, .p 3 0]] (dlH z (rows row l) x1 x2 x3) 4 (.sg 0 0 (l.filter fun a => !p a).length) (dlH z (rows row (l.filter fun a => !p a)) x1 x2 x3) 4 := by
 refine FTL.of_cov (cx := cx) hcx hm hf hI (by simp [dlI]) (iw_of_jw ?_)
 dsimp only [dlI]
 have hLb : ∀ m : List α, belL 4 (rows row m) = true := fun m => belL_mono0 _ (rows_bel hbel)
 rcases ixf_some (p := p) l 0 (by omega) with hno | ⟨k0, hk0, hk1, hk2, a0, ha0, hp0⟩
 · have hall := ixf_m1 l 0 (by omega) hno
   have hfl : (l.filter fun a => !p a) = l := List.filter_eq_self.2 (fun a ha => by simp [hall a ha])
   rw [hno] at hix
   rw [hfl]
   simp (maxSteps := 400000) only [go_sem, hix, simprocAttr]
   refine CovS.ends (Ends.keepL ?_ rfl ?_)
   · rfl
   · simp (maxSteps := 400000) only [go_sem, dlH, AV.bel, belL, nblt, hLb, int1, simprocAttr]
 · have hr0 : ixf p l 0 = (k0 : Int) := by omega
   rw [hr0] at hix
   have d1 : ((k0 : Int) == -1) = false := beq_eq_false_iff_ne.2 (by omega)
   have w1 : IntKind.i64.wrap ((k0 : Int) + 1) = ((k0 + 1 : Nat) : Int) := by rw [wrapL (by omega) (by omega)]; omega
   have c0 : cntF p l k0 = k0 := by
    unfold cntF
    rw [List.filter_eq_self.2 (fun a ha => by simp [hk2 a ha]), List.length_take]; omega
   have c1 : cntF p l (k0 + 1) = k0 := by rw [cntF_s ha0, if_pos hp0, c0]
   generalize hF : (l.filter fun a => !p a) = F
   simp (maxSteps := 400000) only [go_sem, hix, d1, w1, simprocAttr]
   have mk1 : ∀ m : List α, belL 4 (rows row m) = true := hLb
   have hrr : ∀ (ψ : Nat → Nat) (m : List α), renL ψ (rows row m) = rows row m := fun ψ m => renL_fix0 _ (rows_bel hbel)
   refine Loop.stepR (F := ⟨P, cx, [12, 19, 29], 42, 4⟩) hcx hm (X := Nat × List α)
    (fun x => x.1 ≤ l.length ∧ cntF p l x.1 < x.1 ∧ x.2.length = l.length ∧ x.2.take (cntF p l x.1) = (l.take x.1).filter (fun a => !p a) ∧ x.2.drop x.1 = l.drop x.1)
    (fun x => l.length - x.1)
    (fun x => [(0, .sg 0 0 l.length), (1, .fn g [.p 1 0, .p 2 0, .p 3 0]), (5, .i .i64 (cntF p l x.1 : Int)), (6, .i .i64 (x.1 : Int))])
    (fun x => dlH z (rows row x.2) x1 x2 x3) 4 (k0 + 1, l) (fun x => (x.1 + 1, match l[x.1]? with | some a => if p a then x.2 else x.2.set (cntF p l x.1) a | none => x.2)) [] (fun _ => []) (Nat.le_refl 4) (by show rnOK [] 4 4 = true; decide) (fun _ => by show rnOK [] 4 4 = true; decide) ⟨by omega, by rw [c1]; omega, rfl, ?_, rfl⟩ ?_ ?_ (fun x hx => ?_)
   · show l.take (cntF p l (k0 + 1)) = (l.take (k0 + 1)).filter (fun a => !p a)
     rw [c1, List.take_add_one, ha0, List.filter_append, List.filter_eq_self.2 (fun a ha => by simp [hk2 a ha])]
     simp [hp0]
   · simp (maxSteps := 400000) only [go_sem, c1, AV.bel, belL, nblt, AV.ren, renL, simprocAttr]
   · simp (maxSteps := 400000) only [go_sem, dlH, AV.bel, belL, nblt, hLb, int1, Blk.ren, AV.ren, renL, hrr, simprocAttr]
   · obtain ⟨j, L⟩ := x
     obtain ⟨hj, hcj, hLl, hLt, hLd⟩ := hx
     dsimp only at hj hcj hLl hLt hLd ⊢
     have hLen : (rows row L).length = l.length * z := by rw [rows_len hlen, hLl]
     by_cases hlt : j < l.length
     · have e1 : decide ((j : Int) < (l.length : Int)) = true := decide_eq_true (by omega)
       have e2 : decide (0 ≤ (j : Int) ∧ (j : Int) < (l.length : Int)) = true := decide_eq_true (by omega)
       have e3 : decide (0 ≤ (cntF p l j : Int) ∧ (cntF p l j : Int) < (l.length : Int)) = true := decide_eq_true (by omega)
       have w2 : IntKind.i64.wrap ((j : Int) + 1) = ((j + 1 : Nat) : Int) := by rw [wrapL (by omega) (by omega)]; omega
       have w3 : IntKind.i64.wrap ((cntF p l j : Int) + 1) = ((cntF p l j + 1 : Nat) : Int) := by rw [wrapL (by omega) (by omega)]; omega
       obtain ⟨a, ha⟩ : ∃ a, l[j]? = some a := ⟨_, List.getElem?_eq_getElem hlt⟩
       have hLa : L[j]? = some a := by
        have h1 : (L.drop j)[0]? = (l.drop j)[0]? := by rw [hLd]
        simpa [ha] using h1
       have hcell : List.take z (List.drop (j * z) (rows row L)) = row a := rows_at hlen hLa
       have hpa := hp a (List.mem_of_getElem? ha)
       have hs := cntF_s (p := p) ha
       have hds : L.drop (j + 1) = l.drop (j + 1) := by rw [← List.drop_drop, ← List.drop_drop, hLd]
       have htk : (l.take (j + 1)).filter (fun a => !p a) = (l.take j).filter (fun a => !p a) ++ (if p a then [] else [a]) := by
        rw [List.take_add_one, ha, List.filter_append]
        cases hq : p a <;> simp [hq]
       have hlz := hlen a
       have b2 : cntF p l j * z + z ≤ l.length * z := by rw [← Nat.succ_mul]; exact Nat.mul_le_mul_right _ (by omega)
       have e4 : decide (cntF p l j * z + z ≤ l.length * z) = true := decide_eq_true b2
       have hoa := hone a
       have hrt : List.take z (row a) = row a := List.take_of_length_le (by omega)
       have hdz : List.drop z zs = [] := List.drop_of_length_le (by omega)
       have h1z : z ≤ z := Nat.le_refl z
       have hsk : l.length - (j + 1) < l.length - j := by omega
       have hra : ∀ ψ : Nat → Nat, renL ψ (row a) = row a := fun ψ => renL_fix0 _ (hbel a)
       cases hq : p a
       · rw [hq] at hs htk hpa
         simp only [Bool.false_eq_true, if_false] at hs htk
         have hsp : List.take (cntF p l j * z) (rows row L) ++ row a ++ List.drop (cntF p l j * z + z) (rows row L) = rows row (L.set (cntF p l j) a) := by
          have := splice_set (f := row) hlen (a := a) (l := L) (i := cntF p l j) (by omega)
          rw [← this, splice, hlz]
         have g1 : j + 1 ≤ l.length ∧ cntF p l (j + 1) < j + 1 ∧ (L.set (cntF p l j) a).length = l.length ∧ (L.set (cntF p l j) a).take (cntF p l (j + 1)) = (l.take (j + 1)).filter (fun a => !p a) ∧ (L.set (cntF p l j) a).drop (j + 1) = l.drop (j + 1) := by
          refine ⟨hlt, by omega, by simpa using hLl, ?_, ?_⟩
          · rw [hs, htk, ← hLt, List.take_add_one, List.getElem?_set_self (by omega), List.take_set_of_le (Nat.le_refl _)]
            rfl
          · rw [List.drop_set_of_lt (by omega), hds]
         simp (maxSteps := 400000) only [go_sem, e1, e2, e3, e4, w2, w3, hcell, hpa, hlz, hoa, hrt, hdz, hzs, hLen, hsp, hq, ha, hs, g1, hsk, AV.bel, belL, nblt, hLb, int1, Blk.ren, AV.ren, renL, hrr, Nat.zero_add, Int.toNat_natCast, List.take_zero, List.drop_zero, h1z, Nat.le_refl, Bool.false_eq_true, if_false, and_self, simprocAttr]
         exact ⟨by omega, by rw [← hs]; exact g1.2.2.2.1⟩
       · rw [hq] at hs htk hpa
         simp only [if_true, List.append_nil] at hs htk
         have g1 : j + 1 ≤ l.length ∧ cntF p l (j + 1) < j + 1 ∧ L.length = l.length ∧ L.take (cntF p l (j + 1)) = (l.take (j + 1)).filter (fun a => !p a) ∧ L.drop (j + 1) = l.drop (j + 1) :=
          ⟨hlt, by omega, hLl, by rw [hs, htk, hLt], hds⟩
         simp (maxSteps := 400000) only [go_sem, e1, e2, e3, e4, w2, w3, hcell, hpa, hlz, hoa, hrt, hdz, hzs, hLen, hq, ha, hs, g1, hsk, AV.bel, belL, nblt, hLb, int1, Blk.ren, AV.ren, renL, hrr, Nat.zero_add, Int.toNat_natCast, List.take_zero, List.drop_zero, h1z, Nat.le_refl, if_true, and_self, simprocAttr]
         exact ⟨by omega, by rw [← hs]; exact g1.2.2.2.1⟩
     · obtain rfl : j = l.length := by omega
       have e1 : decide ((l.length : Int) < (l.length : Int)) = false := decide_eq_false (by omega)
       have hcF : cntF p l l.length = F.length := by unfold cntF; rw [List.take_length, hF]
       rw [hcF] at hcj hLt ⊢
       rw [List.take_length, hF] at hLt
       have sb1 : sbound l.length l.length (some (F.length : Int)) none none = (true, F.length, l.length, l.length) := by simp [sbound]; omega
       have e5 : decide (F.length = 0 ∨ F.length < l.length) = true := decide_eq_true (by omega)
       have e6 : decide (F.length * z + (l.length - F.length) * z ≤ l.length * z) = true := decide_eq_true (by rw [← Nat.add_mul]; exact Nat.mul_le_mul_right _ (by omega))
       have e7 : decide (0 ≤ (F.length : Int) ∧ (F.length : Int) ≤ (l.length : Int)) = true := decide_eq_true (by omega)
       simp (maxSteps := 400000) only [go_sem, e1, sb1, e5, e6, e7, hLen, hzs, hzo, Nat.zero_add, Int.toNat_natCast, simprocAttr]
       refine andB_i (decide_eq_true (by omega)) ?_
       have hA : List.take (F.length * z) (rows row L) = rows row F := by rw [rows_take hlen, hLt]
       have hAl : (rows row F).length = F.length * z := rows_len hlen
       rw [hA]
       generalize zeros zs (l.length - F.length) = Z
       generalize List.drop (F.length * z + Z.length) (rows row L) = T
       refine CovS.trunc (b := 0) (m := F.length * z) (h' := dlH z (rows row F) x1 x2 x3) rfl (fun c kk hc => ?_) (CovS.ends (Ends.keepL rfl rfl ?_))
       · have hm := hget_mem hc
         simp only [List.mem_cons, Prod.mk.injEq, List.not_mem_nil, or_false] at hm
         rcases hm with ⟨rfl, rfl⟩ | ⟨rfl, rfl⟩ | ⟨rfl, rfl⟩ | ⟨rfl, rfl⟩
         · left
           refine ⟨rfl, ?_⟩
           congr 1
           rw [List.append_assoc, List.take_append_of_le_length (by omega), List.take_of_length_le (by omega)]
         · right; rfl
         · right; rfl
         · right; rfl
       · simp (maxSteps := 400000) only [go_sem, dlH, AV.bel, belL, nblt, hLb, int1, simprocAttr]
theorem CallOK.del {P : Program} {f g : FuncId} {α : Type} {row : α → List AV} {z : Nat} {l F : List α} {x1 x2 x3 : Int} {b a1 a2 a3 n : Nat} {h : Hp} (hc : Go.Ab.callable P f = true) (hbel : ∀ a, belL 0 (row a) = true)
 (hft : FTL P f [.sg 0 0 l.length, .fn g [.p 1 0, .p 2 0, .p 3 0]] (dlH z (rows row l) x1 x2 x3) 4 (.sg 0 0 F.length) (dlH z (rows row F) x1 x2 x3) 4)
 (hb : hget h b = some { cells := rows row l, gr := some z }) (h1 : hget h a1 = some { cells := int1 x1 }) (h2 : hget h a2 = some { cells := int1 x2 }) (h3 : hget h a3 = some { cells := int1 x3 })
 (hd : (b ≠ a1 ∧ b ≠ a2 ∧ b ≠ a3) ∧ (a1 ≠ a2 ∧ a1 ≠ a3 ∧ a2 ≠ a3)) :
 CallOK P f [.sg b 0 l.length, .fn g [.p a1 0, .p a2 0, .p a3 0]] h n { v := .sg b 0 F.length, n := n + 4, rd := [b, a1, a2, a3], md := [(b, some { cells := rows row F, gr := some z })] } := by
 have hr : ∀ (ψ : Nat → Nat) (m : List α), renL ψ (rows row m) = rows row m := fun ψ m => renL_fix0 _ (rows_bel hbel)
 have hm : ∀ {c : Nat} {kk : Blk} {L : List AV}, (c, kk) ∈ dlH z L x1 x2 x3 → (c = 0 ∧ kk = { cells := L, gr := some z }) ∨ (c = 1 ∧ kk = { cells := int1 x1 }) ∨ (c = 2 ∧ kk = { cells := int1 x2 }) ∨ (c = 3 ∧ kk = { cells := int1 x3 }) := fun h => by
  simpa using h
 refine (CallOK.gen (k := 4) (kR := 4) (n := n) (fun i => if i = 0 then b else if i = 1 then a1 else if i = 2 then a2 else a3) (fun i => i == 0) hc (Nat.le_refl _) rfl hft (fun c kk hh => ?_) (fun c kk hh => ?_) (fun c hc hh => ?_) (fun c kk hh => ?_) (fun c kk hh => ?_) (fun c1 c2 k1 k2 q1 q2 _ he => ?_) (fun c kk hh _ => ?_) (fun c kk hh _ => ?_) (fun c kk hh hf => ?_) (fun c kk hh => ?_)).cast ?_ ?_
 · rcases hm hh with ⟨rfl, rfl⟩ | ⟨rfl, rfl⟩ | ⟨rfl, rfl⟩ | ⟨rfl, rfl⟩ <;> rfl
 · rcases hm hh with ⟨rfl, rfl⟩ | ⟨rfl, rfl⟩ | ⟨rfl, rfl⟩ | ⟨rfl, rfl⟩ <;> rfl
 · match c, hc with
   | 0, _ => exact (Option.some_ne_none _ (show some ({ cells := rows row l, gr := some z } : Blk) = none from hh)).elim
   | 1, _ => exact (Option.some_ne_none _ (show some ({ cells := int1 x1 } : Blk) = none from hh)).elim
   | 2, _ => exact (Option.some_ne_none _ (show some ({ cells := int1 x2 } : Blk) = none from hh)).elim
   | 3, _ => exact (Option.some_ne_none _ (show some ({ cells := int1 x3 } : Blk) = none from hh)).elim
 · rcases hm hh with ⟨rfl, rfl⟩ | ⟨rfl, rfl⟩ | ⟨rfl, rfl⟩ | ⟨rfl, rfl⟩
   · exact ⟨by decide, belL_mono0 _ (rows_bel hbel)⟩
   all_goals exact ⟨by decide, rfl⟩
 · rcases hm hh with ⟨rfl, rfl⟩ | ⟨rfl, rfl⟩ | ⟨rfl, rfl⟩ | ⟨rfl, rfl⟩
   · simp only [if_true, Blk.ren, hr]; exact hb
   · exact h1
   · exact h2
   · exact h3
 · obtain ⟨⟨d1, d2, d3⟩, d4, d5, d6⟩ := hd
   rcases hm q1 with ⟨rfl, rfl⟩ | ⟨rfl, rfl⟩ | ⟨rfl, rfl⟩ | ⟨rfl, rfl⟩ <;> rcases hm q2 with ⟨rfl, rfl⟩ | ⟨rfl, rfl⟩ | ⟨rfl, rfl⟩ | ⟨rfl, rfl⟩ <;> simp at he <;> first | rfl | (subst he; simp at *)
 · rcases hm hh with ⟨rfl, rfl⟩ | ⟨rfl, rfl⟩ | ⟨rfl, rfl⟩ | ⟨rfl, rfl⟩ <;> rfl
 · rcases hm hh with ⟨rfl, rfl⟩ | ⟨rfl, rfl⟩ | ⟨rfl, rfl⟩ | ⟨rfl, rfl⟩ <;> rfl
 · rcases hm hh with ⟨rfl, rfl⟩ | ⟨rfl, rfl⟩ | ⟨rfl, rfl⟩ | ⟨rfl, rfl⟩
   · cases hf
   all_goals rfl
 · rcases hm hh with ⟨rfl, rfl⟩ | ⟨rfl, rfl⟩ | ⟨rfl, rfl⟩ | ⟨rfl, rfl⟩ <;> decide
 · rfl
 · simp [mdG, nwG, rdG, chiG, hget, Blk.ren, hr, AV.ren]
   rfl
end Go.Ab
end
section
/- The abstract layer, part 61: loops over functions: a round's contract; the statement, by the iterator's contract over rounds. -/
namespace Go.Ab
open Go.RowKit
set_option linter.unusedVariables false
set_option linter.unusedSimpArgs false
mutual
def AV.nyl : AV → Bool
 | .p _ _ => true
 | .sl _ _ _ _ => true
 | .sg _ _ _ => true
 | .fn _ l => nylL l
 | .bm _ l => nylL l
 | .agg l => nylL l
 | .tup l => nylL l
 | .b _ => true
 | .i _ _ => true
 | .s _ => true
 | .np => true
 | .ns => true
 | .nf => true
 | .ni => true
 | .fz l _ => nylL l
 | .fp l _ => nylL l
 | .ze => true
 | .en => true
 | .any => true
 | .k _ _ => true
 | .yl _ _ _ _ => false
def nylL : List AV → Bool
 | [] => true
 | v :: r => v.nyl && nylL r
end
theorem nylL_spec : ∀ {l : List AV}, nylL l = true → ∀ v ∈ l, v.nyl = true
 | [], _, v, hv => by cases hv
 | x :: r, h, v, hv => by
  simp only [nylL, Bool.and_eq_true] at h
  rcases List.mem_cons.1 hv with rfl | hv
  · exact h.1
  · exact nylL_spec h.2 v hv
theorem nylL_append {a b : List AV} : nylL (a ++ b) = (nylL a && nylL b) := by
 induction a with
 | nil => rfl
 | cons x a ih => simp only [List.cons_append, nylL, ih, Bool.and_assoc]
def Phi.lpT (φ : Phi) (X : Nat → Option Go.Loop) : Phi := { φ with lp := X }
theorem VRel.nyl {D : Nat → Prop} {φ : Phi} {X : Nat → Option Go.Loop} {v : AV} {u : Value} (h : VRel D φ v u) : v.nyl = true → VRel D (φ.lpT X) v u := by
 induction h with
 | b x => intro _; exact .b x
 | i k n => intro _; exact .i k n
 | s l => intro _; exact .s l
 | np => intro _; exact .np
 | p b o h => intro _; exact .p (φ := φ.lpT X) b o h
 | ns => intro _; exact .ns
 | sl b o len cap h => intro _; exact .sl (φ := φ.lpT X) b o len cap h
 | sg b o len j cap h hj hc hl => intro _; exact .sg (φ := φ.lpT X) b o len j cap h hj hc hl
 | fn f l cs hf hl h ih => intro hp; exact .fn f l cs hf hl (fun i a u ha hu => ih i a u ha hu (nylL_spec hp a (List.mem_of_getElem? ha)))
 | bm f l cs hf hl h ih => intro hp; exact .bm f l cs hf hl (fun i a u ha hu => ih i a u ha hu (nylL_spec hp a (List.mem_of_getElem? ha)))
 | nf => intro _; exact .nf
 | ni => intro _; exact .ni
 | agg l cs hl h ih => intro hp; exact .agg l cs hl (fun i a u ha hu => ih i a u ha hu (nylL_spec hp a (List.mem_of_getElem? ha)))
 | tup l cs hl h ih => intro hp; exact .tup l cs hl (fun i a u ha hu => ih i a u ha hu (nylL_spec hp a (List.mem_of_getElem? ha)))
 | fz l n B o cap vs hB hc hs h ih => intro hp; exact .fz (φ := φ.lpT X) l n B o cap vs hB hc hs (fun i a u ha hu => ih i a u ha hu (nylL_spec hp a (List.mem_of_getElem? ha)))
 | fz0 l x cap hc => intro _; exact .fz0 l x cap hc
 | fp l k B o vs hB hs h ih => intro hp; exact .fp (φ := φ.lpT X) l k B o vs hB hs (fun i a u ha hu => ih i a u ha hu (nylL_spec hp a (List.mem_of_getElem? ha)))
 | ze x => intro _; exact .ze x
 | en x cap => intro _; exact .en x cap
 | any u => intro _; exact .any u
 | k t u => intro _; exact .k t u
 | yl L r ts l hL h ih => intro hp; cases hp
theorem VRel.lpUp {D : Nat → Prop} {φ : Phi} {X : Nat → Option Go.Loop} {v : AV} {u : Value} (hX : ∀ L r, φ.lp L = some r → X L = some r) (h : VRel D φ v u) : VRel D (φ.lpT X) v u :=
 VRel.mono' (φ := φ) (φ' := φ.lpT X) (fun _ h => h) (fun _ _ => ⟨rfl, rfl, rfl, rfl⟩) (fun _ _ h => h) hX h
theorem HR.lpT {D : Nat → Prop} {φ : Phi} {X : Nat → Option Go.Loop} {H : Hf} {w : World} (h : HR D φ H w) (hv : ∀ b k v u, H b = some k → v ∈ k.cells → VRel D φ v u → VRel D (φ.lpT X) v u) (hl : ∀ L r, X L = some r → w.heap[L]? = some (.loop r)) : HR D (φ.lpT X) H w :=
 ⟨⟨fun b k hb => ⟨(h.at_ b k hb).1, by
   obtain ⟨⟨cs, elem, fr, h1, h2, h3, h4⟩, h5⟩ := (h.at_ b k hb).2
   refine ⟨⟨cs, elem, fr, h1, fun i v hv' => ?_, h3, h4⟩, h5⟩
   obtain ⟨u, hu, hr⟩ := h2 i v hv'
   exact ⟨u, hu, hv b k v u hb (List.mem_of_getElem? hv') hr⟩⟩, h.sep⟩, h.fz, hl, h.fsep⟩
theorem Stp.lpT {D D' : Nat → Prop} {φ φ' : Phi} {X : Nat → Option Go.Loop} {H H' : Hf} {w w' : World} (h : Stp D φ H w D' φ' H' w') (hr : HR D' (φ'.lpT X) H' w') : Stp D (φ.lpT X) H w D' (φ'.lpT X) H' w' :=
 ⟨h.sub, ⟨h.agree.at_, h.agree.fz, rfl⟩, hr, ⟨h.frm.os, h.frm.tape, h.frm.output, h.frm.size, h.frm.block⟩, h.img, h.fnew⟩
theorem Stp.turn {D D' : Nat → Prop} {φ φ' : Phi} {H H' : Hf} {w w1 w' w1' : World} (h : Stp D φ H w D' φ' H' w1) (hr : HR D' φ' H' w1') (hos : w1'.os = w'.os) (ht : w1'.tape = w'.tape) (ho : w1'.output = w'.output) (hsz : w'.heap.size = w.heap.size) (hsz1 : w1'.heap.size = w1.heap.size) (L : Nat)
 (hb : ∀ c, c ≠ L → w'.heap[c]? = w.heap[c]?) (hb1 : ∀ c, c ≠ L → w1'.heap[c]? = w1.heap[c]?) (hL : w1'.heap[L]? = w'.heap[L]?) : Stp D φ H w' D' φ' H' w1' :=
 ⟨h.sub, h.agree, hr, ⟨hos, ht, ho, by rw [hsz, hsz1]; exact h.frm.size, fun c hc hn => by
   by_cases hcL : c = L
   · rw [hcL]; exact hL
   · rw [hb1 c hcL, hb c hcL]; exact h.frm.block c (by rw [← hsz]; exact hc) hn⟩, fun b k hb' hk => by rw [hsz]; exact h.img b k hb' hk, fun B vs hB => by rw [hsz]; exact h.fnew B vs hB⟩
def nrI : ICode → Bool
 | .seq a b => nrI a && nrI b
 | .cond _ a b => nrI a && nrI b
 | .block _ c => nrI c
 | .loop c => nrI c
 | .scope c => nrI c
 | .rfunc _ _ _ _ => false
 | .bad => false
 | _ => true
theorem nrI_spec {P : Program} {ct : List Nat} {N : Nat} : ∀ {c : Code}, nrI (compC P ct N c) = true → noRF c = true := by
 intro c
 induction c with
 | seq a b iha ihb => intro h; simp only [compC, nrI, Bool.and_eq_true] at h; simp only [noRF, Bool.and_eq_true]; exact ⟨iha h.1, ihb h.2⟩
 | cond x a b iha ihb =>
  intro h
  simp only [compC] at h
  split at h
  · simp [nrI] at h
  · simp only [nrI, Bool.and_eq_true] at h; simp only [noRF, Bool.and_eq_true]; exact ⟨iha h.1, ihb h.2⟩
  · simp [nrI] at h
 | block id c ih => intro h; exact ih h
 | loop c ih => intro h; exact ih h
 | scope c ih => intro h; exact ih h
 | rangeFunc g ps a b iha ihb =>
  intro h
  simp only [compC] at h
  split at h <;> simp [nrI] at h
 | _ => intro h; rfl
def asg : List Nat → List AV → Env → Env
 | t :: ts, a :: as, e => asg ts as ((t, a) :: e)
 | _, _, e => e
def zipE : List Nat → List AV → Env
 | t :: ts, a :: as => (t, a) :: zipE ts as
 | _, _ => []
theorem zipE_get {t : Nat} {v : AV} : ∀ {ts : List Nat} {l : List AV}, eget (zipE ts l) t = some v → ∃ i : Nat, ts[i]? = some t ∧ l[i]? = some v
 | [], _, h => by simp [zipE, eget] at h
 | _ :: _, [], h => by simp [zipE, eget] at h
 | s :: ts, a :: l, h => by
  simp only [zipE, eget] at h
  by_cases hs : t = s
  · subst hs; simp at h; subst h; exact ⟨0, rfl, rfl⟩
  · rw [beq_ne hs] at h
    obtain ⟨i, h1, h2⟩ := zipE_get h
    exact ⟨i + 1, by simpa using h1, by simpa using h2⟩
theorem asg_rel {D : Nat → Prop} {φ : Phi} : ∀ {ts : List Nat} {as : List AV} {vs : List Value} {e : Env} {T : Array Value}, All2 D φ as vs → ts.length = as.length → (∀ t ∈ ts, t < T.size) → (∀ t v, eget e t = some v → VRel D φ v (T.getD t undef)) →
 ∀ t v, eget (asg ts as e) t = some v → VRel D φ v (((ts.zip vs).foldl (fun (T : Array Value) (x : Nat × Value) => T.setIfInBounds x.1 x.2) T).getD t undef)
 | [], as, vs, e, T, _, _, _, he, t, v, h => he t v (by simpa [asg] using h)
 | s :: ts, [], vs, e, T, _, hl, _, he, t, v, h => by simp at hl
 | s :: ts, a :: as, vs, e, T, ha, hl, hT, he, t, v, h => by
  obtain ⟨u, vs', rfl, hu, ha'⟩ := ha.uncons
  simp only [List.zip_cons_cons, List.foldl_cons]
  refine asg_rel ha' (by simpa using hl) (fun t' ht' => by simp; exact hT t' (List.mem_cons_of_mem _ ht')) (fun t' v' h' => ?_) t v h
  simp only [eget] at h'
  by_cases hs : t' = s
  · subst hs
    simp at h'; subst h'
    have : t' < T.size := hT t' List.mem_cons_self
    rw [Array.getD_eq_getD_getElem?]
    simp [this]; exact hu
  · rw [beq_ne hs] at h'
    have := he t' v' (by simpa using h')
    rw [Array.getD_eq_getD_getElem?] at this ⊢
    rw [Array.getElem?_setIfInBounds_ne (fun e => hs e.symm)]
    exact this
theorem foldl_size : ∀ (l : List (Nat × Value)) (T : Array Value), (l.foldl (fun (T : Array Value) (x : Nat × Value) => T.setIfInBounds x.1 x.2) T).size = T.size
 | [], T => rfl
 | x :: l, T => by simp only [List.foldl_cons]; rw [foldl_size l]; simp
def RoundW (F : Fx) (ps : List Nat) (A B : ICode) (ts : List Nat) (cs as : List AV) (h1 : Hp) (n1 : Nat) (h2 : Hp) (n2 : Nat) : Prop :=
 iw { F with n0 := n1 } A (thenK (fun _ _ _ _ => False) fun e h n => iw { F with n0 := n1 } B (fun ex e3 h3 n3 => match ex with | .normal => Ends n1 (.b true) h3 n3 (.b true) h2 n2 | _ => False) e h n) (asg ps as (zipE ts cs)) h1 n1
structure RecOK (F : Fx) (ps : List Nat) (A B : ICode) (r : Go.Loop) : Prop where
 state : r.state = .ready
 pending : r.pending = none
 params : r.params = ps.toArray
 as : compC F.P F.ct F.N r.assign = A
 bd : compC F.P F.ct F.N r.body = B
 size : r.tmps.size = F.N
theorem FTL.round {F : Fx} (hcx : Sound F.P F.cx) (hm : F.P.follows .mixedOrders = true) {ps : List Nat} {A B : ICode} {L : Nat} {r : Go.Loop} (hr : RecOK F ps A B r) (hnA : nrI A = true) (hnB : nrI B = true) (hps : (ps.all fun t => decide (t < F.N)) = true)
 {ts : List Nat} {cs as : List AV} {h1 : Hp} {n1 : Nat} {h2 : Hp} {n2 : Nat} (hlen : ps.length = as.length) (hyc : nylL cs = true) (hya : nylL as = true) (hyh : ∀ b k, hget h1 b = some k → nylL k.cells = true)
 (hw : RoundW F ps A B ts cs as h1 n1 h2 n2) : FTL F.P YB (.yl L r ts cs :: as) h1 n1 (.b true) h2 n2 := by
 intro D φ w us hD0 hH hargs
 obtain ⟨u0, vs, rfl, hu0, hvs⟩ := hargs.uncons
 generalize hgen : AV.yl L r ts cs = y at hu0
 cases hu0 <;> cases hgen
 rename_i hL henv
 have hLw := hH.lp L r hL
 let X : Nat → Option Go.Loop := fun L' => if L' = L then none else φ.lp L'
 let D1 : Nat → Prop := fun b => b < n1
 -- the relation, but for this loop's record
 have hHb : HR D1 (φ.lpT X) (hget h1) w := by
  refine ((hH.lpT (X := X) (fun b k v u hb hv hr => hr.nyl (nylL_spec (hyh b k hb) v hv)) (fun L' r' h => ?_)).grow (D' := D1) hD0)
  simp only [X] at h
  split at h
  · cases h
  · exact hH.lp L' r' h
 have hvsb : All2 D1 (φ.lpT X) as vs := ⟨hvs.1, fun i a u ha hu => ((hvs.2 i a u ha hu).nyl (nylL_spec hya a (List.mem_of_getElem? ha))).mono hD0 (Agree.refl _ _)⟩
 unfold Ans
 rw [if_pos rfl]
 refine ⟨L, vs.toArray, by simp, r.fn, _, r.assign, r.body, run_yield hLw (by rw [hr.params]; simp; rw [hlen]; exact hvs.1.symm), ?_⟩
 refine roundIn_of_wpIn (F := Fence.wide) trivial ?_
 have hfold : (r.params.zip vs.toArray).foldl (fun tmps (x : Nat × Value) => tmps.setIfInBounds x.1 x.2) r.tmps = (ps.zip vs).foldl (fun (T : Array Value) (x : Nat × Value) => T.setIfInBounds x.1 x.2) r.tmps := by
  rw [hr.params]; simp
 have hR : Rel D1 (φ.lpT X) (asg ps as (zipE ts cs)) h1 n1 F.N (w.heap.size, []) { tmps := (r.params.zip vs.toArray).foldl (fun tmps (x : Nat × Value) => tmps.setIfInBounds x.1 x.2) r.tmps, defers := [] } w := by
  refine ⟨fun b hb => hb, fun t v hv => ?_, hHb, ?_, Mk.nil⟩
  · show VRel _ _ v (Array.getD ((r.params.zip vs.toArray).foldl (fun tmps (x : Nat × Value) => tmps.setIfInBounds x.1 x.2) r.tmps) t undef)
    rw [hfold]
    refine asg_rel hvsb hlen (fun t ht => by rw [hr.size]; exact of_decide_eq_true (List.all_eq_true.1 hps t ht)) (fun t v hv => ?_) t v hv
    obtain ⟨i, g1, g2⟩ := zipE_get hv
    exact ((henv i t v g1 g2).nyl (nylL_spec hyc v (List.mem_of_getElem? g2))).mono hD0 (Agree.refl _ _)
  · show Array.size ((r.params.zip vs.toArray).foldl (fun tmps (x : Nat × Value) => tmps.setIfInBounds x.1 x.2) r.tmps) = F.N
    rw [hfold, foldl_size]; exact hr.size
 have hA : WP F.P F.N n1 r.assign _ (asg ps as (zipE ts cs)) h1 n1 := iw_sound { F with n0 := n1 } hcx hm r.assign _ _ _ _ (by show iw _ (compC F.P F.ct F.N r.assign) _ _ _ _; rw [hr.as]; exact hw)
 have h1w := hA (some L) (.inr (nrI_spec (by rw [hr.as]; exact hnA))) [] D1 (φ.lpT X) (hget h1) w (fun b hb => hb) (Nat.le_refl _) D1 (φ.lpT X) _ w hR (Stp.refl hHb)
 refine wpIn_mono (F := Fw (some L)) h1w (fun ex a1 w1 hp => ?_)
 obtain ⟨D', φ', e1, hh1, nn1, hk, hn', hR', hS'⟩ := hp
 cases ex with
 | normal =>
  have hL1 : w1.heap[L]? = some (.loop r) := hHb.stays hS'.frm hLw (fun _ _ _ e => by cases e)
  have hltL : L < w.heap.size := (Array.getElem?_eq_some_iff.1 hLw).1
  refine ⟨_, run_beginRound hL1 hr.state, ?_⟩
  have hlpX : φ'.lp = X := hS'.agree.lp
  have hne : ∀ {c : Nat} {o : Obj} {w1 : World}, w1.heap[c]? = some o → (∃ r', w1.heap[L]? = some (.loop r')) → (∀ r', o ≠ .loop r') → c ≠ L := fun hc hl ho e => by
   obtain ⟨r', hl⟩ := hl
   rw [e, hl] at hc; cases hc; exact ho _ rfl
  -- the loop's record is turned
  have turnHR : ∀ {D' : Nat → Prop} {φ' : Phi} {H' : Hf} {w1 : World} (o : Obj), φ'.lp = X → (∃ r', w1.heap[L]? = some (.loop r')) → HR D' φ' H' w1 → HR D' φ' H' (w1.putObj L o) := fun o hX hl hh =>
   hh.same (fun c cs elem fr hc => by rw [World.putObj_heap_other (hne hc hl (fun _ e => by cases e))]; exact hc) (fun L' r' h => by
    have h' := h
    rw [hX] at h'
    simp only [X] at h'
    split at h'
    · cases h'
    · rename_i hL'
      rw [World.putObj_heap_other hL']; exact hh.lp L' r' h)
  have turnMk : ∀ {m : Nat × List Deferred} {l : List Deferred} {w1 : World} (o : Obj), (∃ r', w1.heap[L]? = some (.loop r')) → Mk m l w1 → Mk m l (w1.putObj L o) := fun o hl ⟨ds, g1, g2, g3⟩ =>
   ⟨ds, g1, g2, fun D hD => ⟨(g3 D hD).1, by rw [World.putObj_heap_other (hne (g3 D hD).2 hl (fun _ e => by cases e))]; exact (g3 D hD).2⟩⟩
  have hr2 := turnHR (.loop { r with state := .busy }) hlpX ⟨r, hL1⟩ hR'.heap
  have hS2 : Stp D1 (φ.lpT X) (hget h1) (w.putObj L (.loop { r with state := .busy })) D' φ' (hget hh1) (w1.putObj L (.loop { r with state := .busy })) :=
   hS'.turn hr2 hS'.frm.os hS'.frm.tape hS'.frm.output (by simp) (by simp) L (fun c hc => World.putObj_heap_other hc) (fun c hc => World.putObj_heap_other hc)
    (by rw [World.putObj_heap_same (Nat.lt_of_lt_of_le hltL hS'.frm.size), World.putObj_heap_same hltL])
  have hR2 : Rel D' φ' e1 hh1 nn1 F.N ((w.putObj L (.loop { r with state := .busy })).heap.size, []) a1 (w1.putObj L (.loop { r with state := .busy })) :=
   ⟨hR'.lt, hR'.env, hr2, hR'.size, by rw [World.putObj_size]; exact turnMk _ ⟨r, hL1⟩ hR'.defers⟩
  have hB : WP F.P F.N n1 r.body _ e1 hh1 nn1 := iw_sound { F with n0 := n1 } hcx hm r.body _ _ _ _ (by show iw _ (compC F.P F.ct F.N r.body) _ _ _ _; rw [hr.bd]; exact hk)
  have h2w := hB (some L) (.inr (nrI_spec (by rw [hr.bd]; exact hnB))) [] D1 (φ.lpT X) (hget h1) _ (fun b hb => hb) hn' D' φ' a1 _ hR2 hS2
  refine wpIn_mono (F := Fw (some L)) h2w (fun ex a3 w3 hp => ?_)
  obtain ⟨D3, φ3, e3, h3, n3, hk3, hn3, hR3, hS3⟩ := hp
  cases ex with
  | normal =>
   obtain ⟨ψ, hW⟩ := hk3
   have hHwb : HR D1 (φ.lpT X) (hget h1) (w.putObj L (.loop { r with state := .busy })) := turnHR _ rfl ⟨r, hLw⟩ hHb
   have hL3 : w3.heap[L]? = some (.loop { r with state := .busy }) := hHwb.stays hS3.frm (World.putObj_heap_same hltL) (fun _ _ _ e => by cases e)
   refine ⟨_, _, run_endRound none hL3, ?_⟩
   have hrec : ({ ({ r with state := .busy } : Go.Loop) with state := if (none : Option Code).isNone then .ready else .done, pending := none } : Go.Loop) = r := by
    obtain ⟨st, pe, f', tm, pa, as', bd, de⟩ := r
    have := hr.state; have := hr.pending
    simp at *
    simp [*]
   rw [hrec]
   -- the result
   have hR4 : Rel D3 φ3 [(0, .b true)] h3 n3 1 (0, []) { tmps := #[.bool true], defers := [] } w3 := by
    refine ⟨hR3.lt, fun t v hv => ?_, hR3.heap, rfl, Mk.nil⟩
    simp only [eget] at hv
    by_cases ht : t = 0
    · subst ht; simp at hv; subst hv; exact .b true
    · rw [beq_ne ht] at hv; simp at hv
   obtain ⟨hR5, hS5⟩ := Rel.weaken hW (fun b hb => hb) hR4 hS3
   have hlp3 : (φ3.comp ψ).lp = X := hS5.agree.lp
   have hr5 := turnHR (.loop r) hlp3 ⟨_, hL3⟩ hR5.heap
   have hltL3 : L < w3.heap.size := (Array.getElem?_eq_some_iff.1 hL3).1
   have hS6 : Stp D1 (φ.lpT X) (hget h1) w _ (φ3.comp ψ) (hget h2) (w3.putObj L (.loop r)) :=
    hS5.turn hr5 hS5.frm.os hS5.frm.tape hS5.frm.output (by simp) (by simp) L (fun c hc => (World.putObj_heap_other hc).symm) (fun c hc => World.putObj_heap_other hc)
     (by rw [World.putObj_heap_same hltL3]; exact hLw.symm)
   have hr7 : HR _ ((φ3.comp ψ).lpT φ.lp) (hget h2) (w3.putObj L (.loop r)) := hr5.lpT (fun b k v u _ _ h => h.lpUp (fun L' r' h' => by
    rw [hlp3] at h'
    simp only [X] at h'
    split at h'
    · cases h'
    · exact h')) (fun L' r' h' => by
      by_cases hL' : L' = L
      · rw [hL', World.putObj_heap_same hltL3]
        rw [hL', hL] at h'; cases h'; rfl
      · have : X L' = some r' := by simp only [X, hL', if_false]; exact h'
        rw [← hlp3] at this
        exact hr5.lp L' r' this)
   have hS7 : Stp D1 φ (hget h1) w _ ((φ3.comp ψ).lpT φ.lp) (hget h2) (w3.putObj L (.loop r)) := hS6.lpT (X := φ.lp) hr7
   refine ⟨_, _, _, rfl, hR5.lt, VRel.b true, ⟨fun b hb => hS7.sub b (hD0 b hb), ⟨fun b hb => hS7.agree.at_ b (hD0 b hb), hS7.agree.fz, hS7.agree.lp⟩, hS7.hr, hS7.frm, hS7.img, hS7.fnew⟩⟩
  | _ => exact hk3.elim
 | _ => exact hk.elim
theorem RFunc.intro {F : Fx} (hcx : Sound F.P F.cx) (hm : F.P.follows .mixedOrders = true) {g : Opd} {ps : List Nat} {A B : ICode} {K : Kont} {e : Env} {h : Hp} {n : Nat} {gf : Nat} {caps : List AV} {v' : AV} {h' : Hp} {n' : Nat} (ts : List Nat) (cs : List AV)
 (hg : g.ev e h = some (.fn gf caps)) (hcal : (callable F.P gf && !ext F.P gf) = true) (hnA : nrI A = true) (hnB : nrI B = true) (hps : (ps.all fun t => decide (t < F.N)) = true)
 (hts : ∀ (i t : Nat) (a : AV), ts[i]? = some t → cs[i]? = some a → eget e t = some a)
 (hit : ∀ L r, (∀ cs as h1 n1 h2 n2, ps.length = as.length → nylL cs = true → nylL as = true → (∀ b k, hget h1 b = some k → nylL k.cells = true) → RoundW F ps A B ts cs as h1 n1 h2 n2 → FTL F.P YB (.yl L r ts cs :: as) h1 n1 (.b true) h2 n2) →
   FTL F.P gf (.yl L r ts cs :: caps) h n v' h' n')
 (hy' : ∀ b k, hget h' b = some k → nylL k.cells = true) (hn' : F.n0 ≤ n') (hk : K .normal e h' n') : RFunc F.P F.ct F.N F.n0 g ps A B K e h n := by
 rw [Bool.and_eq_true, Bool.not_eq_true'] at hcal
 intro c' hc' ro hro Bd D0 φ0 H0 w0 hd0 hn0 D φ a w hR hS
 -- the code
 obtain ⟨g', ps', A', B', rfl, hg', hpe, hA', hB', hgg⟩ : ∃ g' ps' A' B', c' = .rangeFunc g' ps' A' B' ∧ cO g' = some g ∧ ps'.toList = ps ∧ compC F.P F.ct F.N A' = A ∧ compC F.P F.ct F.N B' = B ∧ ∀ k, g ≠ .g k := by
  cases c' with
  | rangeFunc g' ps' A' B' =>
   simp only [compC] at hc'
   split at hc'
   · cases hc'
   · rename_i x hng hx
     cases hc'
     exact ⟨g', ps', A', B', rfl, hx, rfl, rfl, rfl, fun k hk => hng k hk⟩
   · cases hc'
  | region id ops draw => simp only [compC] at hc'; split at hc' <;> (try split at hc') <;> cases hc'
  | cond x y z => simp only [compC] at hc'; split at hc' <;> cases hc'
  | _ => simp [compC] at hc'
 have hro' : ro = none := hro.resolve_right (by simp [noRF])
 subst hro'
 have hvf := opd_rel (fun t v _ hv => hR.env t v hv) hg' (fun k hk => by subst hk; simp only [cO, Option.some.injEq] at hg'; exact hgg k hg'.symm) hg
 obtain ⟨hgy, capsV, hev, hcaps⟩ := hvf.fn_inv
 refine wpIn_rangeFunc ?_
 intro fn hfn
 obtain ⟨r, hrdef⟩ : ∃ r : Go.Loop, r = { state := .ready, pending := none, fn, tmps := a.tmps, params := ps', assign := A', body := B', defers := w.heap.size } := ⟨_, rfl⟩
 have hrec : RecOK F ps A B r := by rw [hrdef]; exact ⟨rfl, rfl, by rw [← hpe], hA', hB', hR.size⟩
 obtain ⟨W1, hW1⟩ : ∃ W1, (w.alloc (.deferred (some []))).alloc (.loop r) = W1 := ⟨_, rfl⟩
 have hsz1 : W1.heap.size = w.heap.size + 2 := by rw [← hW1]; simp
 have hL1 : W1.heap[w.heap.size + 1]? = some (.loop r) := by
  rw [← hW1]; have := World.alloc_heap_new (w.alloc (.deferred (some []))) (.loop r); rwa [World.size_alloc] at this
 have hK1 : W1.heap[w.heap.size]? = some (.deferred (some [])) := by
  rw [← hW1]; exact (Below.heap_alloc _ _ _ (by simp)).trans (World.alloc_heap_new w _)
 have hold : ∀ c, c < w.heap.size → W1.heap[c]? = w.heap[c]? := fun c hc => by
  rw [← hW1]; exact (Below.heap_alloc _ _ _ (by simp; omega)).trans (Below.heap_alloc _ _ _ hc)
 have hHw1 : HR D φ (hget h) W1 := hR.heap.same (fun c cs elem fr hc => by rw [hold c (Array.getElem?_eq_some_iff.1 hc).1]; exact hc) (fun L r' hL => by
  have := hR.heap.lp L r' hL
  rw [hold L (Array.getElem?_eq_some_iff.1 this).1]; exact this)
 have hS1 : Stp D φ (hget h) w D φ (hget h) W1 := (Stp.refl hR.heap).same hHw1 (by rw [← hW1]; rfl) (by rw [← hW1]; rfl) (by rw [← hW1]; rfl) (by omega) hold
 let X : Nat → Option Go.Loop := fun L' => if L' = w.heap.size + 1 then some r else φ.lp L'
 have hXup : ∀ L r', φ.lp L = some r' → X L = some r' := fun L r' hL => by
  have h1 := hR.heap.lp L r' hL
  have := (Array.getElem?_eq_some_iff.1 h1).1
  simp only [X]; rw [if_neg (by omega)]; exact hL
 have hHX : HR D (φ.lpT X) (hget h) W1 := hHw1.lpT (fun b k v u _ _ hv => hv.lpUp hXup) (fun L r' hL => by
  simp only [X] at hL
  split at hL
  · rename_i e; cases hL; rw [e]; exact hL1
  · exact hHw1.lp L r' hL)
 have hy0 : VRel D (φ.lpT X) (.yl (w.heap.size + 1) r ts cs) (.func (.yield (w.heap.size + 1)) #[] #[]) := by
  refine .yl (φ := φ.lpT X) _ _ _ _ (by simp [Phi.lpT, X]) (fun i t a ht ha => ?_)
  have := hR.env t a (hts i t a ht ha)
  rw [hrdef]
  exact this.lpUp hXup
 have hcaps' : All2 D (φ.lpT X) caps capsV := ⟨hcaps.1, fun i a u ha hu => (hcaps.2 i a u ha hu).lpUp hXup⟩
 have hF := hit (w.heap.size + 1) r (fun cs as h1 n1 h2 n2 q1 q2 q3 q4 q5 => FTL.round hcx hm hrec hnA hnB hps q1 q2 q3 q4 q5) D (φ.lpT X) W1 _ hR.lt hHX (.cons hy0 hcaps')
 refine ⟨w.heap.size + 1, [{ target := .collected w.heap.size, args := #[] }], W1, { target := .fn (.func gf) capsV.toArray, args := #[.func (.yield (w.heap.size + 1)) #[] #[]] }, W1, gf,
  #[.func (.yield (w.heap.size + 1)) #[] #[]] ++ capsV.toArray, W1, ?_, ?_, fun _ _ => trivial, ?_, fun hd => (by cases hd), ?_⟩
 · rw [← hW1, hrdef]; exact run_enterLoop_outer _ _ _ _ _
 · simp only [resolve, hev]
   simp [go_sem]
 · simp only [invoke, callFunc_run hgy hcal.1 hcal.2]
 · refine callsIn_Fw ?_
   have hF2 := hF.calls hgy hcal.2
   rw [show (Value.func (.yield (w.heap.size + 1)) #[] #[] :: capsV).toArray = #[.func (.yield (w.heap.size + 1)) #[] #[]] ++ capsV.toArray by simp] at hF2
   refine Calls.mono hF2 fun ex w2 hx => ?_
   obtain ⟨D', φ', u, rfl, hlt', hv', hS2⟩ := hx
   have hlp2 : φ'.lp = X := hS2.agree.lp
   have hL2 : w2.heap[w.heap.size + 1]? = some (.loop r) := hHX.stays hS2.frm hL1 (fun _ _ _ e => by cases e)
   have hK2 : w2.heap[w.heap.size]? = some (.deferred (some [])) := hHX.stays hS2.frm hK1 (fun _ _ _ e => by cases e)
   have hlt2 : w.heap.size + 1 < w2.heap.size := (Array.getElem?_eq_some_iff.1 hL2).1
   have hpend : r.pending = none := hrec.pending
   refine ⟨none, w2.putObj (w.heap.size + 1) (.loop { r with state := .exhausted }), (by have := run_endLoop (P := F.P) hL2 (by rw [hrec.state]; simp); rw [this, hpend]), ?_⟩
   -- the relation behind
   have hHr : HR D' (φ'.lpT φ.lp) (hget h') w2 := hS2.hr.lpT (fun b k v u hb hv hvr => hvr.nyl (nylL_spec (hy' b k hb) v hv)) (fun L r' hL => by
    have := hXup L r' hL
    rw [← hlp2] at this
    exact hS2.hr.lp L r' this)
   have hS3 : Stp D φ (hget h) W1 D' (φ'.lpT φ.lp) (hget h') w2 := hS2.lpT (X := φ.lp) hHr
   have hHe : HR D' (φ'.lpT φ.lp) (hget h') (w2.putObj (w.heap.size + 1) (.loop { r with state := .exhausted })) := hHr.same (fun c cs elem fr hc => by
    rw [World.putObj_heap_other (fun e => by rw [e, hL2] at hc; cases hc)]; exact hc) (fun L r' hL => by
    have h1 := hR.heap.lp L r' hL
    have h2 := (Array.getElem?_eq_some_iff.1 h1).1
    rw [World.putObj_heap_other (by omega)]
    exact hHr.lp L r' hL)
   have hS4 : Stp D φ (hget h) w D' (φ'.lpT φ.lp) (hget h') (w2.putObj (w.heap.size + 1) (.loop { r with state := .exhausted })) :=
    (hS1.trans hS3).same hHe rfl rfl rfl (by simp) (fun c hc => World.putObj_heap_other (by omega))
   refine ⟨D', φ'.lpT φ.lp, e, h', n', hk, hn', ⟨hlt', fun t v hv => ?_, hHe, hR.size, ?_⟩, hS.trans hS4⟩
   · exact (hR.env t v hv).mono hS4.sub hS4.agree
   · obtain ⟨ds, q1, q2, q3⟩ := hR.defers
     refine ⟨w.heap.size :: ds, by simp [q1], List.nodup_cons.2 ⟨fun hin => ?_, q2⟩, fun E hE => ?_⟩
     · have := (Array.getElem?_eq_some_iff.1 (q3 _ hin).2).1
       omega
     · rcases List.mem_cons.1 hE with rfl | hE
       · exact ⟨hS.frm.size, by rw [World.putObj_heap_other (by omega)]; exact hK2⟩
       · have h1 := (q3 E hE).2
         have h2 := (Array.getElem?_eq_some_iff.1 h1).1
         refine ⟨(q3 E hE).1, ?_⟩
         rw [World.putObj_heap_other (by omega)]
         exact (hHX.stays hS2.frm (by rw [hold E h2]; exact h1) (fun _ _ _ e => by cases e))
end Go.Ab
end
section
/- The abstract layer, part 63: loops whose rounds' calls have contracts of their own; an iterator's calls of yield. -/
namespace Go.Ab
set_option linter.unusedVariables false
set_option linter.unusedSimpArgs false
noncomputable def cx1 (f0 : FuncId) (a0 : List AV) (h0 : Hp) (n0 : Nat) (E0 : Eff) : Cx := fun f a h n => open Classical in if f = f0 ∧ a = a0 ∧ h = h0 ∧ n = n0 then some (true, E0) else none
theorem cx1_at {f0 : FuncId} {a0 : List AV} {h0 : Hp} {n0 : Nat} {E0 : Eff} : cx1 f0 a0 h0 n0 E0 f0 a0 h0 n0 = some (true, E0) := if_pos ⟨rfl, rfl, rfl, rfl⟩
theorem cx1_sound {P : Program} {f0 : FuncId} {a0 : List AV} {h0 : Hp} {n0 : Nat} {E0 : Eff} (hc : CallOK P f0 a0 h0 n0 E0) : Sound P (cx1 f0 a0 h0 n0 E0) := fun f a h n c E he ht => by
 unfold cx1 at he
 split at he
 · rename_i hh
   obtain ⟨rfl, rfl, rfl, rfl⟩ := hh
   cases he; exact hc
 · cases he
theorem Loop.stepX {F : Fx} (hm : F.P.follows .mixedOrders = true) {c : ICode} {K : Kont} {X : Type} (ok : X → Prop) (μ : X → Nat) (E : X → Env) (H : X → Hp) (n2 : Nat) (x0 : X) (nx : X → X) (m0 : List (Nat × Nat)) (m : X → List (Nat × Nat))
 {e : Env} {h : Hp} {n : Nat} (hn : F.n0 ≤ n2) (hm0 : rnOK m0 F.n0 n2 = true) (hm1 : ∀ x, rnOK (m x) F.n0 n2 = true) (h0 : ok x0) (he : EnvR n2 m0 e (E x0)) (hh : HpR n2 m0 h (H x0))
 (round : ∀ x, ok x → ∃ cx, Sound F.P cx ∧ jw { F with cx := cx } c (thenK K fun e' h' n' => (ok (nx x) ∧ μ (nx x) < μ x) ∧ EnvR n2 (m x) e' (E (nx x)) ∧ HpR n2 (m x) h' (H (nx x))) (E x) (H x) n2) : Loop F.P F.ct F.N F.n0 c K e h n := by
 refine Loop.invW (F := F) (X := { x : X // ok x }) (fun k => (E k.1, H k.1, n2)) (fun k => μ k.1) ⟨x0, h0⟩ (rn m0) (Wk.ofR hn hm0 he hh) (fun k c' hc' => ?_)
 obtain ⟨cx, hcx, hr⟩ := round k.1 k.2
 refine iw_sound { F with cx := cx } hcx hm c' _ _ _ _ (by
  show iw _ (compC F.P F.ct F.N c') _ _ _ _
  rw [hc']
  refine iw_mono (fun ex e' h' n' hx => ?_) (iw_of_jw hr)
  cases ex with
  | normal =>
   obtain ⟨⟨h1, h2⟩, h3, h4⟩ := hx
   exact ⟨⟨nx k.1, h1⟩, rn (m k.1), Wk.ofR hn (hm1 k.1) h3 h4, h2⟩
  | _ => exact hx)
def nylH : Hp → Bool
 | [] => true
 | (_, k) :: r => nylL k.cells && nylH r
theorem nylH_spec : ∀ {h : Hp} {b : Nat} {k : Blk}, nylH h = true → hget h b = some k → nylL k.cells = true
 | [], b, k, _, hb => by simp [hget] at hb
 | (c, j) :: r, b, k, h, hb => by
  simp only [nylH, Bool.and_eq_true] at h
  simp only [hget] at hb
  by_cases hc : b = c
  · subst hc; simp at hb; subst hb; exact h.1
  · rw [beq_ne hc] at hb; exact nylH_spec h.2 hb
theorem rows_nyl {α : Type} {f : α → List AV} (hf : ∀ a, nylL (f a) = true) : ∀ {l : List α}, nylL (rows f l) = true
 | [] => rfl
 | a :: l => by rw [rows_cons, nylL_append, hf, rows_nyl hf]; rfl
def rdK (Q : Env → Hp → Nat → Prop) : Kont := fun ex e h n => match ex with
 | .normal => Q e h n
 | _ => False
theorem rdK_n {Q : Env → Hp → Nat → Prop} {e : Env} {h : Hp} {n : Nat} : rdK Q .normal e h n = Q e h n := (rfl)
attribute [go_sem ↓] rdK_n
theorem RoundW.of_jw {F : Fx} {ps : List Nat} {A B : ICode} {ts : List Nat} {cs as' : List AV} {h1 : Hp} {n1 : Nat} {h2 : Hp} {n2 : Nat}
 (hj : jw { F with n0 := n1 } A (rdK fun e h n => jw { F with n0 := n1 } B (rdK fun e3 h3 n3 => Ends n1 (.b true) h3 n3 (.b true) h2 n2) e h n) (asg ps as' (zipE ts cs)) h1 n1) : RoundW F ps A B ts cs as' h1 n1 h2 n2 := by
 refine iw_mono (fun ex e h n hx => ?_) (iw_of_jw hj)
 cases ex with
 | normal =>
  refine iw_mono (fun ex e h n hx => ?_) (iw_of_jw hx)
  cases ex <;> exact hx
 | _ => exact hx.elim
theorem CovS.frzZ {n0 n n2 : Nat} {v v' v2 : AV} {h h2 : Hp} {l : List AV} (hf : FzV .ze (.fz l 0) v v') (hc : CovS n0 v' h n v2 h2 n2) : CovS n0 v h n v2 h2 n2 := by
 intro D φ w D0 φ0 H0 w0 u hD0 hD hv hH hS
 exact hc D φ w D0 φ0 H0 w0 u hD0 hD (hf D φ u (fun u1 h1 => by cases h1; exact .fz0 _ _ _ (fun _ => rfl)) hv) hH hS
end Go.Ab
end
