/- The contracts of ContainsFunc, Index and Contains over wants. -/
import Derived.Test.YthnmkedknannhaaResP2
import Derived.Test.YthnmkedknannhaaResI9
namespace Go.Proofs.Res
open Go.Ab
set_option maxRecDepth 100000
set_option maxHeartbeats 4000000
set_option linter.unusedSimpArgs false
set_option linter.unusedVariables false
theorem w29 (x : Wt) (q : Int) : FTL Try.prog 29 [.agg x.l, .fp [.i .i64 q] 0] [] 0 (.b (x.sq == q)) [] 0 := by
 refine FTL.of_iw Sound.nil mo Try.func29 i29_eq (by simp [i29]) (iw_of_jw ?_)
 dsimp only [i29]
 simp (maxSteps := 400000) only [go_sem, Wt.l, simprocAttr]
 exact Ends.pureE rfl rfl
theorem w31 (x : Wt) (now : Int) (hn : 0 ≤ now ∧ now ≤ TT) (hx : 0 ≤ x.fd ∧ x.fd ≤ TT) : FTL Try.prog 31 [.agg x.l, .fp [.i .i64 now] 0] [] 0 (.b (decide (now - x.fd ≥ 2000))) [] 0 := by
 refine FTL.of_iw Sound.nil mo Try.func31 i31_eq (by simp [i31]) (iw_of_jw ?_)
 dsimp only [i31]
 have e1 : IntKind.i64.wrap (now - x.fd) = now - x.fd := by unfold TT at *; exact wrapL (by omega) (by omega)
 simp (maxSteps := 400000) only [go_sem, Wt.l, e1, simprocAttr]
 exact Ends.pureE rfl rfl
theorem wt_inj {a b : Wt} (h : AV.agg a.l = .agg b.l) : a = b := by
 obtain ⟨a1, a2, a3, a4⟩ := a
 obtain ⟨b1, b2, b3, b4⟩ := b
 simp only [Wt.l, AV.agg.injEq, List.cons.injEq, AV.i.injEq, true_and, and_true] at h
 obtain ⟨rfl, rfl, rfl, rfl⟩ := h; rfl
theorem w64a (q : Int) (l : List Wt) (hl : l.length ≤ 1000000000000) : FTL Try.prog 64 [.fz (rows Wt.l l) l.length, .fn 29 [.fp [.i .i64 q] 0]] [] 0 (.i .i64 (ixf (fun x => x.sq == q) l 0)) [] 0 :=
 ixf_fz (row := Wt.l) (el := fun x => .agg x.l) mo Try.func64 i64_eq (by kernel_rfl) Wt.len Wt.bel rfl (fun _ => rfl) (fun a b h => by rw [wt_inj h]) l (by omega) (fun x hx => w29 x q)
theorem w28a (q : Int) (l : List Wt) (hl : l.length ≤ 1000000000000) : FTL Try.prog 28 [.fz (rows Wt.l l) l.length, .fn 29 [.fp [.i .i64 q] 0]] [] 0 (.b (l.any fun x => x.sq == q)) [] 0 :=
 cof_fz mo Try.func28 i28_eq (by kernel_rfl) (rows_bel Wt.bel) rfl (w64a q l hl) (ixf_neg _ l 0 (by omega))
theorem w64b (now : Int) (l : List Wt) (hl : l.length ≤ 1000000000000) (hn : 0 ≤ now ∧ now ≤ TT) (hx : ∀ x ∈ l, 0 ≤ x.fd ∧ x.fd ≤ TT) : FTL Try.prog 64 [.fz (rows Wt.l l) l.length, .fn 31 [.fp [.i .i64 now] 0]] [] 0 (.i .i64 (ixf (fun x => decide (now - x.fd ≥ 2000)) l 0)) [] 0 :=
 ixf_fz (row := Wt.l) (el := fun x => .agg x.l) mo Try.func64 i64_eq (by kernel_rfl) Wt.len Wt.bel rfl (fun _ => rfl) (fun a b h => by rw [wt_inj h]) l (by omega) (fun x h => w31 x now hn (hx x h))
theorem w28b (now : Int) (l : List Wt) (hl : l.length ≤ 1000000000000) (hn : 0 ≤ now ∧ now ≤ TT) (hx : ∀ x ∈ l, 0 ≤ x.fd ∧ x.fd ≤ TT) : FTL Try.prog 28 [.fz (rows Wt.l l) l.length, .fn 31 [.fp [.i .i64 now] 0]] [] 0 (.b (l.any fun x => decide (now - x.fd ≥ 2000))) [] 0 :=
 cof_fz mo Try.func28 i28_eq (by kernel_rfl) (rows_bel Wt.bel) rfl (w64b now l hl hn hx) (ixf_neg _ l 0 (by omega))
def k28 : Ct
 | [x, .fn 29 [.p a 0]], h, n => vwK h 4 x fun rd m cs ok => (unrows 4 wt4 m cs).bind fun l => (hget h a).bind fun ka => (oneB ka).bind fun q =>
  some (ok && decide (m ≤ 1000000000000), { v := .b (l.any fun x => x.sq == q), n, rd := a :: rd })
 | [x, .fn 31 [.p a 0]], h, n => vwK h 4 x fun rd m cs ok => (unrows 4 wt4 m cs).bind fun l => (hget h a).bind fun ka => (oneB ka).bind fun q =>
  some (ok && decide (m ≤ 1000000000000) && inI 0 TT q && l.all (fun x => inI 0 TT x.fd), { v := .b (l.any fun x => decide (q - x.fd ≥ 2000)), n, rd := a :: rd })
 | _, _, _ => none
theorem s28 : SoundAt Try.prog 28 k28 := fun args h n c E hc ht => by
 unfold k28 at hc
 split at hc
 · rename_i x a
   rw [vwK_eq] at hc
   simp only [Option.bind_eq_some_iff] at hc
   obtain ⟨⟨rd, m, cs, ok⟩, hv, l, hl, ka, hka, q, hq, he⟩ := hc
   cases he
   simp only [Bool.and_eq_true, decide_eq_true_eq] at ht
   obtain ⟨rfl, hm⟩ := ht
   obtain ⟨rfl, hlm⟩ := unrows_eq (f := Wt.l) (fun c a h => wt4_eq h) hl
   subst hlm
   refine CallOK.viewG (by kernel_rfl) (argsF := [.fz (rows Wt.l l) l.length, .fn 29 [.fp ka.cells 0]]) ⟨vwK_sub hv (rows_bel Wt.bel) (fun c hc => by simp [inl_cons, hc]), VwV.fn ⟨VwV.p (by simp [only, inl_cons, hka]) (by rw [oneB_eq hq]; rfl), trivial⟩, trivial⟩ rfl ?_
   rw [oneB_eq hq]
   exact w28a q l hm
 · rename_i x a
   rw [vwK_eq] at hc
   simp only [Option.bind_eq_some_iff] at hc
   obtain ⟨⟨rd, m, cs, ok⟩, hv, l, hl, ka, hka, q, hq, he⟩ := hc
   cases he
   simp only [Bool.and_eq_true, decide_eq_true_eq, List.all_eq_true] at ht
   obtain ⟨⟨⟨rfl, hm⟩, hn⟩, hx⟩ := ht
   obtain ⟨rfl, hlm⟩ := unrows_eq (f := Wt.l) (fun c a h => wt4_eq h) hl
   subst hlm
   refine CallOK.viewG (by kernel_rfl) (argsF := [.fz (rows Wt.l l) l.length, .fn 31 [.fp ka.cells 0]]) ⟨vwK_sub hv (rows_bel Wt.bel) (fun c hc => by simp [inl_cons, hc]), VwV.fn ⟨VwV.p (by simp [only, inl_cons, hka]) (by rw [oneB_eq hq]; rfl), trivial⟩, trivial⟩ rfl ?_
   rw [oneB_eq hq]
   exact w28b q l hm (inI_t hn) (fun x h => inI_t (hx x h))
 · cases hc
/-! Index, Contains -/
def wtB (a b : Wt) : Bool := (a.sq == b.sq) && ((a.fd == b.fd) && ((a.ak == b.ak) && (a.tr == b.tr)))
theorem wtB_eq {a b : Wt} : wtB a b = true ↔ a = b := by
 obtain ⟨a1, a2, a3, a4⟩ := a
 obtain ⟨b1, b2, b3, b4⟩ := b
 simp [wtB]
theorem w65 (l : List Wt) (y : Wt) (hl : l.length ≤ 1000000000000) : FTL Try.prog 65 [.fz (rows Wt.l l) l.length, .agg y.l] [] 0 (.i .i64 (if l.any (fun x => wtB y x) then (l.findIdx (fun x => wtB y x) : Int) else -1)) [] 0 := by
 refine FTL.of_iw (cx := cxT []) Sound.nil mo Try.func65 i65_eq (by simp [i65]) (iw_of_jw ?_)
 dsimp only [i65]
 have hL : ∀ (k : Nat) x, l[k]? = some x → List.take 4 (List.drop (k * 4) (rows Wt.l l)) = x.l := fun k x hk => rows_at Wt.len hk
 have hLb : ∀ n, belL n (rows Wt.l l) = true := fun n => belL_mono0 _ (rows_bel Wt.bel)
 generalize rows Wt.l l = L at hL hLb
 obtain ⟨y1, y2, y3, y4⟩ := y
 simp (maxSteps := 400000) only [go_sem, Wt.l, simprocAttr]
 refine Loop.countI (F := ⟨Try.prog, cxT [], [9, 16], 19, 0⟩) Sound.nil mo l.length (fun k => ∀ j, j < k → ∀ x, l[j]? = some x → wtB ⟨y1, y2, y3, y4⟩ x = false)
  (fun k => [(0, .fz L l.length), (3, .p 0 0), (7, .i .i64 (l.length : Int)), (8, .i .i64 (k : Int))])
  (fun k => [(0, { cells := [.i .i64 y1, .i .i64 y2, .i .i64 y3, .i .i64 y4] })]) 1 (by decide) (fun j hj => by omega) ?_ ?_ (fun k hk hok => ?_)
 · simp (maxSteps := 400000) only [go_sem, AV.bel, belL, nblt, hLb, simprocAttr]
 · simp (maxSteps := 400000) only [go_sem, AV.bel, belL, nblt, hLb, simprocAttr]
 by_cases hlt : k < l.length
 · have c1 : decide ((k : Int) < (l.length : Int)) = true := decide_eq_true (by omega)
   have c2 : decide (0 ≤ (k : Int) ∧ (k : Int) < (l.length : Int)) = true := decide_eq_true (by omega)
   obtain ⟨x, hx⟩ : ∃ x, l[k]? = some x := ⟨_, List.getElem?_eq_getElem hlt⟩
   have hw : IntKind.i64.wrap ((k : Int) + 1) = ((k + 1 : Nat) : Int) := by rw [wrapL (by omega) (by omega)]; omega
   have hr := hL k x hx
   obtain ⟨x1, x2, x3, x4⟩ := x
   simp only [Wt.l] at hr
   cases he : (y1 == x1) && ((y2 == x2) && ((y3 == x3) && (y4 == x4)))
   · have hwf : wtB ⟨y1, y2, y3, y4⟩ ⟨x1, x2, x3, x4⟩ = false := he
     simp (maxSteps := 400000) only [go_sem, c1, c2, hr, he, hw, hlt, AV.bel, belL, nblt, hLb, simprocAttr]
     intro j hj z hz
     rcases Nat.lt_succ_iff_lt_or_eq.1 hj with h | h
     · exact hok j h z hz
     · subst h; rw [hx] at hz; cases hz; exact hwf
   · have hwf : wtB ⟨y1, y2, y3, y4⟩ ⟨x1, x2, x3, x4⟩ = true := he
     have ha : l.any (fun x => wtB ⟨y1, y2, y3, y4⟩ x) = true := List.any_eq_true.2 ⟨_, List.mem_of_getElem? hx, hwf⟩
     have hi : l.findIdx (fun x => wtB ⟨y1, y2, y3, y4⟩ x) = k := by
      rw [List.findIdx_eq hlt]
      have hg : l[k] = ⟨x1, x2, x3, x4⟩ := by rw [List.getElem?_eq_getElem hlt] at hx; exact Option.some.inj hx
      refine ⟨by rw [hg]; exact hwf, fun j hj => ?_⟩
      have := hok j hj l[j] (List.getElem?_eq_getElem (by omega))
      simpa using this
     rw [ha, if_pos rfl, hi]
     simp (maxSteps := 400000) only [go_sem, c1, c2, hr, he, simprocAttr]
     exact Ends.pureE rfl rfl
 · have c1 : decide ((k : Int) < (l.length : Int)) = false := decide_eq_false (by omega)
   obtain rfl : k = l.length := by omega
   have ha : l.any (fun x => wtB ⟨y1, y2, y3, y4⟩ x) = false := by
    rw [List.any_eq_false]
    intro x hx
    obtain ⟨j, hj⟩ := List.getElem?_of_mem hx
    rw [hok j (List.getElem?_eq_some_iff.1 hj).1 x hj]; simp
   rw [ha]
   simp (maxSteps := 400000) only [go_sem, c1, simprocAttr]
   exact Ends.pureE rfl rfl
def k65 : Ct
 | [.fz L m, .agg c], _, n => (unrows 4 wt4 m L).bind fun l => (wt4 c).bind fun y => some (decide (m ≤ 1000000000000), { v := .i .i64 (if l.any (fun x => wtB y x) then (l.findIdx (fun x => wtB y x) : Int) else -1), n })
 | _, _, _ => none
theorem s65 : SoundAt Try.prog 65 k65 := fun args h n c E hc ht => by
 unfold k65 at hc
 split at hc
 · simp only [Option.bind_eq_some_iff] at hc
   obtain ⟨l, hl, y, hy, he⟩ := hc
   cases he
   obtain ⟨rfl, hlm⟩ := unrows_eq (f := Wt.l) (fun c a h => wt4_eq h) hl
   subst hlm
   rw [wt4_eq hy]
   exact CallOK.pure (by kernel_rfl) (by simp only [belL, AV.bel, rows_bel Wt.bel, y.bel, Bool.and_self]) rfl (w65 l y (of_decide_eq_true ht)) _ _
 · cases hc
def T30 : List (Nat × Ct) := [(65, k65)]
theorem hT30 : Sound Try.prog (cxT T30) := Sound.cons s65 Sound.nil
theorem w30 (l : List Wt) (y : Wt) (hl : l.length ≤ 1000000000000) : FTL Try.prog 30 [.fz (rows Wt.l l) l.length, .agg y.l] [] 0 (.b (l.any fun x => wtB y x)) [] 0 := by
 refine FTL.of_iw hT30 mo Try.func30 i30_eq (by simp [i30]) (iw_of_jw ?_)
 dsimp only [i30, T30]
 have hu : unrows 4 wt4 l.length (rows Wt.l l) = some l := unrows_rows Wt.len wt4_l l
 have h65 : ∀ (h : Hp) n, k65 [.fz (rows Wt.l l) l.length, .agg y.l] h n = some (true, { v := .i .i64 (if l.any (fun x => wtB y x) then (l.findIdx (fun x => wtB y x) : Int) else -1), n }) := fun h n => by
  simp only [k65, hu, wt4_l, Option.bind_some, decide_eq_true hl]
 cases ha : l.any fun x => wtB y x
 · rw [ha] at h65
   obtain ⟨y1, y2, y3, y4⟩ := y
   simp only [Wt.l, Bool.false_eq_true, if_false] at h65 ⊢
   simp (maxSteps := 400000) only [go_sem, h65, simprocAttr]
   exact Ends.pureE rfl rfl
 · rw [ha] at h65
   have c : decide ((List.findIdx (fun x => wtB y x) l : Int) ≥ 0) = true := decide_eq_true (by omega)
   obtain ⟨y1, y2, y3, y4⟩ := y
   simp only [Wt.l, if_true] at h65 ⊢
   generalize List.findIdx (fun x => wtB ⟨y1, y2, y3, y4⟩ x) l = j at *
   simp (maxSteps := 400000) only [go_sem, h65, c, simprocAttr]
   exact Ends.pureE rfl rfl
def k30 : Ct
 | [.fz L m, .agg c], _, n => (unrows 4 wt4 m L).bind fun l => (wt4 c).bind fun y => some (decide (m ≤ 1000000000000), { v := .b (l.any fun x => wtB y x), n })
 | _, _, _ => none
theorem s30 : SoundAt Try.prog 30 k30 := fun args h n c E hc ht => by
 unfold k30 at hc
 split at hc
 · simp only [Option.bind_eq_some_iff] at hc
   obtain ⟨l, hl, y, hy, he⟩ := hc
   cases he
   obtain ⟨rfl, hlm⟩ := unrows_eq (f := Wt.l) (fun c a h => wt4_eq h) hl
   subst hlm
   rw [wt4_eq hy]
   exact CallOK.pure (by kernel_rfl) (by simp only [belL, AV.bel, rows_bel Wt.bel, y.bel, Bool.and_self]) rfl (w30 l y (of_decide_eq_true ht)) _ _
 · cases hc
end Go.Proofs.Res
