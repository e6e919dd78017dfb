/- Texts laid as one: FlzC15 FlzC16 FlzC17 FlzC18. -/
import Derived.Test.YtlokbfkdgnopeaaGreatDoorFlzC10
import Derived.Test.YtlokbfkdgnopeaaGreatDoorFlzSort
import Derived.Test.YtlokbfkdgnopeaaGreatDoorFlzCe
import Derived.Test.YtlokbfkdgnopeaaGreatDoorFltA
import Derived.Test.YtlokbfkdgnopeaaGreatDoorAbShs
section
/- The order of ranges, as SortFunc asks it. -/
namespace Go.Proofs.Flz
open Go Go.Shelf Go.RowKit Go.Lib Go.Sort
set_option maxRecDepth 100000
set_option linter.unusedSimpArgs false
set_option linter.unusedVariables false
def encG (x : Int × Int) : List Value := [.int .i64 x.1, .int .i64 x.2]
set_option maxHeartbeats 1000000 in
theorem closG (x y : Int × Int) (W : World) : Calls Tryz.prog 88 #[.agg #[.int .i64 x.1, .int .i64 x.2], .agg #[.int .i64 y.1, .int .i64 y.2]] W fun e w' => e = .returned (.int .i64 (Lib.compareInt x.1 y.1)) ∧ ∃ q os', w' = grow (W.drewN q) os' := by
 have hcon := fun W' => AnyG.cmp_Compare_int Tryz.cmpInt x.1 y.1 W'
 change ∀ W', Calls Tryz.prog 63 _ _ _ at hcon
 generalize Lib.compareInt x.1 y.1 = r at hcon ⊢
 go_enter Tryz.func88, Tryz.ntmps88
 go_wp2_with (go_at_call 63; refine (hcon _).mono ?_; rintro e w' ⟨rfl, rfl⟩)
 go_ret
 exact ⟨rfl, 0, _, by rw [alloc_eq_grow, alloc_eq_grow, grow_grow]; rfl⟩
theorem cmpLaysG (blk off size : Nat) (w : World) : CmpLays Tryz.prog 88 #[] encG 2 (fun x y => Lib.compareInt x.1 y.1) blk off size w :=
 fun _ _ _ _ x y => closG x y _
theorem ltLo (x y : Int × Int) : ltOf (fun x y : Int × Int => Lib.compareInt x.1 y.1) x y = decide (x.1 < y.1) := by
 unfold ltOf Lib.compareInt
 by_cases h1 : x.1 < y.1
 · simp [h1]
 · by_cases h2 : y.1 < x.1 <;> simp [h1, h2]
theorem swoLo : SWO (ltOf fun x y : Int × Int => Lib.compareInt x.1 y.1) where
 irrefl x := by rw [ltLo]; simp
 trans x y z h1 h2 := by rw [ltLo] at *; simp at *; omega
 ntrans x y z h1 h2 := by rw [ltLo] at *; simp at *; omega
end Go.Proofs.Flz
end
section
/- Contract: SortFunc over ranges that begin at different places. -/
namespace Go.Proofs.Flz
open Go.Ab Go.Proofs.Flt
set_option maxRecDepth 100000
set_option maxHeartbeats 4000000
set_option linter.unusedSimpArgs false
set_option linter.unusedVariables false
theorem sortW (blk off cap : Nat) (d : Array (Int × Int)) (w : World) (hH : Go.Sort.HoldsK encP 2 w blk off d) (hblk : blk < w.heap.size) (hsz : d.size < 4611686018427387904) :
 Calls Tryz.prog 87 #[.slice (some ⟨blk, off, none⟩) d.size cap, .func (.func 88) #[] #[]] w fun e w' =>
  e = .returned (.tuple #[]) ∧ ∃ d' n os, Go.Sort.PermIn 0 d.size d d' ∧ Go.Sort.SortedIn (ltOf fun x y : Int × Int => Lib.compareInt x.1 y.1) 0 d.size d' ∧ w' = Go.Proofs.sortWorldK encP 2 w blk off n d' os := by
 have eg : ∀ args w, (callFunc 88 args).run Tryz.prog w = .ok (.enter 88 args) w := enters_of Tryz.func88 (by kernel_rfl) rfl
 exact AnyQ.slices_SortFunc Tryz.sortG 2 Tryz.isAgg32 Tryz.sizeOf32 encP (fun _ => rfl) (fun x v hv => by simp [encP] at hv; rcases hv with rfl | rfl <;> rfl) (fun x y => Lib.compareInt x.1 y.1) swoLo 88 #[] blk off cap d w eg (cmpLaysG blk off d.size w) hH hblk hsz
def k87 : Ct
 | [.sg b 0 m, .fn 88 []], h, n => (hget h b).bind fun k => (unrows 2 gp2 m k.cells).bind fun l => bif (k.gr == some 2) && (!k.ro && k.gid.isNone) then some (apartB l && decide (l.length < 4611686018427387904), { v := .tup [], n, rd := [b], md := [(b, some { cells := rows gp (isort l), gr := some 2 })] }) else none
 | _, _, _ => none
theorem s87 : SoundAt Tryz.prog 87 k87 := fun args h n c E hc ht => by
 unfold k87 at hc
 split at hc
 · rename_i b m
   simp only [Option.bind_eq_some_iff] at hc
   obtain ⟨k, hb, l, hl, hc⟩ := hc
   obtain ⟨hkc, hm⟩ := unrows_eq (f := gp) (fun c a h => gp2_eq h) hl
   subst hm
   cases hk : ((k.gr == some 2) && (!k.ro && k.gid.isNone)) with
   | false => rw [hk] at hc; cases hc
   | true =>
    rw [hk] at hc
    cases hc
    simp only [Bool.and_eq_true, Bool.not_eq_true', beq_iff_eq, Option.isNone_iff_eq_none] at hk
    obtain ⟨h1, h2, h3⟩ := hk
    obtain ⟨cells, ro, gr, gid⟩ := k
    simp only at h1 h2 h3 hkc
    subst h1 h2 h3 hkc
    simp only [Bool.and_eq_true, decide_eq_true_eq] at ht
    exact CallOK.upd1 (argsL := [.sg 0 0 l.length, .fn 88 []]) (by kernel_rfl) rfl (rows_bel gp_bel) (rows_bel gp_bel) rfl rfl hb
     (srt_ok ltLo sortW (by kernel_rfl) (by decide) ht.2 (fun m hp hs => isort_only ht.1 hp hs))
 · cases hc
end Go.Proofs.Flz
end
section
/- The contract of fill. -/
namespace Go.Proofs.Flz
open Go.Ab Go.Proofs.Flt
set_option maxRecDepth 100000
set_option maxHeartbeats 4000000
set_option linter.unusedSimpArgs false
set_option linter.unusedVariables false
theorem FTLx.of_seamX {f : FuncId} {P : Program} {fn : Func} {I : IFn} {cx : Cx} {args : List AV} {pn : Option Value} {n : Nat} {h : Hp} {v2 : AV} {h2 : Hp} {n2 : Nat} (hf : P.funcs[f]? = some fn) (hI : compF P fn = some I) (hnp : args.length ≤ I.N)
 (hi : Seam ⟨P, cx, I.ct, I.N, n⟩ I.code (retX I.res fun p v h' n' => p = pn ∧ CovS n v h' n' v2 h2 n2) (argEnv 0 args) h n) : FTLx P f args h n pn v2 h2 n2 :=
 FTLx.of_wpC Cov.covs hf hI hnp (fun c hc => hi c hc)
def filB (h : Flt.Hf) (p : Pc) : Bool := gotB h.ln none h.got && (((h.bd.length : Int) == h.ln) && (inW h.ln 4000 && (wholeB p && decide (0 ≤ p.ofs))))
def filP (r : Option Flt.Hf) : Option Value := match r with
 | some _ => none
 | none => some (refV 5)
theorem fil_no {h : Flt.Hf} {p : Pc} {k : Nat} {x : Int × Int} (hx : h.got[k]? = some x) (ha : agreeB h p x = false) : fillS h p = none := by
 have : h.got.all (agreeB h p) = false := by
  rw [List.all_eq_false]
  exact ⟨x, List.mem_of_getElem? hx, by rw [ha]; decide⟩
 unfold fillS
 rw [this, Bool.and_false, Bool.and_false, cond_false]
def TC17 : List (Nat × Ct) := [(59, k59), (87, k87)]
theorem hTC17 : Sound Tryz.prog (cxT TC17) := Sound.cons s59 (Sound.cons s87 Sound.nil)
noncomputable abbrev F17 : Fx := ⟨Tryz.prog, cxT TC17, [45, 109, 121, 135], 163, 1⟩
theorem w65 (h : Flt.Hf) (p : Pc) (hc : filB h p = true) : FTLx Tryz.prog 65 [.p 0 0, .agg p.l] [(0, { cells := h.l })] 1 (filP (fillS h p)) (.tup []) [(0, { cells := ((fillS h p).getD h).l })] 1 := by
 simp only [filB, Bool.and_eq_true, decide_eq_true_eq, beq_iff_eq] at hc
 obtain ⟨hg, hbl, hln, hw, hpo⟩ := hc
 obtain ⟨kd, ln, sq, bd, got⟩ := h
 obtain ⟨pk, pl, ps, po, pt⟩ := p
 dsimp only at hg hbl hpo hln
 have hln := inW_t hln
 simp only [wholeB, Bool.and_eq_true, decide_eq_true_eq, beq_iff_eq] at hw
 obtain ⟨hw1, hw2, hw3, hw4⟩ := hw
 have hb := fun j => grB j got
 have hGr := fun ψ => grR ψ got
 have hno : ∀ k x, got[k]? = some x → agreeB ⟨kd, ln, sq, bd, got⟩ ⟨pk, pl, ps, po, pt⟩ x = false → fillS ⟨kd, ln, sq, bd, got⟩ ⟨pk, pl, ps, po, pt⟩ = none := fun k x hx ha => fil_no hx ha
 obtain ⟨R, hR⟩ : ∃ R, R = fillS ⟨kd, ln, sq, bd, got⟩ ⟨pk, pl, ps, po, pt⟩ := ⟨_, rfl⟩
 rw [← hR] at hno ⊢
 obtain ⟨Z, hZ⟩ : ∃ Z, Z = (R.getD ⟨kd, ln, sq, bd, got⟩).l := ⟨_, rfl⟩
 have hZ0 : R = none → Z = [.i .i64 kd, .i .i64 ln, .i .i64 sq, .s bd, .fz (rows gp got) got.length] := fun h => by rw [hZ, h]; rfl
 rw [← hZ]
 refine FTLx.of_seamX (cx := cxT TC17) Tryz.func65 i65_eq (by simp [i65]) ?_
 dsimp only [i65]
 refine Seam.part (F := F17) hTC17 mo ?_
 dsimp only [F17, TC17]
 simp (maxSteps := 400000) only [go_sem, Pc.l, Flt.Hf.l, simprocAttr]
 refine Seam.part (F := F17) hTC17 mo ?_
 dsimp only [F17, TC17]
 cases c1 : (kd == pk)
 · have : fillS ⟨kd, ln, sq, bd, got⟩ ⟨pk, pl, ps, po, pt⟩ = none := by simp [fillS, c1]
   rw [this] at hR
   subst hR
   rw [hZ0 rfl]
   simp (maxSteps := 400000) only [go_sem, k59, c1, AV.bel, belL, nblt, hb, simprocAttr]
   exact ⟨rfl, CovS.ends (Ends.keep1 rfl rfl (by simp only [belL, AV.bel, hb]; rfl) rfl rfl)⟩
 cases c2 : (ln == pl)
 · have : fillS ⟨kd, ln, sq, bd, got⟩ ⟨pk, pl, ps, po, pt⟩ = none := by simp [fillS, c1, c2]
   rw [this] at hR
   subst hR
   rw [hZ0 rfl]
   simp (maxSteps := 400000) only [go_sem, k59, c1, c2, AV.bel, belL, nblt, hb, simprocAttr]
   exact ⟨rfl, CovS.ends (Ends.keep1 rfl rfl (by simp only [belL, AV.bel, hb]; rfl) rfl rfl)⟩
 simp (maxSteps := 400000) only [go_sem, k59, c1, c2, AV.bel, belL, nblt, hb, simprocAttr]
 have hlp : ln = pl := by simpa using c2
 have w1 : IntKind.i64.wrap (po + (pt.length : Int)) = po + (pt.length : Int) := wrapL (by omega) (by omega)
 refine Seam.part (F := F17) hTC17 mo ?_
 dsimp only [F17, TC17]
 simp (maxSteps := 400000) only [go_sem, w1, simprocAttr]
 refine Seam.part (F := F17) hTC17 mo ?_
 dsimp only [F17, TC17]
 simp (maxSteps := 400000) only [go_sem, AV.bel, belL, nblt, hb, simprocAttr]
 have hgl := got_len hg hln.1
 have hGk : ∀ k x, got[k]? = some x → List.take 2 (List.drop (k * 2) (rows gp got)) = gp x := fun k x hx => rows_at gp_len hx
 have zR : (rows gp got).length = got.length * 2 := rows_len gp_len
 refine Loop.countI (F := F17) hTC17 mo got.length (fun k => ∀ j x, j < k → got[j]? = some x → agreeB ⟨kd, ln, sq, bd, got⟩ ⟨pk, pl, ps, po, pt⟩ x = true)
  (fun k => [(44, .i .i64 (k : Int)), (43, .i .i64 (got.length : Int)), (42, .fz (rows gp got) got.length), (4, .i .i64 (po + (pt.length : Int))), (3, .p 1 0), (0, .p 0 0)])
  (fun k => [(0, { cells := [.i .i64 kd, .i .i64 ln, .i .i64 sq, .s bd, .fz (rows gp got) got.length] }), (1, { cells := [.i .i64 pk, .i .i64 pl, .i .i64 ps, .i .i64 po, .s pt] })]) 2 (by decide) (fun j x hj => absurd hj (by omega)) ?_ ?_ (fun k hk hok => ?_)
 · simp (maxSteps := 400000) only [go_sem, AV.bel, belL, nblt, hb, simprocAttr]
 · simp (maxSteps := 400000) only [go_sem, AV.bel, belL, nblt, hb, simprocAttr]
 dsimp only [F17, TC17]
 by_cases hlt : k < got.length
 · obtain ⟨x, hx⟩ : ∃ x, got[k]? = some x := ⟨_, List.getElem?_eq_getElem hlt⟩
   have hr := hGk k x hx
   obtain ⟨q1, q2, q3, _⟩ := got_at hg hx
   have c1' : decide ((k : Int) < (got.length : Int)) = true := decide_eq_true (by omega)
   have c2' : decide (0 ≤ (k : Int) ∧ (k : Int) < (got.length : Int)) = true := decide_eq_true (by omega)
   have hwr : IntKind.i64.wrap ((k : Int) + 1) = ((k + 1 : Nat) : Int) := by rw [wrapL (by omega) (by omega)]; omega
   have hno := hno k x hx
   have hag : agreeB ⟨kd, ln, sq, bd, got⟩ ⟨pk, pl, ps, po, pt⟩ x = (decide (max x.1 po ≥ min x.2 (po + (pt.length : Int))) || ((bd.drop (max x.1 po).toNat).take (min x.2 (po + (pt.length : Int)) - max x.1 po).toNat == (pt.drop (max x.1 po - po).toNat).take (min x.2 (po + (pt.length : Int)) - max x.1 po).toNat)) := rfl
   have hstep : agreeB ⟨kd, ln, sq, bd, got⟩ ⟨pk, pl, ps, po, pt⟩ x = true → ∀ j y, j < k + 1 → got[j]? = some y → agreeB ⟨kd, ln, sq, bd, got⟩ ⟨pk, pl, ps, po, pt⟩ y = true := fun h j y hj hy => by
    rcases Nat.lt_or_ge j k with h1 | h1
    · exact hok j y h1 hy
    · have : j = k := by omega
      subst this; rw [hx] at hy; cases hy; exact h
   obtain ⟨x1, x2⟩ := x
   dsimp only at *
   simp only [gp] at hr
   have a1 : po ≤ max x1 po := by omega
   have a2 : min x2 (po + (pt.length : Int)) ≤ po + (pt.length : Int) := by omega
   have a3 : min x2 (po + (pt.length : Int)) ≤ ln := by omega
   generalize hA : max x1 po = a at *
   generalize hB : min x2 (po + (pt.length : Int)) = b at *
   cases d1 : decide (a ≥ b)
   · rw [d1, Bool.false_or] at hag
     have d1' := of_decide_eq_false d1
     have w2 : IntKind.i64.wrap (a - po) = a - po := wrapL (by omega) (by omega)
     have w3 : IntKind.i64.wrap (b - po) = b - po := wrapL (by omega) (by omega)
     have s1 : decide (0 ≤ a ∧ a ≤ b ∧ b ≤ (bd.length : Int)) = true := decide_eq_true (by omega)
     have s2 : decide (0 ≤ a - po ∧ a - po ≤ b - po ∧ b - po ≤ (pt.length : Int)) = true := decide_eq_true (by omega)
     have e1 : (bd.drop a.toNat).take (b - a).toNat = List.drop a.toNat (List.take b.toNat bd) := by rw [List.drop_take]; congr 1; omega
     have e2 : (pt.drop (a - po).toNat).take (b - a).toNat = List.drop (a - po).toNat (List.take (b - po).toNat pt) := by rw [List.drop_take]; congr 1; omega
     rw [e1, e2] at hag
     generalize hu : List.drop a.toNat (List.take b.toNat bd) = U at *
     generalize hv : List.drop (a - po).toNat (List.take (b - po).toNat pt) = V at *
     cases d2 : (U == V)
     · have hRn := hno (hag.trans d2)
       rw [hRn, hZ0 hRn]
       simp (maxSteps := 400000) only [go_sem, k59, hA, hB, c1', c2', hr, d1, d2, w2, w3, s1, s2, hu, hv, AV.bel, belL, nblt, hb, simprocAttr]
       exact ⟨rfl, CovS.ends (Ends.keep1 rfl rfl (by simp only [belL, AV.bel, hb]; rfl) rfl rfl)⟩
     · have hst := hstep (hag.trans d2)
       simp (maxSteps := 400000) only [go_sem, k59, hA, hB, c1', c2', hr, d1, d2, w2, w3, s1, s2, hu, hv, hwr, AV.bel, belL, nblt, hb, simprocAttr]
       exact ⟨hlt, hst⟩
   · rw [d1, Bool.true_or] at hag
     have hst := hstep hag
     simp (maxSteps := 400000) only [go_sem, k59, hA, hB, c1', c2', hr, d1, hwr, AV.bel, belL, nblt, hb, simprocAttr]
     exact ⟨hlt, hst⟩
 have hkl : k = got.length := by omega
 subst hkl
 have hall : got.all (agreeB ⟨kd, ln, sq, bd, got⟩ ⟨pk, pl, ps, po, pt⟩) = true := by
  rw [List.all_eq_true]
  intro x hx
  obtain ⟨j, hj, rfl⟩ := List.getElem_of_mem hx
  exact hok j _ hj (List.getElem?_eq_getElem hj)
 have c1' : decide ((got.length : Int) < (got.length : Int)) = false := decide_eq_false (by omega)
 simp (maxSteps := 400000) only [go_sem, c1', simprocAttr]
 clear c1' hok hk hlt hno
 have hRs : R = some ⟨kd, ln, sq, bd.take po.toNat ++ pt ++ bd.drop (po.toNat + pt.length), if pt = [] then got else gotS got (po, po + pt.length)⟩ := by
  rw [hR]
  simp only [fillS, c1, c2, hall, Bool.and_self, cond_true]
 have hZ1 : Z = [.i .i64 kd, .i .i64 ln, .i .i64 sq, .s (bd.take po.toNat ++ pt ++ bd.drop (po.toNat + pt.length)), .fz (rows gp (if pt = [] then got else gotS got (po, po + pt.length))) (if pt = [] then got else gotS got (po, po + pt.length)).length] := by rw [hZ, hRs]; rfl
 have hP : filP R = none := by rw [hRs]; rfl
 rw [hP]
 clear hR hZ hZ0 hP hRs
 have s1 : decide (0 ≤ po ∧ po ≤ (bd.length : Int)) = true := decide_eq_true (by omega)
 have s2 : decide (0 ≤ po + (pt.length : Int) ∧ po + (pt.length : Int) ≤ (bd.length : Int)) = true := decide_eq_true (by omega)
 have e1 : List.drop (po + (pt.length : Int)).toNat bd = bd.drop (po.toNat + pt.length) := by
  rw [show (po + (pt.length : Int)).toNat = po.toNat + pt.length by omega]
 have l1 : (bd.take po.toNat).length = po.toNat := by rw [List.length_take]; omega
 have l2 : (bd.drop (po.toNat + pt.length)).length = bd.length - (po.toNat + pt.length) := by rw [List.length_drop]
 have l3 : decide (po.toNat + pt.length ≤ 9223372036854775807) = true := decide_eq_true (by omega)
 have l4 : decide (po.toNat + pt.length + (bd.length - (po.toNat + pt.length)) ≤ 9223372036854775807) = true := decide_eq_true (by omega)
 generalize hB1 : bd.take po.toNat = B1 at *
 generalize hB3 : bd.drop (po.toNat + pt.length) = B3 at *
 refine Seam.part (F := F17) hTC17 mo ?_
 dsimp only [F17, TC17]
 simp (maxSteps := 400000) only [go_sem, s1, s2, e1, hB1, l1, l2, l3, l4, List.length_append, AV.bel, belL, nblt, hb, simprocAttr]
 refine Seam.part (F := F17) hTC17 mo ?_
 dsimp only [F17, TC17]
 by_cases hpt : pt = []
 · have c3 : (pt == ([] : List UInt8)) = true := by rw [hpt]; rfl
   rw [if_pos hpt] at hZ1
   rw [hZ1]
   simp (maxSteps := 400000) only [go_sem, c3, AV.bel, belL, nblt, hb, simprocAttr]
   exact CovS.ends (Ends.keep1 rfl rfl (by simp only [belL, AV.bel, hb]; rfl) rfl rfl)
 have c3 : (pt == ([] : List UInt8)) = false := by simpa using hpt
 rw [if_neg hpt] at hZ1
 simp (maxSteps := 400000) only [go_sem, c3, AV.bel, belL, nblt, hb, simprocAttr]
 refine Seam.part (F := F17) hTC17 mo ?_
 dsimp only [F17, TC17]
 simp (maxSteps := 400000) only [go_sem, AV.bel, belL, nblt, hb, simprocAttr]
 refine Seam.part (F := F17) hTC17 mo ?_
 dsimp only [F17, TC17]
 simp (maxSteps := 400000) only [go_sem, AV.bel, belL, nblt, hb, simprocAttr]
 refine Seam.part (F := F17) hTC17 mo ?_
 dsimp only [F17, TC17]
 simp (maxSteps := 400000) only [go_sem, AV.bel, belL, nblt, hb, simprocAttr]
 obtain ⟨S, hS⟩ : ∃ S : Nat → List (Int × Int) × (Int × Int), S = fun k => (got.take k).foldl grow1 ([], (po, po + (pt.length : Int))) := ⟨_, rfl⟩
 have hS0 : S 0 = ([], (po, po + (pt.length : Int))) := by rw [hS]; rfl
 have hSs : ∀ k x, got[k]? = some x → S (k + 1) = grow1 (S k) x := fun k x hx => by
  rw [hS]
  obtain ⟨h1, rfl⟩ := List.getElem?_eq_some_iff.1 hx
  show (got.take (k + 1)).foldl _ _ = _
  rw [← List.take_append_getElem h1, List.foldl_append]
  rfl
 have hSl : ∀ k, k ≤ got.length → (S k).1.length ≤ k := fun k => by
  induction k with
  | zero => intro _; rw [hS0]; exact Nat.le_refl _
  | succ k ih =>
   intro hk
   rw [hSs k _ (List.getElem?_eq_getElem (show k < got.length by omega))]
   have := ih (by omega)
   unfold grow1
   cases meetB (S k).2 got[k]
   · rw [cond_false, List.length_append]; simpa using this
   · rw [cond_true]; show (S k).1.length ≤ k + 1; omega
 have hSg : gotS got (po, po + (pt.length : Int)) = putG (S got.length).2 (S got.length).1 := by
  have : S got.length = got.foldl grow1 ([], (po, po + (pt.length : Int))) := by rw [hS]; show (got.take got.length).foldl _ _ = _; rw [List.take_length]
  rw [this]; rfl
 rw [hSg] at hZ1
 have hSr : apartB ((S got.length).1 ++ [(S got.length).2]) = true ∧ isort ((S got.length).1 ++ [(S got.length).2]) = putG (S got.length).2 (S got.length).1 := by
  have h1 : S got.length = got.foldl grow1 ([], (po, po + (pt.length : Int))) := by rw [hS]; show (got.take got.length).foldl _ _ = _; rw [List.take_length]
  have h2 : 0 < pt.length := List.length_pos_iff.2 hpt
  rw [h1]
  exact got_srt hg (by show po < po + (pt.length : Int); omega)
 clear hS hSg hg hall
 have gqN : gQ gp 2 ([] : List (Int × Int)) = .nil := rfl
 have gqC : ∀ l : List (Int × Int), l ≠ [] → gQ gp 2 l = .sg { cells := rows gp l, gr := some 2 } 0 l.length := fun l h => by unfold gQ; rw [if_neg (by simpa using h)]
 refine Loop.stepR (F := F17) hTC17 mo (X := Nat) (fun k => k ≤ got.length) (fun k => got.length - k)
  (fun k => [(0, .p 0 0), (9, .p 2 0), (10, (gQ gp 2 (S k).1).v 3), (118, .fz (rows gp got) got.length), (119, .i .i64 (got.length : Int)), (120, .i .i64 (k : Int))])
  (fun k => (gQ gp 2 (S k).1).h 3 ++ [(2, { cells := gp (S k).2 }), (0, { cells := [.i .i64 kd, .i .i64 ln, .i .i64 sq, .s (B1 ++ pt ++ B3), .fz (rows gp got) got.length] })]) 4 0 (fun k => k + 1) [] (fun k => match got[k]? with | some x => bif meetB (S k).2 x then [] else [(3, 6)] | none => []) (by decide) (by decide) (fun k => by
   cases got[k]? with
   | none => show rnOK [] 1 4 = true; decide
   | some x => show rnOK (bif meetB (S k).2 x then [] else [(3, 6)]) 1 4 = true; cases meetB (S k).2 x <;> decide) (Nat.zero_le _) ?_ ?_ (fun k hk => ?_)
 · simp (maxSteps := 400000) only [go_sem, hS0, gqN, AV.ren, renL, AV.bel, belL, nblt, hb, hGr, simprocAttr]
 · simp (maxSteps := 400000) only [go_sem, hS0, gqN, gp, AV.ren, renL, AV.bel, belL, nblt, Blk.ren, hb, hGr, simprocAttr]
 dsimp only [F17, TC17]
 by_cases hlt : k < got.length
 · obtain ⟨x, hx⟩ : ∃ x, got[k]? = some x := ⟨_, List.getElem?_eq_getElem hlt⟩
   have hr := hGk k x hx
   have c4 : decide ((k : Int) < (got.length : Int)) = true := decide_eq_true (by omega)
   have c5 : decide (0 ≤ (k : Int) ∧ (k : Int) < (got.length : Int)) = true := decide_eq_true (by omega)
   have hwr : IntKind.i64.wrap ((k : Int) + 1) = ((k + 1 : Nat) : Int) := by rw [wrapL (by omega) (by omega)]; omega
   have hl := hSl k hk
   have hs1 := hSs k x hx
   have hsk : got.length - (k + 1) < got.length - k := by omega
   rw [hs1, hx]
   rcases hSk : S k with ⟨l, r1, r2⟩
   rw [hSk] at hl
   obtain ⟨x1, x2⟩ := x
   dsimp only at hl ⊢
   simp only [gp] at hr
   have gm : decide (16 * (l.length + 1) ≤ growMax) = true := decide_eq_true (by simp only [growMax]; omega)
   have zL : (rows gp l).length = l.length * 2 := rows_len gp_len
   have hk1 : (k + 1 ≤ got.length) = True := eq_true (by omega)
   have gm1 : decide (16 ≤ growMax) = true := by decide
   have lap : rows gp (l ++ [(x1, x2)]) = rows gp l ++ [.i .i64 x1, .i .i64 x2] := by rw [rows_append]; rfl
   have lbx : ∀ j, belL j (rows gp l ++ [.i .i64 x1, .i .i64 x2]) = true := fun j => by rw [← lap]; exact grB j _
   have lrx : ∀ ψ, renL ψ (rows gp l ++ [.i .i64 x1, .i .i64 x2]) = rows gp l ++ [.i .i64 x1, .i .i64 x2] := fun ψ => by rw [← lap]; exact grR ψ _
   have lb := fun j => grB j l
   have lr := fun ψ => grR ψ l
   cases m1 : decide (x2 < r1)
   · cases m2 : decide (x1 > r2)
     · have hm : meetB (r1, r2) (x1, x2) = true := by simp only [meetB, m1, m2]; rfl
       have hgr : grow1 (l, r1, r2) (x1, x2) = (l, min r1 x1, max r2 x2) := by unfold grow1; rw [hm]; rfl
       rw [hgr, hm]
       dsimp only [cond_true]
       by_cases hln0 : l = []
       · subst hln0
         simp (maxSteps := 400000) only [go_sem, gqN, gp, c4, c5, hwr, hr, m1, m2, hlt, hsk, hk1, gm1, AV.bel, belL, nblt, Blk.ren, renL, AV.ren, hb, hGr, simprocAttr]
       · rw [gqC l hln0]
         simp (maxSteps := 400000) only [go_sem, gp, c4, c5, hwr, hr, m1, m2, hlt, hsk, hk1, gm1, lb, lr, AV.bel, belL, nblt, Blk.ren, renL, AV.ren, hb, hGr, simprocAttr]
     · have hm : meetB (r1, r2) (x1, x2) = false := by simp only [meetB, m1, m2]; rfl
       have hgr : grow1 (l, r1, r2) (x1, x2) = (l ++ [(x1, x2)], r1, r2) := by unfold grow1; rw [hm]; rfl
       rw [hgr, hm]
       dsimp only [cond_false]
       rw [gQ_snoc]
       simp only [gS, gp]
       by_cases hln0 : l = []
       · subst hln0
         simp (maxSteps := 400000) only [go_sem, gqN, gp, c4, c5, hwr, hr, m1, m2, hlt, hsk, hk1, gm1, rows_nil, gm, AV.bel, belL, nblt, Blk.ren, renL, AV.ren, hb, hGr, simprocAttr]
       · rw [gqC l hln0]
         simp (maxSteps := 400000) only [go_sem, gp, c4, c5, hwr, hr, m1, m2, hlt, hsk, hk1, gm1, lbx, lrx, lb, lr, zL, gm, AV.bel, belL, nblt, Blk.ren, renL, AV.ren, hb, hGr, simprocAttr]
   · have hm : meetB (r1, r2) (x1, x2) = false := by simp only [meetB, m1]; rfl
     have hgr : grow1 (l, r1, r2) (x1, x2) = (l ++ [(x1, x2)], r1, r2) := by unfold grow1; rw [hm]; rfl
     rw [hgr, hm]
     dsimp only [cond_false]
     rw [gQ_snoc]
     simp only [gS, gp]
     by_cases hln0 : l = []
     · subst hln0
       simp (maxSteps := 400000) only [go_sem, gqN, gp, c4, c5, hwr, hr, m1, hlt, hsk, hk1, gm1, rows_nil, gm, AV.bel, belL, nblt, Blk.ren, renL, AV.ren, hb, hGr, simprocAttr]
     · rw [gqC l hln0]
       simp (maxSteps := 400000) only [go_sem, gp, c4, c5, hwr, hr, m1, hlt, hsk, hk1, gm1, lbx, lrx, lb, lr, zL, gm, AV.bel, belL, nblt, Blk.ren, renL, AV.ren, hb, hGr, simprocAttr]
 have hkl : k = got.length := by omega
 subst hkl
 have c4 : decide ((got.length : Int) < (got.length : Int)) = false := decide_eq_false (by omega)
 simp (maxSteps := 400000) only [go_sem, c4, simprocAttr]
 have hl := hSl _ hk
 rcases hSk : S got.length with ⟨l, r1, r2⟩
 rw [hSk] at hl hZ1 hSr
 dsimp only at hl hZ1 hSr ⊢
 have gm : decide (16 * (l.length + 1) ≤ growMax) = true := decide_eq_true (by simp only [growMax]; omega)
 have gm1 : decide (16 ≤ growMax) = true := by decide
 have zL : (rows gp l).length = l.length * 2 := rows_len gp_len
 obtain ⟨hap, hso⟩ : apartB (l ++ [(r1, r2)]) = true ∧ isort (l ++ [(r1, r2)]) = putG (r1, r2) l := hSr
 have lap : rows gp (l ++ [(r1, r2)]) = rows gp l ++ [.i .i64 r1, .i .i64 r2] := by rw [rows_append]; rfl
 have lpl : (putG (r1, r2) l).length = l.length + 1 := (putG_perm _ _).length_eq
 have hu : unrows 2 gp2 (l.length + 1) (rows gp (l ++ [(r1, r2)])) = some (l ++ [(r1, r2)]) := by
  have := unrows_rows gp_len gp2_l (l ++ [(r1, r2)])
  rwa [List.length_append] at this
 have hll : decide ((l ++ [(r1, r2)]).length < 4611686018427387904) = true := decide_eq_true (by rw [List.length_append]; simp; omega)
 have hsrt : ∀ (h : Hp) n, hget h 5 = some { cells := rows gp (l ++ [(r1, r2)]), gr := some 2 } → k87 [.sg 5 0 (l.length + 1), .fn 88 []] h n = some (true, { v := .tup [], n, rd := [5], md := [(5, some { cells := rows gp (putG (r1, r2) l), gr := some 2 })] }) := fun h n hb => by
  simp only [k87, hb, Option.bind_some, hu, hap, hso, hll]
  rfl
 rw [lpl] at hZ1
 have tail : Seam F17 (.seq (.reg i65r23) (.reg i65r24)) (retX [] fun p v h' n' => p = none ∧ CovS 1 v h' n' (.tup []) [(0, { cells := Z })] 1) [(0, .p 0 0), (10, .sg 5 0 (l.length + 1))] [(5, { cells := rows gp (l ++ [(r1, r2)]), gr := some 2 }), (0, { cells := [.i .i64 kd, .i .i64 ln, .i .i64 sq, .s (B1 ++ pt ++ B3), .fz (rows gp got) got.length] })] 6 := by
  refine Seam.part (F := F17) hTC17 mo ?_
  dsimp only [F17, TC17]
  generalize rows gp (l ++ [(r1, r2)]) = G0 at *
  simp (maxSteps := 400000) only [go_sem, hsrt, AV.bel, belL, nblt, simprocAttr]
  refine Seam.run (F := F17) hTC17 mo ?_
  dsimp only [F17, TC17]
  simp (maxSteps := 400000) only [go_sem, AV.bel, belL, nblt, simprocAttr]
  rw [hZ1]
  refine CovS.frzH (b := 5) (o := 0) (m := l.length + 1) (x := .sg 5 0 (l.length + 1)) (cs := rows gp (putG (r1, r2) l)) (v' := .tup []) (h' := [(0, { cells := [.i .i64 kd, .i .i64 ln, .i .i64 sq, .s (B1 ++ pt ++ B3), .fz (rows gp (putG (r1, r2) l)) (l.length + 1)] })]) rfl rfl (.inr rfl) (.inl rfl) FzV.refl ?_ ?_
  · exact ⟨⟨by decide, _, rfl, rfl, rfl, rfl, FzV.refl, FzV.refl, FzV.refl, FzV.refl, FzV.hit, trivial⟩, trivial⟩
  · exact CovS.ends (Ends.keep1 rfl rfl (by simp only [belL, AV.bel, grB]; rfl) rfl rfl)
 refine Seam.part (F := F17) hTC17 mo ?_
 dsimp only [F17, TC17]
 by_cases hln0 : l = []
 · subst hln0
   rw [gqN]
   simp (maxSteps := 400000) only [go_sem, gp, rows_nil, gm, gm1, AV.bel, belL, nblt, simprocAttr]
   exact Seam.ren [] tail (by decide) (by decide) (by simp (maxSteps := 400000) only [go_sem, AV.bel, belL, nblt, AV.ren, renL, simprocAttr]) (by rw [lap]; simp (maxSteps := 400000) only [go_sem, rows_nil, AV.bel, belL, nblt, AV.ren, renL, Blk.ren, hb, hGr, simprocAttr])
 · rw [gqC l hln0]
   simp (maxSteps := 400000) only [go_sem, gp, zL, gm, AV.bel, belL, nblt, simprocAttr]
   have lbx : ∀ j, belL j (rows gp l ++ [.i .i64 r1, .i .i64 r2]) = true := fun j => by rw [← lap]; exact grB j _
   have lrx : ∀ ψ, renL ψ (rows gp l ++ [.i .i64 r1, .i .i64 r2]) = rows gp l ++ [.i .i64 r1, .i .i64 r2] := fun ψ => by rw [← lap]; exact grR ψ _
   exact Seam.ren [] tail (by decide) (by decide) (by simp (maxSteps := 400000) only [go_sem, AV.bel, belL, nblt, AV.ren, renL, simprocAttr]) (by rw [lap]; simp (maxSteps := 400000) only [go_sem, lbx, lrx, AV.bel, belL, nblt, AV.ren, renL, Blk.ren, hb, hGr, simprocAttr])
end Go.Proofs.Flz
end
section
/- fill, as it is called. -/
namespace Go.Proofs.Flz
open Go.Ab Go.Proofs.Flt
set_option maxRecDepth 100000
set_option maxHeartbeats 4000000
set_option linter.unusedSimpArgs false
set_option linter.unusedVariables false
theorem CallOK.upd1X {P : Program} {f : FuncId} {argsL : List AV} {pn : Option Value} {v : AV} {k k' : Blk} {b n : Nat} {h : Hp} (hc : Go.Ab.callable P f = true) (ha : belL 1 argsL = true) (hk : belL 0 k.cells = true) (hk' : belL 0 k'.cells = true) (hro : k'.ro = false) (hv : v.bel 0 = true) (hb : hget h b = some k)
 (hf : FTLx P f argsL [(0, k)] 1 pn v [(0, k')] 1) : CallOK P f (renL (fun _ => b) argsL) h n { v, n, rd := [b], md := [(b, some k')], pn } := by
 have hkr : k.ren (fun _ => b) = k := by simp only [Blk.ren, renL_fix0 k.cells hk]
 have h0 : ∀ c kk, hget [(0, k)] c = some kk → c = 0 ∧ kk = k := fun c kk hh => by
  simp only [hget] at hh
  by_cases hc : c = 0
  · subst hc; simp at hh; exact ⟨rfl, hh.symm⟩
  · rw [beq_ne hc] at hh; simp at hh
 have hbel1 : belL 1 k.cells = true := belL_mono0 _ hk
 refine CallOK.of_FTLx (ψ := fun _ => b) hc hf rfl (Nat.le_refl _) ha (fun c hc => ⟨k, by rw [show c = 0 by omega]; rfl⟩) (fun c kk hh => ?_) rfl (fun c kk hh => ?_) (fun b1 b2 k1 k2 h1 h2 _ _ => ?_) (by simp) (ren_fix0 _ hv).symm (fun c r hh => ?_) (fun c kk hh => by simp [hget] at hh) (fun c kk hh => ?_)
 · obtain ⟨rfl, rfl⟩ := h0 c kk hh
   exact ⟨by omega, hbel1⟩
 · obtain ⟨rfl, rfl⟩ := h0 c kk hh
   rw [hkr]
   simp [only, inl, hb]
 · rw [(h0 b1 k1 h1).1, (h0 b2 k2 h2).1]
 · simp only [mget] at hh
   by_cases hcb : c = b
   · subst hcb; simp [inl]
   · rw [beq_ne hcb] at hh; simp at hh
 · simp only [Eff.app, mget, hget] at hh
   by_cases hcb : c = b
   · subst hcb
     simp at hh
     subst hh
     exact ⟨0, k', rfl, by omega, by simp, by simp only [Blk.ren, renL_fix0 k'.cells hk'], fun h => by rw [hro] at h; cases h⟩
   · simp only [only, inl, Bool.or_false, beq_ne hcb, beq_ne (fun e => hcb e.symm), cond_false] at hh
     cases hh
def pc5 : List AV → Option Pc
 | [.i .i64 a, .i .i64 b, .i .i64 c, .i .i64 d, .s e] => some ⟨a, b, c, d, e⟩
 | _ => none
theorem pc5_l (x : Pc) : pc5 x.l = some x := rfl
theorem pc5_eq {c : List AV} {x : Pc} (h : pc5 c = some x) : c = x.l := by
 unfold pc5 at h
 split at h
 · cases h; rfl
 · cases h
def k65 : Ct
 | [.p b 0, .agg c], h, n => (pc5 c).bind fun p => (hget h b).bind fun k => (hf5 k.cells).bind fun x => bif k.gr.isNone && (!k.ro && k.gid.isNone) then some (filB x p, { v := .tup [], n, rd := [b], md := [(b, some { cells := ((fillS x p).getD x).l })], pn := filP (fillS x p) }) else none
 | _, _, _ => none
theorem s65 : SoundAt Tryz.prog 65 k65 := fun args h n c E hc ht => by
 unfold k65 at hc
 split at hc
 · rename_i b cc
   simp only [Option.bind_eq_some_iff] at hc
   obtain ⟨p, hp, k, hb, x, hx, hc⟩ := hc
   cases hk : (k.gr.isNone && (!k.ro && k.gid.isNone)) with
   | false => rw [hk] at hc; cases hc
   | true =>
    rw [hk] at hc
    cases hc
    simp only [Bool.and_eq_true, Bool.not_eq_true', Option.isNone_iff_eq_none] at hk
    obtain ⟨h1, h2, h3⟩ := hk
    have hkc := hf5_eq hx
    obtain ⟨cells, ro, gr, gid⟩ := k
    simp only at h1 h2 h3 hkc
    subst h1 h2 h3 hkc
    rw [pc5_eq hp]
    exact CallOK.upd1X (argsL := [.p 0 0, .agg p.l]) (by kernel_rfl) rfl x.bel (Flt.Hf.bel _) rfl rfl hb (w65 x p ht)
 · cases hc
end Go.Proofs.Flz
end
