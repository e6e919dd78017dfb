/- Texts laid as one: ResC12 ResC13 ResC14. -/
import Derived.Test.YthnmkedknannhaaResCd
section
/- Contracts of both Saws; SameWants, Round, Steps. -/
namespace Go.Proofs.Res
open Go.Ab
set_option maxRecDepth 100000
set_option maxHeartbeats 4000000
set_option linter.unusedSimpArgs false
set_option linter.unusedVariables false

def k13 : Ct
  | [.agg c, .i .i64 now, .i .i64 seq], _, n => (wsA c).bind fun w => some (decide (w.l.length ≤ 1000000000000), { v := rsV (sawS w now seq), n })
  | _, _, _ => none
theorem rsV_bel (r : Ws × Int) : (rsV r).bel 0 = true := by simp only [rsV, AV.bel, belL, Ws.bel, Bool.and_self]
theorem s13 : SoundAt Try.prog 13 k13 := fun args h n c E hc ht => by
  unfold k13 at hc
  split at hc
  · simp only [Option.bind_eq_some_iff] at hc
    obtain ⟨w, hw, he⟩ := hc
    cases he
    obtain ⟨h1, h2⟩ := wsA_k hw
    exact CallOK.pure (by kernel_rfl) (by simp only [belL, AV.bel, h2, Bool.and_self]) (rsV_bel _) (FTL.wkaH h1 (w13 w _ _ (of_decide_eq_true ht))) _ _
  · cases hc
theorem s14 : SoundAt Try.prog 14 k13 := fun args h n c E hc ht => by
  unfold k13 at hc
  split at hc
  · simp only [Option.bind_eq_some_iff] at hc
    obtain ⟨w, hw, he⟩ := hc
    cases he
    obtain ⟨h1, h2⟩ := wsA_k hw
    exact CallOK.pure (by kernel_rfl) (by simp only [belL, AV.bel, h2, Bool.and_self]) (rsV_bel _) (FTL.wkaH h1 (w14 w _ _ (of_decide_eq_true ht))) _ _
  · cases hc
/-! SameWants of the same. -/
theorem w15 (w : Ws) (hl : w.l.length ≤ 1000000000000) : FTL Try.prog 15 [.agg w.a, .agg w.a] [] 0 (.b true) [] 0 := by
  obtain ⟨ti, st, tp, l⟩ := w
  have hLb : belL 2 (rows Wt.l l) = true := belL_mono0 _ (rows_bel Wt.bel)
  dsimp only at hl
  simp only [Ws.a]
  refine FTL.of_iw Sound.nil mo Try.func15 i15_eq (by simp [i15]) (iw_of_jw ?_)
  dsimp only [i15]
  have n1 : (ti != ti) = false := by simp
  have n2 : (tp != tp) = false := by simp
  have n3 : ((l.length : Int) != (l.length : Int)) = false := by simp
  have n4 : (st == st) = true := by simp
  simp (config := { maxSteps := 400000 }) only [go_sem, n1, n2, n3, n4, simprocAttr]
  refine Loop.countI (F := ⟨Try.prog, cxT [], [33, 38, 51], 52, 0⟩) Sound.nil mo l.length (fun _ => True)
    (fun k => [(2, .p 0 0), (3, .p 1 0), (5, .i .i64 (k : Int))])
    (fun k => [(1, { cells := [.i .i64 ti, .b st, .i .i64 tp, .fz (rows Wt.l l) l.length] }), (0, { cells := [.i .i64 ti, .b st, .i .i64 tp, .fz (rows Wt.l l) l.length] })]) 2 (by decide) trivial ?_ ?_ (fun k hk _ => ?_)
  · simp (config := { maxSteps := 400000 }) only [go_sem, AV.bel, belL, nblt, hLb, simprocAttr]
  · simp (config := { maxSteps := 400000 }) only [go_sem, AV.bel, belL, nblt, hLb, simprocAttr]
  by_cases hlt : k < l.length
  · have c1 : decide ((k : Int) < (l.length : Int)) = true := decide_eq_true (by omega)
    have c2 : decide (0 ≤ (k : Int) ∧ (k : Int) < (l.length : Int)) = true := decide_eq_true (by omega)
    have hw : IntKind.i64.wrap ((k : Int) + 1) = ((k + 1 : Nat) : Int) := by rw [wrapL (by omega) (by omega)]; omega
    obtain ⟨x, hx⟩ : ∃ x, l[k]? = some x := ⟨_, List.getElem?_eq_getElem hlt⟩
    have hr := wt_at hx
    obtain ⟨sq, fd, ak, tr⟩ := x
    have e1 : (sq == sq) = true := by simp
    have e2 : (fd == fd) = true := by simp
    have e3 : (ak == ak) = true := by simp
    have e4 : (tr == tr) = true := by simp
    simp (config := { maxSteps := 400000 }) only [go_sem, c1, c2, hr, Wt.l, e1, e2, e3, e4, hw, hlt, AV.bel, belL, nblt, hLb, simprocAttr]
  · have c1 : decide ((k : Int) < (l.length : Int)) = false := decide_eq_false (by omega)
    simp (config := { maxSteps := 400000 }) only [go_sem, c1, simprocAttr]
    exact Ends.pureE rfl rfl
noncomputable def weq (w w' : Ws) : Bool := @decide (w = w') (Classical.propDecidable _)
theorem weq_r {w : Ws} : weq w w = true := by simp [weq]
noncomputable def k15 : Ct
  | [.agg c, .agg d], _, n => (wsA c).bind fun w => (wsA d).bind fun w' => some (decide (w.l.length ≤ 1000000000000) && weq w w', { v := .b true, n })
  | _, _, _ => none
theorem s15 : SoundAt Try.prog 15 k15 := fun args h n c E hc ht => by
  unfold k15 at hc
  split at hc
  · rename_i c d
    simp only [Option.bind_eq_some_iff] at hc
    obtain ⟨w, hw, w', hw', he⟩ := hc
    cases he
    obtain ⟨h1, h2⟩ := wsA_k hw
    obtain ⟨h3, h4⟩ := wsA_k hw'
    simp only [Bool.and_eq_true, weq, decide_eq_true_eq] at ht
    obtain ⟨ht, rfl⟩ := ht
    exact CallOK.pure (by kernel_rfl) (by simp only [belL, AV.bel, h2, h4, Bool.and_self]) rfl (FTL.wka (xs := [.agg c, .agg d]) (ys := [.agg w.a, .agg w.a]) ⟨h1, h3, trivial⟩ (w15 w ht)) _ _
  · cases hc
/-! Drafts -/
structure Ev where
  wh : Int
  wa : Int
  st : Int
def Ev.l (x : Ev) : List AV := [.i .u8 x.wh, .i .u16 x.wa, .i .i8 x.st]
def Ev.ok (x : Ev) : Bool := inI 0 255 x.wh && (inI 0 65535 x.wa && inI (-128) 127 x.st)
theorem Ev.len (x : Ev) : x.l.length = 3 := rfl
theorem Ev.bel (x : Ev) : belL 0 x.l = true := rfl
structure Dr where
  sq : Int
  tr : Int
  ev : List Ev
def Dr.a (d : Dr) : List AV := [.i .u16 d.sq, .i .u16 d.tr, .fz (rows Ev.l d.ev) d.ev.length]
theorem Dr.bel (d : Dr) : belL 0 d.a = true := by simp only [Dr.a, belL, AV.bel, rows_bel Ev.bel, Bool.and_self]
structure Dr.ok (d : Dr) : Prop where
  sq : inI 0 65535 d.sq = true
  tr : inI 0 65535 d.tr = true
  ev : ∀ x ∈ d.ev, x.ok = true
def evN (l : List Ev) (k : Nat) : Ev := match l[k]? with | some x => x | none => ⟨0, 0, 0⟩
theorem evN_at {l : List Ev} {k : Nat} {x : Ev} (h : l[k]? = some x) : evN l k = x := by simp only [evN, h]
def atN (l : List Ev) (a : Int) : Nat → Int
  | 0 => a
  | k + 1 => bif decide ((evN l k).st > 0) then (atN l a k + (evN l k).st + 65536).tmod 65536 else atN l a k
def seqN (l : List Ev) (a : Int) (k : Nat) : Int := (atN l a k + (evN l k).st + 65536).tmod 65536
theorem evN_ok {l : List Ev} (h : ∀ x ∈ l, x.ok = true) (k : Nat) : (evN l k).ok = true := by
  unfold evN
  split
  · exact h _ (List.mem_of_getElem? (by assumption))
  · rfl
theorem Ev.rng {x : Ev} (h : x.ok = true) : (0 ≤ x.wh ∧ x.wh ≤ 255) ∧ (0 ≤ x.wa ∧ x.wa ≤ 65535) ∧ (-128 ≤ x.st ∧ x.st ≤ 127) := by
  simp only [Ev.ok, Bool.and_eq_true] at h
  exact ⟨inI_t h.1, inI_t h.2.1, inI_t h.2.2⟩
theorem atN_rng {l : List Ev} {a : Int} (h : ∀ x ∈ l, x.ok = true) (ha : 0 ≤ a ∧ a ≤ 65535) : ∀ k, 0 ≤ atN l a k ∧ atN l a k ≤ 65535
  | 0 => ha
  | k + 1 => by
    have := atN_rng h ha k
    have he := Ev.rng (evN_ok h k)
    rw [atN]
    cases decide ((evN l k).st > 0)
    · exact this
    · show 0 ≤ (atN l a k + (evN l k).st + 65536).tmod 65536 ∧ (atN l a k + (evN l k).st + 65536).tmod 65536 ≤ 65535
      rw [Int.tmod_eq_emod_of_nonneg (by omega)]; omega
def stepsL (d : Dr) : List Int := mapN (seqN d.ev d.sq) (min d.ev.length 40)
def roundS (d : Dr) : Int := 1 + d.tr.tmod 400
theorem roundS_rng {d : Dr} (hd : d.ok) : 1 ≤ roundS d ∧ roundS d ≤ 400 := by
  have := inI_t hd.tr
  unfold roundS
  rw [Int.tmod_eq_emod_of_nonneg (by omega)]; omega
theorem w17 (d : Dr) (hd : d.ok) : FTL Try.prog 17 [.agg d.a] [] 0 (.i .i64 (roundS d)) [] 0 := by
  have h1 := inI_t hd.tr
  obtain ⟨sq, tr, ev⟩ := d
  dsimp only at h1
  simp only [Dr.a, roundS]
  have h2 : 0 ≤ tr.tmod 400 ∧ tr.tmod 400 < 400 := by rw [Int.tmod_eq_emod_of_nonneg (by omega)]; omega
  have m1 : IntKind.u16.wrap (tr.tmod 400) = tr.tmod 400 := by rw [wrapU16]; omega
  have m2 : IntKind.i64.wrap (tr.tmod 400) = tr.tmod 400 := wrapL (by omega) (by omega)
  have m3 : IntKind.i64.wrap (1 + tr.tmod 400) = 1 + tr.tmod 400 := wrapL (by omega) (by omega)
  refine FTL.of_iw Sound.nil mo Try.func17 i17_eq (by simp [i17]) (iw_of_jw ?_)
  dsimp only [i17]
  simp (config := { maxSteps := 400000 }) only [go_sem, m1, m2, m3, simprocAttr]
  exact Ends.pureE rfl rfl
def I1 (x : Int) : List AV := [.i .i64 x]
theorem I1.len (x : Int) : (I1 x).length = 1 := rfl
theorem I1.bel (x : Int) : belL 0 (I1 x) = true := rfl
theorem gIp (q : List Int) : (gQ I1 1 q).plain = true := (gQ_is (f := I1) I1.bel I1.len q).pl
theorem gIcap (q : List Int) : (gQ I1 1 q).capOK := by unfold gQ; split <;> trivial
theorem erB {l : List Ev} (n : Nat) : belL n (rows Ev.l l) = true := belL_mono0 _ (rows_bel Ev.bel)
theorem erR {l : List Ev} (g : Nat → Nat) : renL g (rows Ev.l l) = rows Ev.l l := renL_fix0 _ (rows_bel Ev.bel)
theorem w27 (d : Dr) (hd : d.ok) : FTL Try.prog 27 [.agg d.a] [] 0 (.fz (rows I1 (stepsL d)) (stepsL d).length) [] 0 := by
  have h1 := inI_t hd.sq
  have hev := hd.ev
  have hst : stepsL d = mapN (seqN d.ev d.sq) (min d.ev.length 40) := rfl
  obtain ⟨sq, tr, ev⟩ := d
  dsimp only at h1 hev hst
  generalize stepsL ⟨sq, tr, ev⟩ = sl at *
  simp only [Dr.a]
  have m1 : IntKind.i64.wrap sq = sq := wrapL (by omega) (by omega)
  have hlen : min ev.length 40 ≤ 40 := Nat.min_le_right _ _
  have hle : min ev.length 40 ≤ ev.length := Nat.min_le_left _ _
  have hge : ev.length = min ev.length 40 ∨ min ev.length 40 = 40 := by omega
  have hat := atN_rng (a := sq) hev h1
  have hat0 : atN ev sq 0 = sq := rfl
  generalize min ev.length 40 = M at *
  refine FTL.of_cov Sound.nil mo Try.func27 i27_eq (by simp [i27]) (iw_of_jw ?_)
  dsimp only [i27]
  simp (config := { maxSteps := 400000 }) only [go_sem, m1, simprocAttr]
  refine Loop.stepR (F := ⟨Try.prog, cxT [], [19, 35], 42, 0⟩) Sound.nil mo (X := Nat) (fun k => k ≤ M) (fun k => M - k)
    (fun k => [(1, .p 0 0), (3, (gQ I1 1 (mapN (seqN ev sq) k)).v 1), (4, .i .i64 (atN ev sq k)), (5, .i .i64 (k : Int))])
    (fun k => (gQ I1 1 (mapN (seqN ev sq) k)).h 1 ++ [(0, { cells := [.i .u16 sq, .i .u16 tr, .fz (rows Ev.l ev) ev.length] })]) 2 0 (fun k => k + 1) [] (fun _ => [(1, 3)]) (by decide) (by decide) (fun k => by decide) (Nat.zero_le _) ?_ ?_ (fun k hk => ?_)
  · simp (config := { maxSteps := 400000 }) only [go_sem, mapN_z, hat0, erB, gQ_nil, fv_n, AV.bel, belL, nblt, AV.ren, renL, simprocAttr]
  · simp (config := { maxSteps := 400000 }) only [go_sem, mapN_z, gQ_nil, fh_n, AV.bel, belL, nblt, Blk.ren, AV.ren, renL, erB, erR, simprocAttr]
  by_cases hlt : k < M
  · have c1 : decide ((k : Int) < (ev.length : Int)) = true := decide_eq_true (by omega)
    have c3 : decide ((k : Int) < 40) = true := decide_eq_true (by omega)
    have c2 : decide (0 ≤ (k : Int) ∧ (k : Int) < (ev.length : Int)) = true := decide_eq_true (by omega)
    have hw : IntKind.i64.wrap ((k : Int) + 1) = ((k + 1 : Nat) : Int) := by rw [wrapL (by omega) (by omega)]; omega
    obtain ⟨x, hx⟩ : ∃ x, ev[k]? = some x := ⟨_, List.getElem?_eq_getElem (by omega)⟩
    have hr0 : (rows Ev.l ev)[k * 3 + 2]? = some (.i .i8 x.st) := rows_get (f := Ev.l) (z := 3) (j := 2) (v := .i .i8 x.st) Ev.len hx rfl
    have hxr := (Ev.rng (hev x (List.mem_of_getElem? hx))).2.2
    have hsk : M - (k + 1) < M - k := by omega
    have hms : mapN (seqN ev sq) (k + 1) = mapN (seqN ev sq) k ++ [(atN ev sq k + x.st + 65536).tmod 65536] := by rw [mapN_s, seqN, evN_at hx]
    have has : atN ev sq (k + 1) = bif decide (x.st > 0) then (atN ev sq k + x.st + 65536).tmod 65536 else atN ev sq k := by rw [atN, evN_at hx]
    rw [hms, has]
    have hql : (mapN (seqN ev sq) k).length ≤ 40 := by rw [mapN_len]; omega
    have hak := hat k
    generalize mapN (seqN ev sq) k = q at *
    generalize atN ev sq k = at_ at *
    have gm : decide (8 * (q.length + 1) ≤ growMax) = true := decide_eq_true (by simp only [growMax]; omega)
    have zR : (rows I1 q).length = q.length * 1 := rows_len I1.len
    have pk := gIp q
    have e1 : IntKind.i64.wrap x.st = x.st := wrapL (by omega) (by omega)
    have e2 : IntKind.i64.wrap (at_ + x.st) = at_ + x.st := wrapL (by omega) (by omega)
    have e3 : IntKind.i64.wrap (at_ + x.st + 65536) = at_ + x.st + 65536 := wrapL (by omega) (by omega)
    have e5 : 0 ≤ (at_ + x.st + 65536).tmod 65536 ∧ (at_ + x.st + 65536).tmod 65536 ≤ 65535 := by rw [Int.tmod_eq_emod_of_nonneg (by omega)]; omega
    generalize x.st = s at *
    have pk' := gIp (q ++ [(at_ + s + 65536).tmod 65536])
    rw [gQ_snoc] at pk' ⊢
    have e4 : IntKind.i64.wrap ((at_ + s + 65536).tmod 65536) = (at_ + s + 65536).tmod 65536 := wrapL (by omega) (by omega)
    simp only [I1] at pk'
    cases hs : decide (s > 0)
    all_goals
      simp (config := { maxSteps := 400000 }) only [go_sem, c1, c2, c3, hw, hr0, hs, e1, e2, e3, e4, gm, zR, pk, pk', hsk, hlt, AV.bel, belL, nblt, Blk.ren, renL, AV.ren, erB, erR, I1, Nat.add_zero, simprocAttr]
      exact hlt
  · have c1 : decide ((k : Int) < (ev.length : Int)) = true ∨ decide ((k : Int) < (ev.length : Int)) = false := by cases decide ((k : Int) < (ev.length : Int)) <;> simp
    obtain rfl : k = M := by omega
    rw [← hst]
    have hfr := gQ_fresh (f := I1) (z := 1) sl
    have pk := gIp sl
    have fin : ∀ (h : Hp) (n : Nat), hasS h (gQ I1 1 sl) 1 → CovS 0 ((gQ I1 1 sl).v 1) h n (.fz (rows I1 sl) sl.length) [] 0 := fun h n hk => by
      refine CovS.frzS (h' := []) (v' := .fz (rows I1 sl) sl.length) (gQ_is (f := I1) I1.bel I1.len sl) hfr (gIcap sl) hk FzV.hit (fun c kk hc => by simp [hget] at hc) ?_
      exact CovS.ends (Ends.pureE (by simp only [AV.bel, rows_bel I1.bel]) rfl)
    rcases c1 with c1 | c1
    · have c3 : decide ((k : Int) < 40) = false := decide_eq_false (by have := of_decide_eq_true c1; omega)
      simp (config := { maxSteps := 400000 }) only [go_sem, c1, c3, pk, simprocAttr]
      exact fin _ _ (by simp [hasS_cons, hasS_hit, hasS_hit0])
    · simp (config := { maxSteps := 400000 }) only [go_sem, c1, pk, simprocAttr]
      exact fin _ _ (by simp [hasS_cons, hasS_hit, hasS_hit0])
end Go.Proofs.Res
end
section
/- Contracts of Ask and the reference's Ask. -/
namespace Go.Proofs.Res
open Go.Ab
set_option maxRecDepth 100000
set_option maxHeartbeats 4000000
set_option linter.unusedSimpArgs false
set_option linter.unusedVariables false

def askX (now trip : Int) (x : Wt) : Wt := bif decide (dueS x trip ≤ now) then ⟨x.sq, x.fd, now, x.tr + 1⟩ else x
def stayB (now trip : Int) (x : Wt) : Bool := !decide (endS x trip ≤ now)
def askL (now trip : Int) (l : List Wt) : List Wt := (l.filter (stayB now trip)).map (askX now trip)
def askN (now trip : Int) (l : List Wt) : List Int := ((l.filter (stayB now trip)).filter (fun x => decide (dueS x trip ≤ now))).map Wt.sq
def askU (now trip : Int) (l : List Wt) : Bool := l.any (fun x => decide (endS x trip ≤ now))
abbrev Asked := Ws × List Int × Bool × Int
def askS (w : Ws) (now trip : Int) : Asked :=
  if lateS w now = 0 then bif inI 1 2000 trip then (⟨now, w.st, w.tp, askL now trip w.l⟩, askN now trip w.l, askU now trip w.l, 0) else (zW, [], false, 2)
  else (zW, [], false, lateS w now)
def askV (r : Asked) : AV := .tup [.agg r.1.a, .fz (rows I1 r.2.1) r.2.1.length, .b r.2.2.1, .i .i64 r.2.2.2]
theorem askV_bel (r : Asked) : (askV r).bel 0 = true := by simp only [askV, AV.bel, belL, Ws.bel, rows_bel I1.bel, Bool.and_self]
theorem askL_s {now trip : Int} {l : List Wt} {k : Nat} {x : Wt} (h : l[k]? = some x) : askL now trip (l.take (k + 1)) = askL now trip (l.take k) ++ (if stayB now trip x then [askX now trip x] else []) := by
  rw [askL, snoc_f h, List.map_append]
  split <;> simp [askL]
theorem askN_s {now trip : Int} {l : List Wt} {k : Nat} {x : Wt} (h : l[k]? = some x) : askN now trip (l.take (k + 1)) = askN now trip (l.take k) ++ (if stayB now trip x then (if decide (dueS x trip ≤ now) then [x.sq] else []) else []) := by
  rw [askN, snoc_f h, List.filter_append, List.map_append]
  split
  · split <;> simp_all [askN]
  · simp [askN]
theorem askU_s {now trip : Int} {l : List Wt} {k : Nat} {x : Wt} (h : l[k]? = some x) : askU now trip (l.take (k + 1)) = (askU now trip (l.take k) || decide (endS x trip ≤ now)) := by
  rw [askU, List.take_add_one, h, List.any_append]
  simp [askU]
theorem cov_nn {ti tp e : Int} {st up : Bool} {h : Hp} {n : Nat} : CovS 0 (.tup [.agg [.i .i64 ti, .b st, .i .i64 tp, .ns], .ns, .b up, .i .i64 e]) h n (askV (⟨ti, st, tp, []⟩, [], up, e)) [] 0 := by
  refine CovS.frzN (l := []) (v' := askV (⟨ti, st, tp, []⟩, [], up, e)) (FzV.tup ⟨FzV.agg ⟨FzV.refl, FzV.refl, FzV.refl, FzV.hit, trivial⟩, FzV.hit, FzV.refl, FzV.refl, trivial⟩) ?_
  exact CovS.ends (Ends.pureE rfl rfl)
theorem cov_qq {ti tp e : Int} {st up : Bool} {h : Hp} {n : Nat} {q : List Wt} {ns : List Int} {b c : Nat} (hk : hasS h (gQ Wt.l 4 q) b) (hk2 : hasS h (gQ I1 1 ns) c) (hbc : b ≠ c) : CovS 0 (.tup [.agg [.i .i64 ti, .b st, .i .i64 tp, (gQ Wt.l 4 q).v b], (gQ I1 1 ns).v c, .b up, .i .i64 e]) h n (askV (⟨ti, st, tp, q⟩, ns, up, e)) [] 0 := by
  refine CovS.frzS (h' := (gQ I1 1 ns).h c) (v' := .tup [.agg (Ws.a ⟨ti, st, tp, q⟩), (gQ I1 1 ns).v c, .b up, .i .i64 e]) (gQ_is (f := Wt.l) Wt.bel Wt.len q) (gQ_fresh q) (gQcap q) hk (FzV.tup ⟨FzV.agg ⟨FzV.refl, FzV.refl, FzV.refl, FzV.hit, trivial⟩, FzV.refl, FzV.refl, FzV.refl, trivial⟩) (fun d kk hc => ⟨fun hdb => ?_, hk2 _ _ hc⟩) ?_
  · subst hdb
    unfold gQ at hc
    split at hc
    · simp [Sh.h, hget] at hc
    · simp only [Sh.h, hget] at hc
      have h1 : c.beq d = false := by
        cases hcd : c.beq d
        · rfl
        · exact absurd (Nat.eq_of_beq_eq_true hcd).symm hbc
      rw [h1] at hc
      cases hc
  · refine CovS.frzS (h' := []) (v' := askV (⟨ti, st, tp, q⟩, ns, up, e)) (gQ_is (f := I1) I1.bel I1.len ns) (gQ_fresh ns) (gIcap ns) (fun _ _ h => h) (FzV.tup ⟨FzV.refl, FzV.hit, FzV.refl, FzV.refl, trivial⟩) (fun c kk hc => by simp [hget] at hc) ?_
    exact CovS.ends (Ends.pureE (askV_bel _) rfl)
def T13 : List (Nat × Ct) := [(59, k54), (62, k60), (63, k61)]
theorem hT13 : Sound Try.prog (cxT T13) := Sound.cons s59 (Sound.cons s62 (Sound.cons s63 Sound.nil))
theorem chk_ok {at_ tp : Int} {l : List Wt} {last : Int} (h : chk at_ tp last l = true) (ht : at_ ≤ 1099511627776) : ∀ x ∈ l, okX x = true := fun x hx => wantB_ok (chk_sq h x hx) ht
theorem w21 (w : Ws) (now trip : Int) (hl : w.l.length ≤ 1000000000000) : FTL Try.prog 21 [.agg w.a, .i .i64 now, .i .i64 trip] [] 0 (askV (askS w now trip)) [] 0 := by
  have hwa := wsA_a w
  have hll : decide (w.l.length ≤ 1000000000000) = true := decide_eq_true hl
  have hgd : lateS w now = 0 → goodB w = true := fun h => by
    unfold lateS at h
    cases hg : goodB w
    · rw [hg] at h; simp at h
    · rfl
  generalize hRR : askS w now trip = R
  unfold askS at hRR
  generalize hL : lateS w now = E at hRR hgd
  obtain ⟨ti, st, tp, l⟩ := w
  dsimp only at hRR hl hll
  simp only [Ws.a] at hwa ⊢
  refine FTL.of_cov (cx := cxT T13) hT13 mo Try.func21 i21_eq (by simp [i21]) (iw_of_jw ?_)
  dsimp only [i21, T13]
  by_cases hE : E = 0
  rotate_left
  · have e1 : (E != 0) = true := by simp [bne, hE]
    rw [if_neg hE] at hRR
    simp (config := { maxSteps := 400000 }) only [go_sem, k54, hwa, hll, hL, e1, simprocAttr]
    rw [← hRR]
    exact cov_nn
  have hg := hgd hE
  subst hE
  rw [if_pos rfl] at hRR
  have e1 : ((0 : Int) != 0) = false := rfl
  cases b1 : decide (trip < 1)
  rotate_left
  · have a1 : inI 1 2000 trip = false := by simp only [inI]; rw [decide_eq_false (by have := of_decide_eq_true b1; omega)]; rfl
    rw [a1] at hRR
    simp (config := { maxSteps := 400000 }) only [go_sem, k54, hwa, hll, hL, e1, b1, simprocAttr]
    rw [← hRR]
    exact cov_nn
  cases b2 : decide (trip > 2000)
  rotate_left
  · have a1 : inI 1 2000 trip = false := by simp only [inI]; rw [decide_eq_false (p := trip ≤ 2000) (by have := of_decide_eq_true b2; omega), Bool.and_false]
    rw [a1] at hRR
    simp (config := { maxSteps := 400000 }) only [go_sem, k54, hwa, hll, hL, e1, b1, b2, simprocAttr]
    rw [← hRR]
    exact cov_nn
  have a1 : inI 1 2000 trip = true := inI_of (by have := of_decide_eq_false b1; have := of_decide_eq_false b2; omega)
  rw [a1] at hRR
  have hhd : headB ⟨ti, st, tp, l⟩ = true ∧ chk ti tp (-1001) l = true := by
    simp only [goodB, Bool.and_eq_true] at hg; exact hg
  obtain ⟨hti, a2, hl64⟩ := headB_t hhd.1
  have hok := chk_ok hhd.2 hti.2
  have hwb := fun x hx => wantB_sq (chk_sq hhd.2 x hx)
  dsimp only at hl64 hti
  simp (config := { maxSteps := 400000 }) only [go_sem, k54, hwa, hll, hL, e1, b1, b2, simprocAttr]
  refine Loop.stepR (F := ⟨Try.prog, cxT T13, [20, 28, 34, 46, 51], 74, 0⟩) hT13 mo (X := Nat) (fun k => k ≤ l.length) (fun k => l.length - k)
    (fun k => [(1, .i .i64 now), (2, .i .i64 trip), (3, .p 0 0), (6, .p 1 0), (11, (gQ Wt.l 4 (askL now trip (l.take k))).v 2), (12, (gQ I1 1 (askN now trip (l.take k))).v 3), (13, .b (askU now trip (l.take k))), (14, .i .i64 (k : Int))])
    (fun k => (gQ Wt.l 4 (askL now trip (l.take k))).h 2 ++ ((gQ I1 1 (askN now trip (l.take k))).h 3 ++ [(1, { cells := [.i .i64 0, .b false, .i .i64 0, .ns] }), (0, { cells := [.i .i64 ti, .b st, .i .i64 tp, .fz (rows Wt.l l) l.length] })])) 4 0 (fun k => k + 1) []
    (fun k => match l[k]? with | some x => if endS x trip ≤ now then [] else if dueS x trip ≤ now then [(3, 6), (2, 8)] else [(2, 6)] | none => []) (by decide) (by decide) (fun k => by split <;> (try split) <;> (try split) <;> decide) (Nat.zero_le _) ?_ ?_ (fun k hk => ?_)
  · simp (config := { maxSteps := 400000 }) only [go_sem, askL, askN, askU, List.take_zero, List.filter_nil, List.map_nil, List.any_nil, gQ_nil, fv_n, AV.bel, belL, nblt, AV.ren, renL, simprocAttr]
  · simp (config := { maxSteps := 400000 }) only [go_sem, askL, askN, askU, List.take_zero, List.filter_nil, List.map_nil, List.any_nil, gQ_nil, fh_n, AV.bel, belL, nblt, Blk.ren, AV.ren, renL, wrB, wrR, simprocAttr]
  dsimp only [T13]
  by_cases hlt : k < l.length
  · have c1 : decide ((k : Int) < (l.length : Int)) = true := decide_eq_true (by omega)
    have c2 : decide (0 ≤ (k : Int) ∧ (k : Int) < (l.length : Int)) = true := decide_eq_true (by omega)
    have hw : IntKind.i64.wrap ((k : Int) + 1) = ((k + 1 : Nat) : Int) := by rw [wrapL (by omega) (by omega)]; omega
    obtain ⟨x, hx⟩ : ∃ x, l[k]? = some x := ⟨_, List.getElem?_eq_getElem hlt⟩
    have hr := wt_at hx
    have hsn := askL_s (now := now) (trip := trip) hx
    have hsN := askN_s (now := now) (trip := trip) hx
    have hsU := askU_s (now := now) (trip := trip) hx
    have hsk : l.length - (k + 1) < l.length - k := by omega
    have hxo := hok x (List.mem_of_getElem? hx)
    have hfl : (askL now trip (l.take k)).length ≤ 64 := by
      rw [askL, List.length_map]; exact Nat.le_trans (List.length_filter_le _ _) (Nat.le_trans (List.length_take_le _ _) (by omega))
    have hnl : (askN now trip (l.take k)).length ≤ 64 := by
      rw [askN, List.length_map]; exact Nat.le_trans (List.length_filter_le _ _) (Nat.le_trans (List.length_filter_le _ _) (Nat.le_trans (List.length_take_le _ _) (by omega)))
    rw [hsn, hsN, hsU, hx]
    dsimp only
    generalize askL now trip (l.take k) = q at *
    generalize askN now trip (l.take k) = ns at *
    generalize askU now trip (l.take k) = up at *
    have gm : decide (32 * (q.length + 1) ≤ growMax) = true := decide_eq_true (by simp only [growMax]; omega)
    have gm2 : decide (8 * (ns.length + 1) ≤ growMax) = true := decide_eq_true (by simp only [growMax]; omega)
    have zR : (rows Wt.l q).length = q.length * 4 := rows_len Wt.len
    have zR2 : (rows I1 ns).length = ns.length * 1 := rows_len I1.len
    have pk := gQp q
    have pk2 := gIp ns
    have hwt : IntKind.i64.wrap (x.tr + 1) = x.tr + 1 := by
      simp only [okX, Bool.and_eq_true] at hxo
      have := inI_t hxo.1.1.2
      exact wrapL (by omega) (by omega)
    have hk61 : ∀ (h : Hp) n, k61 [.agg x.l, .i .i64 trip] h n = some (true, { v := .i .i64 (endS x trip), n }) := fun h n => by simp only [k61, wt4_l, Option.bind_some, hxo, a1, Bool.and_self]
    have hk60 : ∀ (h : Hp) n, k60 [.agg x.l, .i .i64 trip] h n = some (true, { v := .i .i64 (dueS x trip), n }) := fun h n => by simp only [k60, wt4_l, Option.bind_some, hxo, a1, Bool.and_self]
    have hax : askX now trip x = bif decide (dueS x trip ≤ now) then ⟨x.sq, x.fd, now, x.tr + 1⟩ else x := rfl
    have hsb : stayB now trip x = !decide (endS x trip ≤ now) := rfl
    rw [hax, hsb]
    generalize endS x trip = en at *
    generalize dueS x trip = du at *
    cases h1 : decide (en ≤ now)
    · have h1' := of_decide_eq_false h1
      cases h2 : decide (du ≤ now)
      · have h2' := of_decide_eq_false h2
        have pk' := gQp (q ++ [x])
        simp only [h1, h2, h1', h2', Bool.not_false, Bool.or_false, cond_false, if_true, if_false, Bool.false_eq_true, List.append_nil]
        rw [gQ_snoc] at pk' ⊢
        obtain ⟨sq, fd, ak, tr⟩ := x
        simp only [Wt.l] at pk' hr hk60 hk61
        simp (config := { maxSteps := 400000 }) only [go_sem, c1, c2, hw, hr, hk60, hk61, h1, h2, gm, zR, pk, pk', pk2, hsk, hlt, AV.bel, belL, nblt, Blk.ren, renL, AV.ren, wrB, wrR, Wt.l, Nat.add_zero, simprocAttr]
        exact hlt
      · have h2' := of_decide_eq_true h2
        have pk' := gQp (q ++ [⟨x.sq, x.fd, now, x.tr + 1⟩])
        have pk3 := gIp (ns ++ [x.sq])
        simp only [h1, h2, h1', h2', Bool.not_false, Bool.or_false, cond_true, if_true, if_false, Bool.false_eq_true]
        rw [gQ_snoc] at pk' pk3
        rw [gQ_snoc, gQ_snoc]
        obtain ⟨sq, fd, ak, tr⟩ := x
        simp only [Wt.l, I1] at pk' pk3 hr hk60 hk61 hwt
        simp (config := { maxSteps := 400000 }) only [go_sem, c1, c2, hw, hr, hk60, hk61, h1, h2, hwt, gm, gm2, zR, zR2, pk, pk', pk2, pk3, hsk, hlt, AV.bel, belL, nblt, Blk.ren, renL, AV.ren, wrB, wrR, Wt.l, I1, Nat.add_zero, simprocAttr]
        exact hlt
    · have h1' := of_decide_eq_true h1
      simp only [h1, h1', Bool.not_true, Bool.or_true, if_true, if_false, Bool.false_eq_true, List.append_nil]
      obtain ⟨sq, fd, ak, tr⟩ := x
      simp only [Wt.l] at hr hk60 hk61
      simp (config := { maxSteps := 400000 }) only [go_sem, c1, c2, hw, hr, hk61, h1, pk, pk2, hsk, hlt, AV.bel, belL, nblt, Blk.ren, renL, AV.ren, wrB, wrR, Wt.l, Nat.add_zero, simprocAttr]
      exact hlt
  · have c1 : decide ((k : Int) < (l.length : Int)) = false := decide_eq_false (by omega)
    obtain rfl : k = l.length := by omega
    rw [List.take_length]
    rw [← hRR]
    generalize askL now trip l = q at *
    generalize askN now trip l = ns at *
    generalize askU now trip l = up at *
    have pk := gQp q
    have pk2 := gIp ns
    simp (config := { maxSteps := 400000 }) only [go_sem, c1, pk, pk2, simprocAttr]
    exact cov_qq (by simp [hasS_cons, hasS_hit, hasS_hit0, hasS_skip]) (by simp [hasS_cons, hasS_hit, hasS_hit0, hasS_skip]) (by decide)
end Go.Proofs.Res
end
section
/- The contract of Ask. -/
namespace Go.Proofs.Res
open Go.Ab
set_option maxRecDepth 100000
set_option maxHeartbeats 4000000
set_option linter.unusedSimpArgs false
set_option linter.unusedVariables false

def T14 : List (Nat × Ct) := [(49, k49), (54, k54), (60, k60), (61, k61)]
theorem hT14 : Sound Try.prog (cxT T14) := Sound.cons s49 (Sound.cons s54 (Sound.cons s60 (Sound.cons s61 Sound.nil)))
theorem w20 (w : Ws) (now trip : Int) (hl : w.l.length ≤ 1000000000000) : FTL Try.prog 20 [.agg w.a, .i .i64 now, .i .i64 trip] [] 0 (askV (askS w now trip)) [] 0 := by
  have hwa := wsA_a w
  have hll : decide (w.l.length ≤ 1000000000000) = true := decide_eq_true hl
  have hgd : lateS w now = 0 → goodB w = true := fun h => by
    unfold lateS at h
    cases hg : goodB w
    · rw [hg] at h; simp at h
    · rfl
  generalize hRR : askS w now trip = R
  unfold askS at hRR
  generalize hL : lateS w now = E at hRR hgd
  obtain ⟨ti, st, tp, l⟩ := w
  dsimp only at hRR hl hll
  simp only [Ws.a] at hwa ⊢
  refine FTL.of_cov (cx := cxT T14) hT14 mo Try.func20 i20_eq (by simp [i20]) (iw_of_jw ?_)
  dsimp only [i20, T14]
  by_cases hE : E = 0
  rotate_left
  · have e1 : (E != 0) = true := by simp [bne, hE]
    rw [if_neg hE] at hRR
    simp (config := { maxSteps := 400000 }) only [go_sem, k54, hwa, hll, hL, e1, simprocAttr]
    rw [← hRR]
    exact cov_nn
  have hg := hgd hE
  subst hE
  rw [if_pos rfl] at hRR
  have e1 : ((0 : Int) != 0) = false := rfl
  cases a1 : inI 1 2000 trip
  · rw [a1] at hRR
    simp (config := { maxSteps := 400000 }) only [go_sem, k54, hwa, hll, hL, e1, k49, a1, simprocAttr]
    rw [← hRR]
    exact cov_nn
  rw [a1] at hRR
  have hhd : headB ⟨ti, st, tp, l⟩ = true ∧ chk ti tp (-1001) l = true := by
    simp only [goodB, Bool.and_eq_true] at hg; exact hg
  obtain ⟨hti, a2, hl64⟩ := headB_t hhd.1
  have hok := chk_ok hhd.2 hti.2
  have hwb := fun x hx => wantB_sq (chk_sq hhd.2 x hx)
  dsimp only at hl64 hti
  simp (config := { maxSteps := 400000 }) only [go_sem, k54, hwa, hll, hL, e1, k49, a1, simprocAttr]
  refine Loop.stepR (F := ⟨Try.prog, cxT T14, [18, 23, 29, 32, 38], 67, 0⟩) hT14 mo (X := Nat) (fun k => k ≤ l.length) (fun k => l.length - k)
    (fun k => [(1, .i .i64 now), (2, .i .i64 trip), (3, .p 0 0), (6, .p 1 0), (7, (gQ I1 1 (askN now trip (l.take k))).v 3), (8, .b (askU now trip (l.take k))), (11, (gQ Wt.l 4 (askL now trip (l.take k))).v 2), (26, .fz (rows Wt.l l) l.length), (27, .i .i64 (l.length : Int)), (28, .i .i64 (k : Int))])
    (fun k => (gQ Wt.l 4 (askL now trip (l.take k))).h 2 ++ ((gQ I1 1 (askN now trip (l.take k))).h 3 ++ [(1, { cells := [.i .i64 0, .b false, .i .i64 0, .ns] }), (0, { cells := [.i .i64 ti, .b st, .i .i64 tp, .fz (rows Wt.l l) l.length] })])) 4 0 (fun k => k + 1) []
    (fun k => match l[k]? with | some x => if endS x trip ≤ now then [] else if dueS x trip ≤ now then [(3, 6), (2, 8)] else [(2, 6)] | none => []) (by decide) (by decide) (fun k => by split <;> (try split) <;> (try split) <;> decide) (Nat.zero_le _) ?_ ?_ (fun k hk => ?_)
  · simp (config := { maxSteps := 400000 }) only [go_sem, askL, askN, askU, List.take_zero, List.filter_nil, List.map_nil, List.any_nil, gQ_nil, fv_n, AV.bel, belL, nblt, AV.ren, renL, wrB, wrR, simprocAttr]
  · simp (config := { maxSteps := 400000 }) only [go_sem, askL, askN, askU, List.take_zero, List.filter_nil, List.map_nil, List.any_nil, gQ_nil, fh_n, AV.bel, belL, nblt, Blk.ren, AV.ren, renL, wrB, wrR, simprocAttr]
  dsimp only [T14]
  by_cases hlt : k < l.length
  · have c1 : decide ((k : Int) < (l.length : Int)) = true := decide_eq_true (by omega)
    have c2 : decide (0 ≤ (k : Int) ∧ (k : Int) < (l.length : Int)) = true := decide_eq_true (by omega)
    have hw : IntKind.i64.wrap ((k : Int) + 1) = ((k + 1 : Nat) : Int) := by rw [wrapL (by omega) (by omega)]; omega
    obtain ⟨x, hx⟩ : ∃ x, l[k]? = some x := ⟨_, List.getElem?_eq_getElem hlt⟩
    have hr := wt_at hx
    have hsn := askL_s (now := now) (trip := trip) hx
    have hsN := askN_s (now := now) (trip := trip) hx
    have hsU := askU_s (now := now) (trip := trip) hx
    have hsk : l.length - (k + 1) < l.length - k := by omega
    have hxo := hok x (List.mem_of_getElem? hx)
    have hfl : (askL now trip (l.take k)).length ≤ 64 := by
      rw [askL, List.length_map]; exact Nat.le_trans (List.length_filter_le _ _) (Nat.le_trans (List.length_take_le _ _) (by omega))
    have hnl : (askN now trip (l.take k)).length ≤ 64 := by
      rw [askN, List.length_map]; exact Nat.le_trans (List.length_filter_le _ _) (Nat.le_trans (List.length_filter_le _ _) (Nat.le_trans (List.length_take_le _ _) (by omega)))
    rw [hsn, hsN, hsU, hx]
    dsimp only
    generalize askL now trip (l.take k) = q at *
    generalize askN now trip (l.take k) = ns at *
    generalize askU now trip (l.take k) = up at *
    have gm : decide (32 * (q.length + 1) ≤ growMax) = true := decide_eq_true (by simp only [growMax]; omega)
    have gm2 : decide (8 * (ns.length + 1) ≤ growMax) = true := decide_eq_true (by simp only [growMax]; omega)
    have zR : (rows Wt.l q).length = q.length * 4 := rows_len Wt.len
    have zR2 : (rows I1 ns).length = ns.length * 1 := rows_len I1.len
    have pk := gQp q
    have pk2 := gIp ns
    have hwt : IntKind.i64.wrap (x.tr + 1) = x.tr + 1 := by
      simp only [okX, Bool.and_eq_true] at hxo
      have := inI_t hxo.1.1.2
      exact wrapL (by omega) (by omega)
    have hk61 : ∀ (h : Hp) n, k61 [.agg x.l, .i .i64 trip] h n = some (true, { v := .i .i64 (endS x trip), n }) := fun h n => by simp only [k61, wt4_l, Option.bind_some, hxo, a1, Bool.and_self]
    have hk60 : ∀ (h : Hp) n, k60 [.agg x.l, .i .i64 trip] h n = some (true, { v := .i .i64 (dueS x trip), n }) := fun h n => by simp only [k60, wt4_l, Option.bind_some, hxo, a1, Bool.and_self]
    have hax : askX now trip x = bif decide (dueS x trip ≤ now) then ⟨x.sq, x.fd, now, x.tr + 1⟩ else x := rfl
    have hsb : stayB now trip x = !decide (endS x trip ≤ now) := rfl
    rw [hax, hsb]
    generalize endS x trip = en at *
    generalize dueS x trip = du at *
    cases h1 : decide (en ≤ now)
    · have h1' := of_decide_eq_false h1
      cases h2 : decide (du ≤ now)
      · have h2' := of_decide_eq_false h2
        have pk' := gQp (q ++ [x])
        simp only [h1, h2, h1', h2', Bool.not_false, Bool.or_false, cond_false, if_true, if_false, Bool.false_eq_true, List.append_nil]
        rw [gQ_snoc] at pk' ⊢
        obtain ⟨sq, fd, ak, tr⟩ := x
        simp only [Wt.l] at pk' hr hk60 hk61
        simp (config := { maxSteps := 400000 }) only [go_sem, c1, c2, hw, hr, hk60, hk61, h1, h2, gm, zR, pk, pk', pk2, hsk, hlt, AV.bel, belL, nblt, Blk.ren, renL, AV.ren, wrB, wrR, Wt.l, Nat.add_zero, simprocAttr]
        exact hlt
      · have h2' := of_decide_eq_true h2
        have pk' := gQp (q ++ [⟨x.sq, x.fd, now, x.tr + 1⟩])
        have pk3 := gIp (ns ++ [x.sq])
        simp only [h1, h2, h1', h2', Bool.not_false, Bool.or_false, cond_true, if_true, if_false, Bool.false_eq_true]
        rw [gQ_snoc] at pk' pk3
        rw [gQ_snoc, gQ_snoc]
        obtain ⟨sq, fd, ak, tr⟩ := x
        simp only [Wt.l, I1] at pk' pk3 hr hk60 hk61 hwt
        simp (config := { maxSteps := 400000 }) only [go_sem, c1, c2, hw, hr, hk60, hk61, h1, h2, hwt, gm, gm2, zR, zR2, pk, pk', pk2, pk3, hsk, hlt, AV.bel, belL, nblt, Blk.ren, renL, AV.ren, wrB, wrR, Wt.l, I1, Nat.add_zero, simprocAttr]
        exact hlt
    · have h1' := of_decide_eq_true h1
      simp only [h1, h1', Bool.not_true, Bool.or_true, if_true, if_false, Bool.false_eq_true, List.append_nil]
      obtain ⟨sq, fd, ak, tr⟩ := x
      simp only [Wt.l] at hr hk60 hk61
      simp (config := { maxSteps := 400000 }) only [go_sem, c1, c2, hw, hr, hk61, h1, pk, pk2, hsk, hlt, AV.bel, belL, nblt, Blk.ren, renL, AV.ren, wrB, wrR, Wt.l, Nat.add_zero, simprocAttr]
      exact hlt
  · have c1 : decide ((k : Int) < (l.length : Int)) = false := decide_eq_false (by omega)
    obtain rfl : k = l.length := by omega
    rw [List.take_length]
    rw [← hRR]
    generalize askL now trip l = q at *
    generalize askN now trip l = ns at *
    generalize askU now trip l = up at *
    have pk := gQp q
    have pk2 := gIp ns
    simp (config := { maxSteps := 400000 }) only [go_sem, c1, pk, pk2, simprocAttr]
    exact cov_qq (by simp [hasS_cons, hasS_hit, hasS_hit0, hasS_skip]) (by simp [hasS_cons, hasS_hit, hasS_hit0, hasS_skip]) (by decide)
def k20 : Ct
  | [.agg c, .i .i64 now, .i .i64 trip], _, n => (wsA c).bind fun w => some (decide (w.l.length ≤ 1000000000000), { v := askV (askS w now trip), n })
  | _, _, _ => none
theorem s20 : SoundAt Try.prog 20 k20 := fun args h n c E hc ht => by
  unfold k20 at hc
  split at hc
  · simp only [Option.bind_eq_some_iff] at hc
    obtain ⟨w, hw, he⟩ := hc
    cases he
    obtain ⟨h1, h2⟩ := wsA_k hw
    exact CallOK.pure (by kernel_rfl) (by simp only [belL, AV.bel, h2, Bool.and_self]) (askV_bel _) (FTL.wkaH h1 (w20 w _ _ (of_decide_eq_true ht))) _ _
  · cases hc
theorem s21 : SoundAt Try.prog 21 k20 := fun args h n c E hc ht => by
  unfold k20 at hc
  split at hc
  · simp only [Option.bind_eq_some_iff] at hc
    obtain ⟨w, hw, he⟩ := hc
    cases he
    obtain ⟨h1, h2⟩ := wsA_k hw
    exact CallOK.pure (by kernel_rfl) (by simp only [belL, AV.bel, h2, Bool.and_self]) (askV_bel _) (FTL.wkaH h1 (w21 w _ _ (of_decide_eq_true ht))) _ _
  · cases hc
end Go.Proofs.Res
end
