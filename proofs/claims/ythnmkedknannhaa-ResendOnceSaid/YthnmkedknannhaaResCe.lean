/- Texts laid as one: ResC12 ResC13 ResC14. -/
import Derived.Test.YthnmkedknannhaaResCd
import Derived.Test.YthnmkedknannhaaResD2
section
/- Contracts of both Saws; SameWants, Round, Steps. -/
namespace Go.Proofs.Res
open Go.Ab
set_option maxRecDepth 100000
set_option maxHeartbeats 4000000
set_option linter.unusedSimpArgs false
set_option linter.unusedVariables false
/-! SameWants of the same. -/
/-! Drafts -/
structure Ev where
 wh : Int
 wa : Int
 st : Int
def Ev.l (x : Ev) : List AV := [.i .u8 x.wh, .i .u16 x.wa, .i .i8 x.st]
def Ev.ok (x : Ev) : Bool := inI 0 255 x.wh && (inI 0 65535 x.wa && inI (-128) 127 x.st)
theorem Ev.len (x : Ev) : x.l.length = 3 := rfl
theorem Ev.bel (x : Ev) : belL 0 x.l = true := rfl
structure Dr where
 sq : Int
 tr : Int
 ev : List Ev
def Dr.a (d : Dr) : List AV := [.i .u16 d.sq, .i .u16 d.tr, .fz (rows Ev.l d.ev) d.ev.length]
theorem Dr.bel (d : Dr) : belL 0 d.a = true := by simp only [Dr.a, belL, AV.bel, rows_bel Ev.bel, Bool.and_self]
structure Dr.ok (d : Dr) : Prop where
 sq : inI 0 65535 d.sq = true
 tr : inI 0 65535 d.tr = true
 ev : ∀ x ∈ d.ev, x.ok = true
def evN (l : List Ev) (k : Nat) : Ev := match l[k]? with | some x => x | none => ⟨0, 0, 0⟩
theorem evN_at {l : List Ev} {k : Nat} {x : Ev} (h : l[k]? = some x) : evN l k = x := by simp only [evN, h]
def atN (l : List Ev) (a : Int) : Nat → Int
 | 0 => a
 | k + 1 => bif decide ((evN l k).st > 0) then (atN l a k + (evN l k).st + 65536).tmod 65536 else atN l a k
def seqN (l : List Ev) (a : Int) (k : Nat) : Int := (atN l a k + (evN l k).st + 65536).tmod 65536
theorem evN_ok {l : List Ev} (h : ∀ x ∈ l, x.ok = true) (k : Nat) : (evN l k).ok = true := by
 unfold evN
 split
 · exact h _ (List.mem_of_getElem? (by assumption))
 · rfl
theorem Ev.rng {x : Ev} (h : x.ok = true) : (0 ≤ x.wh ∧ x.wh ≤ 255) ∧ (0 ≤ x.wa ∧ x.wa ≤ 65535) ∧ (-128 ≤ x.st ∧ x.st ≤ 127) := by
 simp only [Ev.ok, Bool.and_eq_true] at h
 exact ⟨inI_t h.1, inI_t h.2.1, inI_t h.2.2⟩
theorem atN_rng {l : List Ev} {a : Int} (h : ∀ x ∈ l, x.ok = true) (ha : 0 ≤ a ∧ a ≤ 65535) : ∀ k, 0 ≤ atN l a k ∧ atN l a k ≤ 65535
 | 0 => ha
 | k + 1 => by
  have := atN_rng h ha k
  have he := Ev.rng (evN_ok h k)
  rw [atN]
  cases decide ((evN l k).st > 0)
  · exact this
  · show 0 ≤ (atN l a k + (evN l k).st + 65536).tmod 65536 ∧ (atN l a k + (evN l k).st + 65536).tmod 65536 ≤ 65535
    rw [Int.tmod_eq_emod_of_nonneg (by omega)]; omega
def stepsL (d : Dr) : List Int := mapN (seqN d.ev d.sq) (min d.ev.length 40)
def roundS (d : Dr) : Int := 1 + d.tr.tmod 400
theorem roundS_rng {d : Dr} (hd : d.ok) : 1 ≤ roundS d ∧ roundS d ≤ 400 := by
 have := inI_t hd.tr
 unfold roundS
 rw [Int.tmod_eq_emod_of_nonneg (by omega)]; omega
theorem w17 (d : Dr) (hd : d.ok) : FTL Try.prog 17 [.agg d.a] [] 0 (.i .i64 (roundS d)) [] 0 := by
 have h1 := inI_t hd.tr
 obtain ⟨sq, tr, ev⟩ := d
 dsimp only at h1
 simp only [Dr.a, roundS]
 have h2 : 0 ≤ tr.tmod 400 ∧ tr.tmod 400 < 400 := by rw [Int.tmod_eq_emod_of_nonneg (by omega)]; omega
 have m1 : IntKind.u16.wrap (tr.tmod 400) = tr.tmod 400 := by rw [wrapU16]; omega
 have m2 : IntKind.i64.wrap (tr.tmod 400) = tr.tmod 400 := wrapL (by omega) (by omega)
 have m3 : IntKind.i64.wrap (1 + tr.tmod 400) = 1 + tr.tmod 400 := wrapL (by omega) (by omega)
 refine FTL.of_iw Sound.nil mo Try.func17 i17_eq (by simp [i17]) (iw_of_jw ?_)
 dsimp only [i17]
 simp (maxSteps := 400000) only [go_sem, m1, m2, m3, simprocAttr]
 exact Ends.pureE rfl rfl
theorem erB {l : List Ev} (n : Nat) : belL n (rows Ev.l l) = true := belL_mono0 _ (rows_bel Ev.bel)
theorem erR {l : List Ev} (g : Nat → Nat) : renL g (rows Ev.l l) = rows Ev.l l := renL_fix0 _ (rows_bel Ev.bel)
theorem w27 (d : Dr) (hd : d.ok) : FTL Try.prog 27 [.agg d.a] [] 0 (.fz (rows I1 (stepsL d)) (stepsL d).length) [] 0 := by
 have h1 := inI_t hd.sq
 have hev := hd.ev
 have hst : stepsL d = mapN (seqN d.ev d.sq) (min d.ev.length 40) := rfl
 obtain ⟨sq, tr, ev⟩ := d
 dsimp only at h1 hev hst
 generalize stepsL ⟨sq, tr, ev⟩ = sl at *
 simp only [Dr.a]
 have m1 : IntKind.i64.wrap sq = sq := wrapL (by omega) (by omega)
 have hlen : min ev.length 40 ≤ 40 := Nat.min_le_right _ _
 have hle : min ev.length 40 ≤ ev.length := Nat.min_le_left _ _
 have hge : ev.length = min ev.length 40 ∨ min ev.length 40 = 40 := by omega
 have hat := atN_rng (a := sq) hev h1
 have hat0 : atN ev sq 0 = sq := rfl
 generalize min ev.length 40 = M at *
 refine FTL.of_cov Sound.nil mo Try.func27 i27_eq (by simp [i27]) (iw_of_jw ?_)
 dsimp only [i27]
 simp (maxSteps := 400000) only [go_sem, m1, simprocAttr]
 refine Loop.stepR (F := ⟨Try.prog, cxT [], [19, 35], 42, 0⟩) Sound.nil mo (X := Nat) (fun k => k ≤ M) (fun k => M - k)
  (fun k => [(1, .p 0 0), (3, (gQ I1 1 (mapN (seqN ev sq) k)).v 1), (4, .i .i64 (atN ev sq k)), (5, .i .i64 (k : Int))])
  (fun k => (gQ I1 1 (mapN (seqN ev sq) k)).h 1 ++ [(0, { cells := [.i .u16 sq, .i .u16 tr, .fz (rows Ev.l ev) ev.length] })]) 2 0 (fun k => k + 1) [] (fun _ => [(1, 3)]) (by decide) (by decide) (fun k => by decide) (Nat.zero_le _) ?_ ?_ (fun k hk => ?_)
 · simp (maxSteps := 400000) only [go_sem, mapN_z, hat0, erB, gQ_nil, fv_n, AV.bel, belL, nblt, AV.ren, renL, simprocAttr]
 · simp (maxSteps := 400000) only [go_sem, mapN_z, gQ_nil, fh_n, AV.bel, belL, nblt, Blk.ren, AV.ren, renL, erB, erR, simprocAttr]
 by_cases hlt : k < M
 · have c1 : decide ((k : Int) < (ev.length : Int)) = true := decide_eq_true (by omega)
   have c3 : decide ((k : Int) < 40) = true := decide_eq_true (by omega)
   have c2 : decide (0 ≤ (k : Int) ∧ (k : Int) < (ev.length : Int)) = true := decide_eq_true (by omega)
   have hw : IntKind.i64.wrap ((k : Int) + 1) = ((k + 1 : Nat) : Int) := by rw [wrapL (by omega) (by omega)]; omega
   obtain ⟨x, hx⟩ : ∃ x, ev[k]? = some x := ⟨_, List.getElem?_eq_getElem (by omega)⟩
   have hr0 : (rows Ev.l ev)[k * 3 + 2]? = some (.i .i8 x.st) := rows_get (f := Ev.l) (z := 3) (j := 2) (v := .i .i8 x.st) Ev.len hx rfl
   have hxr := (Ev.rng (hev x (List.mem_of_getElem? hx))).2.2
   have hsk : M - (k + 1) < M - k := by omega
   have hms : mapN (seqN ev sq) (k + 1) = mapN (seqN ev sq) k ++ [(atN ev sq k + x.st + 65536).tmod 65536] := by rw [mapN_s, seqN, evN_at hx]
   have has : atN ev sq (k + 1) = bif decide (x.st > 0) then (atN ev sq k + x.st + 65536).tmod 65536 else atN ev sq k := by rw [atN, evN_at hx]
   rw [hms, has]
   have hql : (mapN (seqN ev sq) k).length ≤ 40 := by rw [mapN_len]; omega
   have hak := hat k
   generalize mapN (seqN ev sq) k = q at *
   generalize atN ev sq k = at_ at *
   have gm : decide (8 * (q.length + 1) ≤ growMax) = true := decide_eq_true (by simp only [growMax]; omega)
   have zR : (rows I1 q).length = q.length * 1 := rows_len I1.len
   have pk := gIp q
   have e1 : IntKind.i64.wrap x.st = x.st := wrapL (by omega) (by omega)
   have e2 : IntKind.i64.wrap (at_ + x.st) = at_ + x.st := wrapL (by omega) (by omega)
   have e3 : IntKind.i64.wrap (at_ + x.st + 65536) = at_ + x.st + 65536 := wrapL (by omega) (by omega)
   have e5 : 0 ≤ (at_ + x.st + 65536).tmod 65536 ∧ (at_ + x.st + 65536).tmod 65536 ≤ 65535 := by rw [Int.tmod_eq_emod_of_nonneg (by omega)]; omega
   generalize x.st = s at *
   have pk' := gIp (q ++ [(at_ + s + 65536).tmod 65536])
   rw [gQ_snoc] at pk' ⊢
   have e4 : IntKind.i64.wrap ((at_ + s + 65536).tmod 65536) = (at_ + s + 65536).tmod 65536 := wrapL (by omega) (by omega)
   simp only [I1] at pk'
   cases hs : decide (s > 0)
   all_goals
    simp (maxSteps := 400000) only [go_sem, c1, c2, c3, hw, hr0, hs, e1, e2, e3, e4, gm, zR, pk, pk', hsk, hlt, AV.bel, belL, nblt, Blk.ren, renL, AV.ren, erB, erR, I1, Nat.add_zero, simprocAttr]
    exact hlt
 · have c1 : decide ((k : Int) < (ev.length : Int)) = true ∨ decide ((k : Int) < (ev.length : Int)) = false := by cases decide ((k : Int) < (ev.length : Int)) <;> simp
   obtain rfl : k = M := by omega
   rw [← hst]
   have hfr := gQ_fresh (f := I1) (z := 1) sl
   have pk := gIp sl
   have fin : ∀ (h : Hp) (n : Nat), hasS h (gQ I1 1 sl) 1 → CovS 0 ((gQ I1 1 sl).v 1) h n (.fz (rows I1 sl) sl.length) [] 0 := fun h n hk => by
    refine CovS.frzS (h' := []) (v' := .fz (rows I1 sl) sl.length) (gQ_is (f := I1) I1.bel I1.len sl) hfr (gIcap sl) hk FzV.hit (fun c kk hc => by simp [hget] at hc) ?_
    exact CovS.ends (Ends.pureE (by simp only [AV.bel, rows_bel I1.bel]) rfl)
   rcases c1 with c1 | c1
   · have c3 : decide ((k : Int) < 40) = false := decide_eq_false (by have := of_decide_eq_true c1; omega)
     simp (maxSteps := 400000) only [go_sem, c1, c3, pk, simprocAttr]
     exact fin _ _ (by simp [hasS_cons, hasS_hit, hasS_hit0])
   · simp (maxSteps := 400000) only [go_sem, c1, pk, simprocAttr]
     exact fin _ _ (by simp [hasS_cons, hasS_hit, hasS_hit0])
end Go.Proofs.Res
end
section
/- Contracts of Ask and the reference's Ask. -/
namespace Go.Proofs.Res
open Go.Ab
set_option maxRecDepth 100000
set_option maxHeartbeats 4000000
set_option linter.unusedSimpArgs false
set_option linter.unusedVariables false
end Go.Proofs.Res
end
section
/- The reference's Ask, as a contract. -/
namespace Go.Proofs.Res
open Go.Ab
set_option maxRecDepth 100000
set_option maxHeartbeats 4000000
set_option linter.unusedSimpArgs false
set_option linter.unusedVariables false
end Go.Proofs.Res
end
