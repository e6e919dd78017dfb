/- Texts laid as one: ResC15 ResC16. -/
import Derived.Test.YthnmkedknannhaaResCe
import Derived.Test.YthnmkedknannhaaAbShs
section
/- The contract of Draft.Wants. -/
namespace Go.Proofs.Res
open Go.Ab
set_option maxRecDepth 100000
set_option maxHeartbeats 4000000
set_option linter.unusedSimpArgs false
set_option linter.unusedVariables false

def ev3 : List AV → Option Ev
  | [.i .u8 a, .i .u16 b, .i .i8 c] => some ⟨a, b, c⟩
  | _ => none
theorem ev3_l (x : Ev) : ev3 x.l = some x := rfl
theorem ev3_eq {c : List AV} {x : Ev} (h : ev3 c = some x) : c = x.l := by
  unfold ev3 at h
  split at h
  · cases h; rfl
  · cases h
def drA : List AV → Option Dr
  | [.i .u16 sq, .i .u16 tr, .fz L m] => (unrows 3 ev3 m L).bind fun l => some ⟨sq, tr, l⟩
  | _ => none
theorem drA_a (d : Dr) : drA d.a = some d := by
  obtain ⟨sq, tr, l⟩ := d
  simp only [drA, Dr.a, unrows_rows Ev.len ev3_l, Option.bind_some]
theorem drA_eq {c : List AV} {d : Dr} (h : drA c = some d) : c = d.a := by
  unfold drA at h
  split at h
  · simp only [Option.bind_eq_some_iff, Option.some.injEq] at h
    obtain ⟨l, hl, rfl⟩ := h
    obtain ⟨rfl, hm⟩ := unrows_eq (f := Ev.l) (fun c a h => ev3_eq h) hl
    subst hm
    rfl
  · cases h
def Dr.okB (d : Dr) : Bool := inI 0 65535 d.sq && (inI 0 65535 d.tr && d.ev.all Ev.ok)
theorem Dr.ok_iff {d : Dr} : d.okB = true ↔ d.ok := by
  simp only [Dr.okB, Bool.and_eq_true, List.all_eq_true]
  exact ⟨fun h => ⟨h.1, h.2.1, h.2.2⟩, fun h => ⟨h.sq, h.tr, h.ev⟩⟩
def k17 : Ct
  | [.agg c], _, n => (drA c).bind fun d => some (d.okB, { v := .i .i64 (roundS d), n })
  | _, _, _ => none
theorem s17 : SoundAt Try.prog 17 k17 := fun args h n c E hc ht => by
  unfold k17 at hc
  split at hc
  · simp only [Option.bind_eq_some_iff] at hc
    obtain ⟨d, hd, he⟩ := hc
    cases he
    rw [drA_eq hd]
    exact CallOK.pure (by kernel_rfl) (by simp only [belL, AV.bel, Dr.bel, Bool.and_self]) rfl (w17 d (Dr.ok_iff.1 ht)) _ _
  · cases hc
def k27 : Ct
  | [.agg c], _, n => (drA c).bind fun d => some (d.okB, { v := .fz (rows I1 (stepsL d)) (stepsL d).length, n })
  | _, _, _ => none
theorem s27 : SoundAt Try.prog 27 k27 := fun args h n c E hc ht => by
  unfold k27 at hc
  split at hc
  · simp only [Option.bind_eq_some_iff] at hc
    obtain ⟨d, hd, he⟩ := hc
    cases he
    rw [drA_eq hd]
    exact CallOK.pure (by kernel_rfl) (by simp only [belL, AV.bel, Dr.bel, Bool.and_self]) (by simp only [AV.bel, rows_bel I1.bel]) (w27 d (Dr.ok_iff.1 ht)) _ _
  · cases hc
/-! The wants of a draft -/
def nxW (d : Dr) (k : Nat) (o : Option Ws) : Option Ws :=
  let now := IntKind.i64.wrap ((o.getD zW).ti + (evN d.ev k).wa.tmod 700)
  let r : Ws × Int := bif (evN d.ev k).wh.tmod 3 == 0 then ((askS (o.getD zW) now (roundS d)).1, (askS (o.getD zW) now (roundS d)).2.2.2) else sawS (o.getD zW) now (seqN d.ev d.sq k)
  bif r.2 == 0 then some r.1 else o
def wnt (d : Dr) : Nat → Option Ws
  | 0 => none
  | k + 1 => nxW d k (wnt d k)
def wntS (d : Dr) : Ws := (wnt d (min d.ev.length 40)).getD zW
theorem sawS_len (w : Ws) (now seq : Int) : (sawS w now seq).1.l.length ≤ 64 := by
  unfold sawS
  split
  · cases inI 0 65535 seq
    · exact Nat.zero_le _
    cases w.st
    · exact Nat.zero_le _
    cases decide (lead seq w.tp > 64)
    · cases h : decide (64 < (sawL w now seq).length)
      · simpa using of_decide_eq_false h
      · exact Nat.zero_le _
    · exact Nat.zero_le _
  · exact Nat.zero_le _
theorem late_len {w : Ws} {now : Int} (h : lateS w now = 0) : w.l.length ≤ 64 := by
  unfold lateS at h
  cases hg : goodB w
  · rw [hg] at h; simp at h
  · simp only [goodB, Bool.and_eq_true] at hg
    exact (headB_t hg.1).2.2
theorem askS_len (w : Ws) (now trip : Int) : (askS w now trip).1.l.length ≤ 64 := by
  unfold askS
  split
  · rename_i h
    cases inI 1 2000 trip
    · exact Nat.zero_le _
    · show (askL now trip w.l).length ≤ 64
      rw [askL, List.length_map]
      exact Nat.le_trans (List.length_filter_le _ _) (late_len h)
  · exact Nat.zero_le _
theorem wnt_len (d : Dr) : ∀ k, ((wnt d k).getD zW).l.length ≤ 64
  | 0 => Nat.zero_le _
  | k + 1 => by
    have ih := wnt_len d k
    rw [wnt]
    unfold nxW
    simp only
    cases (evN d.ev k).wh.tmod 3 == 0
    · simp only [cond_false]
      cases (sawS ((wnt d k).getD zW) (IntKind.i64.wrap (((wnt d k).getD zW).ti + (evN d.ev k).wa.tmod 700)) (seqN d.ev d.sq k)).2 == 0
      · exact ih
      · exact sawS_len _ _ _
    · simp only [cond_true]
      cases (askS ((wnt d k).getD zW) (IntKind.i64.wrap (((wnt d k).getD zW).ti + (evN d.ev k).wa.tmod 700)) (roundS d)).2.2.2 == 0
      · exact ih
      · exact askS_len _ _ _
def wc : Option Ws → List AV
  | none => [.i .i64 0, .b false, .i .i64 0, .ns]
  | some w => w.a
theorem wc_a (o : Option Ws) : wsA (wc o) = some (o.getD zW) := by
  cases o
  · rfl
  · exact wsA_a _
theorem wc_x (o : Option Ws) : ∃ X : AV, wc o = [.i .i64 (o.getD zW).ti, .b (o.getD zW).st, .i .i64 (o.getD zW).tp, X] ∧ ∀ j, X.bel j = true := by
  cases o
  · exact ⟨.ns, rfl, fun _ => rfl⟩
  · exact ⟨_, rfl, fun j => by simp only [AV.bel, wrB]⟩
theorem Ws.a_of (w : Ws) : w.a = [.i .i64 w.ti, .b w.st, .i .i64 w.tp, .fz (rows Wt.l w.l) w.l.length] := rfl
def T15 : List (Nat × Ct) := [(14, k13), (17, k17), (21, k20), (27, k27)]
theorem hT15 : Sound Try.prog (cxT T15) := Sound.cons s14 (Sound.cons s17 (Sound.cons s21 (Sound.cons s27 Sound.nil)))
theorem irB {l : List Int} (n : Nat) : belL n (rows I1 l) = true := belL_mono0 _ (rows_bel I1.bel)
theorem w9 (d : Dr) (hd : d.ok) : FTL Try.prog 9 [.agg d.a] [] 0 (.agg (wntS d).a) [] 0 := by
  have hda := drA_a d
  have hok := Dr.ok_iff.2 hd
  have hev := hd.ev
  have hlen := wnt_len d
  have hnx : ∀ k, wnt d (k + 1) = nxW d k (wnt d k) := fun _ => rfl
  have hfin : (wnt d (stepsL d).length).getD zW = wntS d := by rw [stepsL, mapN_len]; rfl
  have hsl : (stepsL d).length = min d.ev.length 40 := by rw [stepsL, mapN_len]
  have hsg : ∀ k, k < (stepsL d).length → (stepsL d)[k]? = some (seqN d.ev d.sq k) := fun k hk => by rw [hsl] at hk; exact mapN_get hk
  generalize wntS d = W at *
  generalize hso : stepsL d = sl at *
  generalize hro : roundS d = rd at *
  generalize hwo : wnt d = wn at *
  have hnx2 : ∀ k o, nxW d k o = (let now := IntKind.i64.wrap ((o.getD zW).ti + (evN d.ev k).wa.tmod 700); let r : Ws × Int := bif (evN d.ev k).wh.tmod 3 == 0 then ((askS (o.getD zW) now rd).1, (askS (o.getD zW) now rd).2.2.2) else sawS (o.getD zW) now (seqN d.ev d.sq k); bif r.2 == 0 then some r.1 else o) := fun k o => by rw [nxW, hro]
  have hw0 : wn 0 = none := by rw [← hwo]; rfl
  clear hwo
  have hk17 : ∀ (h : Hp) n, k17 [.agg d.a] h n = some (true, { v := .i .i64 rd, n }) := fun h n => by simp only [k17, hda, Option.bind_some, hok, hro]
  have hk27 : ∀ (h : Hp) n, k27 [.agg d.a] h n = some (true, { v := .fz (rows I1 sl) sl.length, n }) := fun h n => by simp only [k27, hda, Option.bind_some, hok, hso]
  generalize nxW d = nx at *
  generalize seqN d.ev d.sq = sqn at *
  obtain ⟨sq, tr, ev⟩ := d
  dsimp only at hev hsl hnx2
  simp only [Dr.a] at hk17 hk27 ⊢
  have hle : sl.length ≤ ev.length := by omega
  have hs40 : sl.length ≤ 40 := by omega
  refine FTL.of_cov (cx := cxT T15) hT15 mo Try.func9 i9_eq (by simp [i9]) (iw_of_jw ?_)
  dsimp only [i9, T15]
  simp (config := { maxSteps := 400000 }) only [go_sem, hk27, simprocAttr]
  refine Loop.countI (F := ⟨Try.prog, cxT T15, [14, 45, 57], 60, 0⟩) hT15 mo sl.length (fun _ => True)
    (fun k => [(1, .p 0 0), (2, .p 1 0), (3, .p 2 0), (4, .fz (rows I1 sl) sl.length), (5, .i .i64 (k : Int))])
    (fun k => [(2, { cells := wc (wn k) }), (1, { cells := [.i .i64 0, .b false, .i .i64 0, .ns] }), (0, { cells := [.i .u16 sq, .i .u16 tr, .fz (rows Ev.l ev) ev.length] })]) 3 (by decide) trivial ?_ ?_ (fun k hk _ => ?_)
  · simp (config := { maxSteps := 400000 }) only [go_sem, AV.bel, belL, nblt, irB, simprocAttr]
  · rw [hw0]
    simp (config := { maxSteps := 400000 }) only [go_sem, wc, AV.bel, belL, nblt, erB, simprocAttr]
  dsimp only [T15]
  obtain ⟨X, hX, hXb⟩ := wc_x (wn k)
  have hwa := wc_a (wn k)
  rw [hX] at hwa ⊢
  have hwl := hlen k
  by_cases hlt : k < sl.length
  · have c1 : decide ((k : Int) < (sl.length : Int)) = true := decide_eq_true (by omega)
    have c2 : decide (0 ≤ (k : Int) ∧ (k : Int) < (sl.length : Int)) = true := decide_eq_true (by omega)
    have c3 : decide (0 ≤ (k : Int) ∧ (k : Int) < (ev.length : Int)) = true := decide_eq_true (by omega)
    have hw : IntKind.i64.wrap ((k : Int) + 1) = ((k + 1 : Nat) : Int) := by rw [wrapL (by omega) (by omega)]; omega
    obtain ⟨x, hx⟩ : ∃ x, ev[k]? = some x := ⟨_, List.getElem?_eq_getElem (by omega)⟩
    have hr0 : (rows Ev.l ev)[k * 3]? = some (.i .u8 x.wh) := by
      have := rows_get (f := Ev.l) (z := 3) (j := 0) (v := .i .u8 x.wh) Ev.len hx rfl
      simpa using this
    have hr1 : (rows Ev.l ev)[k * 3 + 1]? = some (.i .u16 x.wa) := rows_get (f := Ev.l) (z := 3) (j := 1) (v := .i .u16 x.wa) Ev.len hx rfl
    have hr2 : (rows I1 sl)[k * 1]? = some (.i .i64 (sqn k)) := rows_get (f := I1) (z := 1) (j := 0) (v := .i .i64 (sqn k)) I1.len (hsg k hlt) rfl
    have hxr := Ev.rng (hev x (List.mem_of_getElem? hx))
    have hn := hnx k
    rw [hnx2 k (wn k), evN_at hx] at hn
    try simp only at hn
    have hll : decide (((wn k).getD zW).l.length ≤ 1000000000000) = true := decide_eq_true (by omega)
    have t1 : 0 ≤ x.wa.tmod 700 ∧ x.wa.tmod 700 < 700 := by rw [Int.tmod_eq_emod_of_nonneg (by omega)]; omega
    have t2 : 0 ≤ x.wh.tmod 3 ∧ x.wh.tmod 3 < 3 := by rw [Int.tmod_eq_emod_of_nonneg (by omega)]; omega
    have m1 : IntKind.u16.wrap (x.wa.tmod 700) = x.wa.tmod 700 := by rw [wrapU16]; omega
    have m2 : IntKind.i64.wrap (x.wa.tmod 700) = x.wa.tmod 700 := wrapL (by omega) (by omega)
    have m3 : IntKind.u8.wrap (x.wh.tmod 3) = x.wh.tmod 3 := by rw [wrapU8]; omega
    rw [hn]
    generalize (wn k).getD zW = w at *
    have hka : ∀ (h : Hp) n now, k20 [.agg [.i .i64 w.ti, .b w.st, .i .i64 w.tp, X], .i .i64 now, .i .i64 rd] h n = some (true, { v := askV (askS w now rd), n }) := fun h n now => by
      simp only [k20, hwa, Option.bind_some, hll]
    have hks : ∀ (h : Hp) n now s, k13 [.agg [.i .i64 w.ti, .b w.st, .i .i64 w.tp, X], .i .i64 now, .i .i64 s] h n = some (true, { v := rsV (sawS w now s), n }) := fun h n now s => by
      simp only [k13, hwa, Option.bind_some, hll]
    obtain ⟨wh, wa, st⟩ := x
    dsimp only at *
    generalize sqn k = s at *
    generalize hnow : IntKind.i64.wrap (w.ti + wa.tmod 700) = now at *
    have hka := fun h n => hka h n now
    have hks := fun h n => hks h n now s
    generalize sawS w now s = R at *
    generalize askS w now rd = A at *
    clear hnx2 hnx hn
    obtain ⟨⟨rt, rs, rp, rl⟩, re⟩ := R
    obtain ⟨⟨at_, as_, ap, al⟩, an, au, ae⟩ := A
    obtain ⟨ti, wst, wtp, wl⟩ := w
    simp only [rsV, askV, Ws.a_of] at hka hks
    dsimp only at hnow hka hks hwa
    cases h1 : (wh.tmod 3 == 0)
    · simp only [cond_false]
      cases h2 : (re == 0)
      · simp only [cond_false, hX]
        simp (config := { maxSteps := 400000 }) only [go_sem, c1, c2, c3, hr0, hr1, hr2, m1, m2, m3, hnow, hks, h1, h2, hw, hlt, hXb, AV.bel, belL, nblt, erB, irB, wrB, simprocAttr]
      · simp only [cond_true, wc, Ws.a_of]
        simp (config := { maxSteps := 400000 }) only [go_sem, c1, c2, c3, hr0, hr1, hr2, m1, m2, m3, hnow, hks, h1, h2, hw, hlt, hXb, AV.bel, belL, nblt, erB, irB, wrB, simprocAttr]
    · simp only [cond_true]
      cases h2 : (ae == 0)
      · simp only [cond_false, hX]
        simp (config := { maxSteps := 400000 }) only [go_sem, c1, c2, c3, hr0, hr1, hr2, m1, m2, m3, hnow, hks, hka, hk17, h1, h2, hw, hlt, hXb, AV.bel, belL, nblt, erB, irB, wrB, simprocAttr]
      · simp only [cond_true, wc, Ws.a_of]
        simp (config := { maxSteps := 400000 }) only [go_sem, c1, c2, c3, hr0, hr1, hr2, m1, m2, m3, hnow, hks, hka, hk17, h1, h2, hw, hlt, hXb, AV.bel, belL, nblt, erB, irB, wrB, simprocAttr]
  · have c1 : decide ((k : Int) < (sl.length : Int)) = false := decide_eq_false (by omega)
    obtain rfl : k = sl.length := by omega
    rw [← hX]
    rw [← hfin]
    cases wn sl.length with
    | none =>
      simp only [wc]
      simp (config := { maxSteps := 400000 }) only [go_sem, c1, simprocAttr]
      refine CovS.frzN (l := []) (v' := .agg (Ws.a zW)) (FzV.agg ⟨FzV.refl, FzV.refl, FzV.refl, FzV.hit, trivial⟩) ?_
      exact CovS.ends (Ends.pureE rfl rfl)
    | some w =>
      obtain ⟨ti, wst, wtp, wl⟩ := w
      simp only [wc, Ws.a_of]
      simp (config := { maxSteps := 400000 }) only [go_sem, c1, simprocAttr]
      exact CovS.ends (Ends.pureE (by simp only [AV.bel, belL, wrB, Bool.and_self]) rfl)
def k9 : Ct
  | [.agg c], _, n => (drA c).bind fun d => some (d.okB, { v := .agg (wntS d).a, n })
  | _, _, _ => none
theorem s9 : SoundAt Try.prog 9 k9 := fun args h n c E hc ht => by
  unfold k9 at hc
  split at hc
  · simp only [Option.bind_eq_some_iff] at hc
    obtain ⟨d, hd, he⟩ := hc
    cases he
    rw [drA_eq hd]
    exact CallOK.pure (by kernel_rfl) (by simp only [belL, AV.bel, Dr.bel, Bool.and_self]) (by simp only [AV.bel, Ws.bel]) (w9 d (Dr.ok_iff.1 ht)) _ _
  · cases hc
end Go.Proofs.Res
end
section
/- The contract of Bend.Wants. -/
namespace Go.Proofs.Res
open Go.Ab
set_option maxRecDepth 100000
set_option maxHeartbeats 16000000
set_option linter.unusedSimpArgs false
set_option linter.unusedVariables false

structure Bd where
  wh : Int
  at_ : Int
  n : Int
def Bd.a (b : Bd) : List AV := [.i .u8 b.wh, .i .u8 b.at_, .i .i64 b.n]
def Bd.okB (b : Bd) : Bool := inI 0 255 b.wh && inI 0 255 b.at_
def bIx (b : Bd) (l : List Wt) : Nat := b.at_.toNat % l.length
def wtD : Wt := ⟨0, 0, 0, 0⟩
def bendL (b : Bd) (l : List Wt) : List Wt :=
  if b.wh % 8 < 3 then l else if b.wh % 8 = 3 then l ++ [⟨b.n, 0, 0, 0⟩] else if l.length = 0 then l
  else l.set (bIx b l) (if b.wh % 8 = 4 then ⟨b.n, (l.getD (bIx b l) wtD).fd, (l.getD (bIx b l) wtD).ak, (l.getD (bIx b l) wtD).tr⟩
    else if b.wh % 8 = 5 then ⟨(l.getD (bIx b l) wtD).sq, b.n, (l.getD (bIx b l) wtD).ak, (l.getD (bIx b l) wtD).tr⟩
    else if b.wh % 8 = 6 then ⟨(l.getD (bIx b l) wtD).sq, (l.getD (bIx b l) wtD).fd, b.n, (l.getD (bIx b l) wtD).tr⟩
    else ⟨(l.getD (bIx b l) wtD).sq, (l.getD (bIx b l) wtD).fd, (l.getD (bIx b l) wtD).ak, b.n⟩)
def bendS (b : Bd) (w : Ws) : Ws := ⟨if b.wh % 8 = 0 then b.n else w.ti, if b.wh % 8 = 1 then !w.st else w.st, if b.wh % 8 = 2 then b.n else w.tp, bendL b w.l⟩
theorem bend_len (b : Bd) (l : List Wt) : (bendL b l).length ≤ l.length + 1 := by
  unfold bendL
  split
  · omega
  · split
    · simp
    · split
      · omega
      · simp
theorem covA_g {ti tp : Int} {st : Bool} {h : Hp} {n j m : Nat} {C : List AV} {l : List Wt} (hk : hget h j = some { cells := C, gr := some 4 }) (hC : C = rows Wt.l l) (hm : m = l.length) : CovS 0 (.agg [.i .i64 ti, .b st, .i .i64 tp, .sg j 0 m]) h n (.agg (Ws.a ⟨ti, st, tp, l⟩)) [] 0 := by
  subst hC hm
  refine CovS.frz (b := j) (k := { cells := rows Wt.l l, gr := some 4 }) (h' := []) (o := 0) (m := l.length) (cs := rows Wt.l l) (v' := .agg (Ws.a ⟨ti, st, tp, l⟩)) hk rfl (.inr rfl) (.inl rfl) (FzV.agg ⟨FzV.refl, FzV.refl, FzV.refl, FzV.hit, trivial⟩) (fun c kk hc => by simp [hget] at hc) ?_
  exact CovS.ends (Ends.pureE (by simp only [AV.bel, Ws.bel]) rfl)
theorem covA_l {ti tp : Int} {st : Bool} {h : Hp} {n j : Nat} (hk : hget h j = some { cells := [] }) : CovS 0 (.agg [.i .i64 ti, .b st, .i .i64 tp, .sl j 0 0 0]) h n (.agg (Ws.a ⟨ti, st, tp, []⟩)) [] 0 := by
  refine CovS.frz (b := j) (k := { cells := [] }) (h' := []) (o := 0) (m := 0) (cs := []) (v' := .agg (Ws.a ⟨ti, st, tp, []⟩)) hk rfl (.inl ⟨0, rfl, Nat.le_refl _⟩) (.inl rfl) (FzV.agg ⟨FzV.refl, FzV.refl, FzV.refl, FzV.hit, trivial⟩) (fun c kk hc => by simp [hget] at hc) ?_
  exact CovS.ends (Ends.pureE rfl rfl)
theorem w10 (b : Bd) (w : Ws) (hb : b.okB = true) (hl : w.l.length ≤ 1000000) : FTL Try.prog 10 [.agg b.a, .agg w.a] [] 0 (.agg (bendS b w).a) [] 0 := by
  simp only [Bd.okB, Bool.and_eq_true] at hb
  have hw := inI_t hb.1
  have ha := inI_t hb.2
  obtain ⟨ti, st, tp, l⟩ := w
  obtain ⟨wh, at_, N⟩ := b
  dsimp only at hw ha hl
  have hS : bendS ⟨wh, at_, N⟩ ⟨ti, st, tp, l⟩ = ⟨if wh % 8 = 0 then N else ti, if wh % 8 = 1 then !st else st, if wh % 8 = 2 then N else tp, bendL ⟨wh, at_, N⟩ l⟩ := rfl
  rw [hS]
  clear hS
  simp only [Bd.a]
  rw [Ws.a_of ⟨ti, st, tp, l⟩]
  have m0 : 0 ≤ wh.tmod 8 ∧ wh.tmod 8 < 8 := by rw [Int.tmod_eq_emod_of_nonneg (by omega)]; omega
  have m1 : wh.tmod 8 = wh % 8 := Int.tmod_eq_emod_of_nonneg (by omega)
  have m2 : IntKind.u8.wrap (wh % 8) = wh % 8 := by rw [wrapU8]; omega
  have w1 : IntKind.i64.wrap at_ = at_ := wrapL (by omega) (by omega)
  refine FTL.of_cov Sound.nil mo Try.func10 i10_eq (by simp [i10]) (iw_of_jw ?_)
  dsimp only [i10]
  obtain ⟨L, hL⟩ : ∃ L, bendL ⟨wh, at_, N⟩ l = L := ⟨_, rfl⟩
  rw [hL]
  unfold bendL at hL
  dsimp only at hL
  obtain ⟨r, hr⟩ : ∃ r, wh % 8 = r := ⟨_, rfl⟩
  rw [hr] at hL m1 m2 ⊢
  obtain ⟨A, hA⟩ : ∃ A, (if r = 0 then N else ti) = A := ⟨_, rfl⟩
  obtain ⟨B, hB⟩ : ∃ B, (if r = 1 then !st else st) = B := ⟨_, rfl⟩
  obtain ⟨C, hC⟩ : ∃ C, (if r = 2 then N else tp) = C := ⟨_, rfl⟩
  rw [hA, hB, hC]
  have hr' : r = 0 ∨ r = 1 ∨ r = 2 ∨ r = 3 ∨ r = 4 ∨ r = 5 ∨ r = 6 ∨ r = 7 := by omega
  cases l with
  | nil =>
    have rn0 : rows Wt.l ([] : List Wt) = [] := rfl
    have gm0 : decide (32 ≤ growMax) = true := rfl
    rcases hr' with rfl | rfl | rfl | rfl | rfl | rfl | rfl | rfl
    · simp at hL; simp only [reduceIte, Int.reduceEq] at hA hB hC; subst hL hA hB hC
      simp (config := { maxSteps := 400000 }) only [go_sem, m1, m2, w1, rn0, gm0, simprocAttr]
      refine covA_l ?_
      rfl
    · simp at hL; simp only [reduceIte, Int.reduceEq] at hA hB hC; subst hL hA hB hC
      simp (config := { maxSteps := 400000 }) only [go_sem, m1, m2, w1, rn0, gm0, simprocAttr]
      refine covA_l ?_
      rfl
    · simp at hL; simp only [reduceIte, Int.reduceEq] at hA hB hC; subst hL hA hB hC
      simp (config := { maxSteps := 400000 }) only [go_sem, m1, m2, w1, rn0, gm0, simprocAttr]
      refine covA_l ?_
      rfl
    · simp at hL; simp only [reduceIte, Int.reduceEq] at hA hB hC; subst hL hA hB hC
      simp (config := { maxSteps := 400000 }) only [go_sem, m1, m2, w1, rn0, gm0, simprocAttr]
      refine covA_g (hC := rfl) ?_ ?_ <;> rfl
    all_goals
      simp at hL; simp only [reduceIte, Int.reduceEq] at hA hB hC; subst hL hA hB hC
      simp (config := { maxSteps := 400000 }) only [go_sem, m1, m2, w1, rn0, gm0, simprocAttr]
      refine covA_l ?_
      rfl
  | cons x t =>
    have h0 : ¬ (x :: t).length = 0 := by simp
    generalize x :: t = l at *
    have c0 : decide ((l.length : Int) > 0) = true := decide_eq_true (by omega)
    have c0' : ((l.length : Int) == 0) = false := beq_eq_false_iff_ne.2 (by omega)
    have c0n : ((l.length : Int) != 0) = true := bne_iff_ne.2 (by omega)
    have d0 : decide (l.length = 0) = false := decide_eq_false h0
    have d1 : decide (l.length ≤ 0) = false := decide_eq_false (by omega)
    have gm : decide (32 * l.length ≤ growMax) = true := decide_eq_true (by simp only [growMax]; omega)
    have gm2 : decide (32 * (l.length + 1) ≤ growMax) = true := decide_eq_true (by simp only [growMax]; omega)
    have zR : (rows Wt.l l).length = l.length * 4 := rows_len Wt.len
    have po : oneAll (rows Wt.l l) = true := rows_one1 Wt.one l
    have q1 : at_.tmod (l.length : Int) = ((at_.toNat % l.length : Nat) : Int) := by rw [Int.tmod_eq_emod_of_nonneg (by omega), Int.natCast_emod, Int.toNat_of_nonneg ha.1]
    have hmod : at_.toNat % l.length < l.length := Nat.mod_lt _ (by omega)
    have q2 : IntKind.i64.wrap ((at_.toNat % l.length : Nat) : Int) = ((at_.toNat % l.length : Nat) : Int) := wrapL (by omega) (by omega)
    have c5 : decide (0 ≤ ((at_.toNat % l.length : Nat) : Int) ∧ ((at_.toNat % l.length : Nat) : Int) < (l.length : Int)) = true := decide_eq_true (by omega)
    have hgi : l[at_.toNat % l.length]? = some (l.getD (at_.toNat % l.length) wtD) := by rw [List.getD_eq_getElem?_getD, List.getElem?_eq_getElem hmod]; rfl
    have room : ∀ j, j < 4 → decide (at_.toNat % l.length * 4 + j + 1 ≤ l.length * 4) = true := fun j hj => decide_eq_true (by omega)
    have sr := fun (j : Nat) (hj : j < 4) (x' : Wt) (hx' : x'.l = splice (l.getD (at_.toNat % l.length) wtD).l j [.i .i64 N]) => splice_row (f := Wt.l) (z := 4) Wt.len hgi hj hx'
    have hbx : bIx ⟨wh, at_, N⟩ l = at_.toNat % l.length := rfl
    rw [hbx] at hL
    have ct : List.take (l.length * 4) (List.drop 0 (rows Wt.l l)) = rows Wt.l l := by rw [List.drop_zero, ← zR, List.take_length]
    have hsr : ∀ (h : Hp) (k : List Nat → Nat → List AV → Bool → Option (Bool × Eff)), srcK h 4 (.fz (rows Wt.l l) l.length) k = k [] l.length (rows Wt.l l) true := fun h k => by
      rw [srcK_f]
      have e : cellsAt (rows Wt.l l) 0 (l.length * 4) = rows Wt.l l := by rw [cellsAt, List.drop_zero, ← zR, List.take_length]
      rw [e, zR]; simp
    generalize l.getD (at_.toNat % l.length) wtD = y at *
    generalize at_.toNat % l.length = i at *
    rcases hr' with rfl | rfl | rfl | rfl | rfl | rfl | rfl | rfl
    · simp at hL; simp only [reduceIte, Int.reduceEq] at hA hB hC; subst hL hA hB hC
      simp (config := { maxSteps := 400000 }) only [go_sem, m1, m2, w1, c0, c0', c0n, d0, d1, gm, zR, po, q1, q2, hsr, ct, simprocAttr]
      refine covA_g (hC := rfl) ?_ ?_ <;> rfl
    · simp at hL; simp only [reduceIte, Int.reduceEq] at hA hB hC; subst hL hA hB hC
      simp (config := { maxSteps := 400000 }) only [go_sem, m1, m2, w1, c0, c0', c0n, d0, d1, gm, zR, po, q1, q2, hsr, ct, simprocAttr]
      refine covA_g (hC := rfl) ?_ ?_ <;> rfl
    · simp at hL; simp only [reduceIte, Int.reduceEq] at hA hB hC; subst hL hA hB hC
      simp (config := { maxSteps := 400000 }) only [go_sem, m1, m2, w1, c0, c0', c0n, d0, d1, gm, zR, po, q1, q2, hsr, ct, simprocAttr]
      refine covA_g (hC := rfl) ?_ ?_ <;> rfl
    · simp at hL; simp only [reduceIte, Int.reduceEq] at hA hB hC; subst hL hA hB hC
      simp (config := { maxSteps := 400000 }) only [go_sem, m1, m2, w1, c0, c0', c0n, d0, d1, gm, gm2, zR, po, q1, q2, hsr, ct, simprocAttr]
      refine covA_g rfl ?_ ?_
      · rw [rows_append]; rfl
      · simp
    · have rm := room 0 (by omega)
      rw [Nat.add_zero] at rm
      rw [if_neg (by omega), if_neg (by omega), if_neg h0, if_pos rfl] at hL
      simp only [reduceIte, Int.reduceEq] at hA hB hC; subst hA hB hC
      have e := sr 0 (by omega) ⟨N, y.fd, y.ak, y.tr⟩ rfl
      rw [hL, Nat.add_zero] at e
      simp (config := { maxSteps := 400000 }) only [go_sem, m1, m2, w1, c0, c0', c0n, d0, d1, gm, zR, po, q1, q2, hsr, ct, c5, rm, simprocAttr]
      refine covA_g (hC := e) ?_ ?_
      · rfl
      · rw [← hL, List.length_set]
    · have rm := room 1 (by omega)
      rw [if_neg (by omega), if_neg (by omega), if_neg h0, if_neg (by omega), if_pos rfl] at hL
      simp only [reduceIte, Int.reduceEq] at hA hB hC; subst hA hB hC
      have e := sr 1 (by omega) ⟨y.sq, N, y.ak, y.tr⟩ rfl
      rw [hL] at e
      simp (config := { maxSteps := 400000 }) only [go_sem, m1, m2, w1, c0, c0', c0n, d0, d1, gm, zR, po, q1, q2, hsr, ct, c5, rm, simprocAttr]
      refine covA_g (hC := e) ?_ ?_
      · rfl
      · rw [← hL, List.length_set]
    · have rm := room 2 (by omega)
      rw [if_neg (by omega), if_neg (by omega), if_neg h0, if_neg (by omega), if_neg (by omega), if_pos rfl] at hL
      simp only [reduceIte, Int.reduceEq] at hA hB hC; subst hA hB hC
      have e := sr 2 (by omega) ⟨y.sq, y.fd, N, y.tr⟩ rfl
      rw [hL] at e
      simp (config := { maxSteps := 400000 }) only [go_sem, m1, m2, w1, c0, c0', c0n, d0, d1, gm, zR, po, q1, q2, hsr, ct, c5, rm, simprocAttr]
      refine covA_g (hC := e) ?_ ?_
      · rfl
      · rw [← hL, List.length_set]
    · have rm := room 3 (by omega)
      rw [if_neg (by omega), if_neg (by omega), if_neg h0, if_neg (by omega), if_neg (by omega), if_neg (by omega)] at hL
      simp only [reduceIte, Int.reduceEq] at hA hB hC; subst hA hB hC
      have e := sr 3 (by omega) ⟨y.sq, y.fd, y.ak, N⟩ rfl
      rw [hL] at e
      simp (config := { maxSteps := 400000 }) only [go_sem, m1, m2, w1, c0, c0', c0n, d0, d1, gm, zR, po, q1, q2, hsr, ct, c5, rm, simprocAttr]
      refine covA_g (hC := e) ?_ ?_
      · rfl
      · rw [← hL, List.length_set]
def bd3 : List AV → Option Bd
  | [.i .u8 a, .i .u8 b, .i .i64 c] => some ⟨a, b, c⟩
  | _ => none
theorem bd3_eq {c : List AV} {x : Bd} (h : bd3 c = some x) : c = x.a := by
  unfold bd3 at h
  split at h
  · cases h; rfl
  · cases h
def k10 : Ct
  | [.agg b, .agg c], _, n => (bd3 b).bind fun b => (wsA c).bind fun w => some (b.okB && decide (w.l.length ≤ 1000000), { v := .agg (bendS b w).a, n })
  | _, _, _ => none
theorem FTL.wka2 {P : Program} {f : FuncId} {a b x : AV} {h h' : Hp} {n n' : Nat} {v : AV} (hw : Wka a b) (hf : FTL P f [x, b] h n v h' n') : FTL P f [x, a] h n v h' n' :=
  FTL.wka (xs := [x, a]) (ys := [x, b]) ⟨Wka.refl x, hw, trivial⟩ hf
theorem s10 : SoundAt Try.prog 10 k10 := fun args h n c E hc ht => by
  unfold k10 at hc
  split at hc
  · simp only [Option.bind_eq_some_iff] at hc
    obtain ⟨b, hb, w, hw, he⟩ := hc
    cases he
    rw [bd3_eq hb]
    obtain ⟨h1, h2⟩ := wsA_k hw
    simp only [Bool.and_eq_true, decide_eq_true_eq] at ht
    exact CallOK.pure (by kernel_rfl) (by simp only [belL, AV.bel, h2, Bd.a, Bool.and_self]) (by simp only [AV.bel, Ws.bel]) (FTL.wka2 h1 (w10 b w ht.1 ht.2)) _ _
  · cases hc
end Go.Proofs.Res
end
