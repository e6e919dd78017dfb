/- Contracts of chapter 40's functions: Show. -/
import Derived.Test.YtkpiibllomjeaaaLysPa
import Derived.Test.YtkpiibllomjeaaaLysCc
import Derived.Test.YtkpiibllomjeaaaAbPtr
import Derived.Test.YtkpiibllomjeaaaAbLoops
namespace Go.Proofs.Lys
open Go.Ab
set_option maxRecDepth 100000
set_option maxHeartbeats 8000000
set_option linter.unusedSimpArgs false
set_option linter.unusedVariables false
structure Ly where
 lv : Bool
 id : Int
 ba : Int
 op : Int
structure Dc where
 x : Ly
 y : Ly
 z : Ly
def zLy : Ly := ⟨false, 0, 0, 0⟩
def zDc : Dc := ⟨zLy, zLy, zLy⟩
def Ly.fit (q : Ly) : Bool := decide (0 ≤ q.id) && decide (q.id ≤ 32767) && (decide (0 ≤ q.ba) && decide (q.ba ≤ 255)) && (decide (0 ≤ q.op) && decide (q.op ≤ 3)) && (q.lv || (q.id == 0 && (q.ba == 0 && q.op == 0)))
def Dc.good (d : Dc) : Bool := d.x.fit && d.y.fit && d.z.fit && (!d.y.lv || d.x.lv) && (!d.z.lv || d.y.lv)
def Dc.l (d : Dc) : List AV := [.b d.x.lv, .i .i64 d.x.id, .i .i64 d.x.ba, .i .i64 d.x.op, .b d.y.lv, .i .i64 d.y.id, .i .i64 d.y.ba, .i .i64 d.y.op, .b d.z.lv, .i .i64 d.z.id, .i .i64 d.z.ba, .i .i64 d.z.op]
def Dc.get (d : Dc) (i : Int) : Ly := if i == 0 then d.x else if i == 1 then d.y else d.z
def Dc.set (d : Dc) (i : Int) (q : Ly) : Dc := if i == 0 then { d with x := q } else if i == 1 then { d with y := q } else { d with z := q }
def Dc.cut (d : Dc) (i : Int) : Dc := if i == 0 then zDc else if i == 1 then { d with y := zLy, z := zLy } else { d with z := zLy }
def lead15 (a b : Int) : Int := if (a - b) % 32768 ≥ 16384 then (a - b) % 32768 - 32768 else (a - b) % 32768
def fitsS (d : Dc) (s : Sh) : Bool := s.sp == 0 || ((d.get (s.sp - 1)).lv && (d.get (s.sp - 1)).id == s.id)
def showS (d : Dc) (s : Sh) : Dc × Bool :=
 let q := d.get s.sp
 let later := q.lv && decide (lead15 s.id q.id > 0)
 if s.ky then (if fitsS d s then ((d.cut s.sp).set s.sp ⟨true, s.id, s.ba, 0⟩, true) else (d, false))
 else if s.te == 0 then
  if fitsS d s && later && s.ba == (q.ba + 1) % 256 then (d.set s.sp { q with id := s.id, ba := s.ba }, true)
  else if later then (d.cut s.sp, false) else (d, false)
 else if fitsS d s && later && s.ba == q.ba && (decide (s.te ≤ q.op) || (s.sy && s.te == q.op + 1)) then (d.set s.sp { q with id := s.id, op := max q.op s.te }, true)
 else (d, false)
theorem w86d (x y : Int) (hx : 0 ≤ x ∧ x ≤ 32767) (hy : 0 ≤ y ∧ y ≤ 32767) : FTL Try.prog 86 [.i .i64 x, .i .i64 y, .i .i64 15] [] 0 (.tup [.i .i64 (lead15 x y), .i .i64 0]) [] 0 := by
 refine FTL.of_iw Sound.nil mo Try.func86 i86_eq (by simp [i86]) (iw_of_jw ?_)
 dsimp only [i86]
 have f1 : x.fdiv 32768 = 0 := by rw [Int.fdiv_eq_ediv_of_nonneg _ (by omega)]; omega
 have f2 : y.fdiv 32768 = 0 := by rw [Int.fdiv_eq_ediv_of_nonneg _ (by omega)]; omega
 have c1 : decide (x < 0) = false := decide_eq_false (by omega)
 have c2 : decide (y < 0) = false := decide_eq_false (by omega)
 have g1 : IntKind.i64.wrap (x - y) = x - y := wrap64 _ (by omega) (by omega)
 have g2 : IntKind.i64.wrap 32768 = 32768 := rfl
 have g3 : IntKind.i64.wrap 32767 = 32767 := rfl
 have g4 : ((x - y) % 32768).fdiv 16384 = (x - y) % 32768 / 16384 := Int.fdiv_eq_ediv_of_nonneg _ (by omega)
 have g5 : IntKind.i64.wrap ((x - y) % 32768 - 32768) = (x - y) % 32768 - 32768 := wrap64 _ (by omega) (by omega)
 simp (maxSteps := 400000) only [go_sem, f1, f2, c1, c2, g1, g2, g3, and15, g4, g5, simprocAttr]
 repeat' (first | refine spB_i (fun _ => ?_) (fun _ => ?_) | refine andB_i ?_ ?_)
 all_goals first
  | (refine Ends.pureE rfl ?_
     simp only [lead15]
     grind)
  | rfl
def k86d : Ct
 | [.i .i64 x, .i .i64 y, .i .i64 15], _, n => some (decide ((0 ≤ x ∧ x ≤ 32767) ∧ (0 ≤ y ∧ y ≤ 32767)), { v := .tup [.i .i64 (lead15 x y), .i .i64 0], n })
 | _, _, _ => none
theorem s86d : SoundAt Try.prog 86 k86d := fun args h n c E hc ht => by
 unfold k86d at hc
 split at hc
 · cases hc
   simp only [decide_eq_true_eq] at ht
   exact CallOK.pure (by kernel_rfl) rfl rfl (w86d _ _ ht.1 ht.2) _ _
 · cases hc
def vw (d : Dc) (s : Sh) : List AV := [.b d.x.lv, .i .i64 d.x.id, .i .i64 d.x.ba, .i .i64 d.x.op, .b d.y.lv, .i .i64 d.y.id, .i .i64 d.y.ba, .i .i64 d.y.op, .b d.z.lv, .i .i64 d.z.id, .i .i64 d.z.ba, .i .i64 d.z.op, .b s.st, .b s.ky, .b s.sy, .b s.la, .i .i64 s.id, .i .i64 s.ba, .i .i64 s.te, .i .i64 s.sp]
def vwB : Blk → Option (Dc × Sh)
 | ⟨[.b a0, .i .i64 a1, .i .i64 a2, .i .i64 a3, .b b0, .i .i64 b1, .i .i64 b2, .i .i64 b3, .b c0, .i .i64 c1, .i .i64 c2, .i .i64 c3, .b st, .b ky, .b sy, .b la, .i .i64 id, .i .i64 ba, .i .i64 te, .i .i64 sp], false, none, none⟩ => some (⟨⟨a0, a1, a2, a3⟩, ⟨b0, b1, b2, b3⟩, ⟨c0, c1, c2, c3⟩⟩, ⟨st, ky, sy, la, id, ba, te, sp⟩)
 | _ => none
theorem vwB_eq {k : Blk} {d : Dc} {s : Sh} (h : vwB k = some (d, s)) : k = { cells := vw d s } := by
 unfold vwB at h
 split at h
 · cases h; rfl
 · cases h
def spOK (s : Sh) : Bool := decide (0 ≤ s.sp ∧ s.sp ≤ 2)
theorem sp3 {s : Sh} (h : spOK s = true) : s.sp = 0 ∨ s.sp = 1 ∨ s.sp = 2 := by
 simp only [spOK, decide_eq_true_eq] at h; omega
theorem w87 (d : Dc) (s : Sh) (h : spOK s = true) : FTL Try.prog 87 [.p 0 0] [(0, { cells := vw d s })] 1 (.b (fitsS d s)) [(0, { cells := vw d s })] 1 := by
 refine FTL.of_iw Sound.nil mo Try.func87 i87_eq (by simp [i87]) (iw_of_jw ?_)
 dsimp only [i87]
 rcases sp3 h with h | h | h
 · simp (maxSteps := 400000) only [go_sem, vw, h, simprocAttr]
   exact Ends.keep1 rfl rfl rfl (by simp [fitsS, h]) rfl
 · simp (maxSteps := 400000) only [go_sem, vw, h, simprocAttr]
   repeat' (first | refine spB_i (fun _ => ?_) (fun _ => ?_) | refine andB_i ?_ ?_)
   all_goals exact Ends.keep1 rfl rfl rfl (by simp [fitsS, h, Dc.get, *]) rfl
 · simp (maxSteps := 400000) only [go_sem, vw, h, simprocAttr]
   repeat' (first | refine spB_i (fun _ => ?_) (fun _ => ?_) | refine andB_i ?_ ?_)
   all_goals exact Ends.keep1 rfl rfl rfl (by simp [fitsS, h, Dc.get, *]) rfl
def k87 : Ct
 | [.p b 0], h, n => (hget h b).bind fun k => (vwB k).bind fun x => some (spOK x.2, { v := .b (fitsS x.1 x.2), n, rd := [b] })
 | _, _, _ => none
theorem s87 : SoundAt Try.prog 87 k87 := fun args h n c E hc ht => by
 unfold k87 at hc
 split at hc
 · rename_i b
   simp only [Option.bind_eq_some_iff] at hc
   obtain ⟨k, hk, ⟨d, s⟩, hm, he⟩ := hc
   cases he
   rw [vwB_eq hm] at hk
   exact CallOK.read1 (argsL := [.p 0 0]) (by kernel_rfl) rfl rfl rfl hk (w87 _ _ ht)
 · cases hc
theorem w88 (d : Dc) (s : Sh) (h : spOK s = true) : FTL Try.prog 88 [.p 0 0] [(0, { cells := vw d s })] 1 (.tup []) [(0, { cells := vw (d.cut s.sp) s })] 1 := by
 refine FTL.of_iw Sound.nil mo Try.func88 i88_eq (by simp [i88]) (iw_of_jw ?_)
 dsimp only [i88]
 rcases sp3 h with h | h | h
 · simp (maxSteps := 400000) only [go_sem, vw, h, simprocAttr]
   exact Ends.keep1 rfl rfl rfl rfl rfl
 · simp (maxSteps := 400000) only [go_sem, vw, h, simprocAttr]
   exact Ends.keep1 rfl rfl rfl rfl rfl
 · simp (maxSteps := 400000) only [go_sem, vw, h, simprocAttr]
   exact Ends.keep1 rfl rfl rfl rfl rfl
def k88 : Ct
 | [.p b 0], h, n => (hget h b).bind fun k => (vwB k).bind fun x => some (spOK x.2, { v := .tup [], n, rd := [b], md := [(b, some { cells := vw (x.1.cut x.2.sp) x.2 })] })
 | _, _, _ => none
theorem s88 : SoundAt Try.prog 88 k88 := fun args h n c E hc ht => by
 unfold k88 at hc
 split at hc
 · rename_i b
   simp only [Option.bind_eq_some_iff] at hc
   obtain ⟨k, hk, ⟨d, s⟩, hm, he⟩ := hc
   cases he
   rw [vwB_eq hm] at hk
   exact CallOK.upd1 (argsL := [.p 0 0]) (by kernel_rfl) rfl rfl rfl rfl rfl hk (w88 _ _ ht)
 · cases hc
def TQ9 : List (Nat × Ct) := [(86, k86d), (87, k87), (88, k88)]
theorem hTQ9 : Sound Try.prog (cxT TQ9) := Sound.cons s86d <| Sound.cons s87 <| Sound.cons s88 Sound.nil
theorem get_good {d : Dc} (h : d.good = true) (i : Int) : (d.get i).fit = true := by
 simp only [Dc.good, Bool.and_eq_true] at h
 unfold Dc.get
 split
 · exact h.1.1.1.1
 · split
   · exact h.1.1.1.2
   · exact h.1.1.2
theorem fit_id {q : Ly} (h : q.fit = true) : (0 ≤ q.id ∧ q.id ≤ 32767) ∧ (0 ≤ q.ba ∧ q.ba ≤ 255) ∧ (0 ≤ q.op ∧ q.op ≤ 3) := by
 simp only [Ly.fit, Bool.and_eq_true, decide_eq_true_eq] at h
 exact ⟨h.1.1.1, h.1.1.2, h.1.2⟩
theorem w70 (d : Dc) (s : Sh) (hd : d.good = true) (hs : s.good = true) : FTL Try.prog 70 [.p 0 0] [(0, { cells := vw d s })] 1 (.b (showS d s).2) [(0, { cells := vw (showS d s).1 s })] 1 := by
 refine FTL.of_iw hTQ9 mo Try.func70 i70_eq (by simp [i70]) (iw_of_jw ?_)
 dsimp only [i70, TQ9]
 have hs' := (Sh.good_iff s).1 hs
 have hsp : spOK s = true := decide_eq_true ⟨hs'.2.2.2.2.2.2.1, hs'.2.2.2.2.2.2.2.1⟩
 have hx := fit_id (get_good hd s.sp)
 have hc : decide ((0 ≤ s.id ∧ s.id ≤ 32767) ∧ 0 ≤ (d.get s.sp).id ∧ (d.get s.sp).id ≤ 32767) = true := decide_eq_true ⟨⟨hs'.1, hs'.2.1⟩, hx.1⟩
 have e1 : ∀ q : Ly, Ly.mk q.lv q.id q.ba q.op = q := fun _ => rfl
 have e2 : ∀ q : Dc, Dc.mk q.x q.y q.z = q := fun _ => rfl
 have hw1 : IntKind.i64.wrap ((d.get s.sp).ba + 1) = (d.get s.sp).ba + 1 := wrapL (by omega) (by omega)
 have hw2 : IntKind.i64.wrap ((d.get s.sp).op + 1) = (d.get s.sp).op + 1 := wrapL (by omega) (by omega)
 have h00 : s.sp = 0 → Sh.mk s.st s.ky s.sy s.la s.id s.ba s.te 0 = s := fun h => by rw [← h]
 have h01 : s.sp = 1 → Sh.mk s.st s.ky s.sy s.la s.id s.ba s.te 1 = s := fun h => by rw [← h]
 have h02 : s.sp = 2 → Sh.mk s.st s.ky s.sy s.la s.id s.ba s.te 2 = s := fun h => by rw [← h]
 generalize hR : showS d s = R
 rcases sp3 hsp with h | h | h
 · have h0 := h00 h
   have hg : d.get s.sp = d.x := by rw [h]; rfl
   rw [hg] at hc hx hw1 hw2
   simp (maxSteps := 400000) only [go_sem, vw, h, k86d, k87, k88, vwB, e1, e2, h0, hc, hsp, hw1, hw2, and8, simprocAttr]
   repeat' (first | refine spB_i (fun _ => ?_) (fun _ => ?_) | refine andB_i ?_ ?_)
   all_goals (refine Ends.keep1 rfl rfl rfl ?_ ?_ <;> (rw [← hR]; clear hR hs' hs hd e1 e2 h00 h01 h02 h0 hw1 hw2 hc hsp; simp only [showS, hg, Dc.set, Dc.cut, h]; grind [zLy, zDc]))
 · have h0 := h01 h
   have hg : d.get s.sp = d.y := by rw [h]; rfl
   rw [hg] at hc hx hw1 hw2
   simp (maxSteps := 400000) only [go_sem, vw, h, k86d, k87, k88, vwB, e1, e2, h0, hc, hsp, hw1, hw2, and8, simprocAttr]
   repeat' (first | refine spB_i (fun _ => ?_) (fun _ => ?_) | refine andB_i ?_ ?_)
   all_goals (refine Ends.keep1 rfl rfl rfl ?_ ?_ <;> (rw [← hR]; clear hR hs' hs hd e1 e2 h00 h01 h02 h0 hw1 hw2 hc hsp; simp only [showS, hg, Dc.set, Dc.cut, h]; grind [zLy, zDc]))
 · have h0 := h02 h
   have hg : d.get s.sp = d.z := by rw [h]; rfl
   rw [hg] at hc hx hw1 hw2
   simp (maxSteps := 400000) only [go_sem, vw, h, k86d, k87, k88, vwB, e1, e2, h0, hc, hsp, hw1, hw2, and8, simprocAttr]
   repeat' (first | refine spB_i (fun _ => ?_) (fun _ => ?_) | refine andB_i ?_ ?_)
   all_goals (refine Ends.keep1 rfl rfl rfl ?_ ?_ <;> (rw [← hR]; clear hR hs' hs hd e1 e2 h00 h01 h02 h0 hw1 hw2 hc hsp; simp only [showS, hg, Dc.set, Dc.cut, h]; grind [zLy, zDc]))
def k70 : Ct
 | [.p b 0], h, n => (hget h b).bind fun k => (vwB k).bind fun x => some (x.1.good && x.2.good, { v := .b (showS x.1 x.2).2, n, rd := [b], md := [(b, some { cells := vw (showS x.1 x.2).1 x.2 })] })
 | _, _, _ => none
theorem s70 : SoundAt Try.prog 70 k70 := fun args h n c E hc ht => by
 unfold k70 at hc
 split at hc
 · rename_i b
   simp only [Option.bind_eq_some_iff] at hc
   obtain ⟨k, hk, ⟨d, s⟩, hm, he⟩ := hc
   cases he
   rw [vwB_eq hm] at hk
   simp only [Bool.and_eq_true] at ht
   exact CallOK.upd1 (argsL := [.p 0 0]) (by kernel_rfl) rfl rfl rfl rfl rfl hk (w70 _ _ ht.1 ht.2)
 · cases hc
def okD (d : Dc) (k : Nat) : Prop := (1 ≤ k → d.x.fit = true) ∧ (2 ≤ k → d.y.fit = true ∧ (!d.y.lv || d.x.lv) = true) ∧ (3 ≤ k → d.z.fit = true ∧ (!d.z.lv || d.y.lv) = true)
theorem w69 (d : Dc) : FTL Try.prog 69 [.agg d.l] [] 0 (.i .i64 (if d.good then 0 else 402)) [] 0 := by
 refine FTL.of_iw hTP1 mo Try.func69 i69_eq (by simp [i69]) (iw_of_jw ?_)
 dsimp only [i69, TP1]
 generalize hR : (if d.good then (0 : Int) else 402) = R
 simp (maxSteps := 400000) only [go_sem, Dc.l, simprocAttr]
 refine ⟨fun h => ?_, fun _ => ?_⟩
 · refine Ends.pureE rfl (congrArg _ ?_)
   rw [← hR, if_pos]
   simp at h
   simp [Dc.good, Ly.fit, h]
 · refine Loop.countI (F := ⟨Try.prog, cxT TP1, [9, 13, 56], 58, 0⟩) hTP1 mo 3 (okD d) (fun k => [(12, .i .i64 (k : Int)), (11, .agg d.l), (1, .p 0 0)]) (fun _ => [(0, { cells := d.l })]) 1 (by decide) (by simp [okD]) ?_ ?_ (fun k hk ho => ?_)
   · simp (maxSteps := 400000) only [go_sem, Dc.l, AV.bel, belL, nblt, simprocAttr]
   · simp (maxSteps := 400000) only [go_sem, Dc.l, AV.bel, belL, nblt, simprocAttr]
   · dsimp only [TP1]
     match k, hk with
     | 0, _ =>
      simp (maxSteps := 400000) only [go_sem, Dc.l, k85, AV.bel, belL, nblt, Int.ofNat_eq_natCast, Int.cast_ofNat_Int, Int.natCast_zero, simprocAttr]
      repeat' (first | refine spB_i (fun _ => ?_) (fun _ => ?_) | refine andB_i ?_ ?_)
      all_goals first
       | (refine Ends.pureE rfl (congrArg _ ?_); rw [← hR, if_neg]; simp only [okD, Dc.good, Ly.fit] at *; grind)
       | (simp only [okD, Ly.fit] at *; grind)
     | 1, _ =>
      simp (maxSteps := 400000) only [go_sem, Dc.l, k85, AV.bel, belL, nblt, Int.ofNat_eq_natCast, Int.cast_ofNat_Int, Int.natCast_one, simprocAttr]
      repeat' (first | refine spB_i (fun _ => ?_) (fun _ => ?_) | refine andB_i ?_ ?_)
      all_goals first
       | (refine Ends.pureE rfl (congrArg _ ?_); rw [← hR, if_neg]; simp only [okD, Dc.good, Ly.fit] at *; grind)
       | (simp only [okD, Ly.fit] at *; grind)
     | 2, _ =>
      simp (maxSteps := 400000) only [go_sem, Dc.l, k85, AV.bel, belL, nblt, Int.ofNat_eq_natCast, Int.cast_ofNat_Int, simprocAttr]
      repeat' (first | refine spB_i (fun _ => ?_) (fun _ => ?_) | refine andB_i ?_ ?_)
      all_goals first
       | (refine Ends.pureE rfl (congrArg _ ?_); rw [← hR, if_neg]; simp only [okD, Dc.good, Ly.fit] at *; grind)
       | (simp only [okD, Ly.fit] at *; grind)
     | 3, _ =>
      simp (maxSteps := 400000) only [go_sem, Dc.l, k85, AV.bel, belL, nblt, Int.ofNat_eq_natCast, Int.cast_ofNat_Int, simprocAttr]
      refine Ends.pureE rfl (congrArg _ ?_)
      rw [← hR, if_pos]
      simp only [okD, Dc.good, Bool.and_eq_true] at *
      exact ⟨⟨⟨⟨ho.1 (by omega), (ho.2.1 (by omega)).1⟩, (ho.2.2 (by omega)).1⟩, (ho.2.1 (by omega)).2⟩, (ho.2.2 (by omega)).2⟩
def dcV (l : List AV) : Option Dc := match l with
 | [.b a0, .i .i64 a1, .i .i64 a2, .i .i64 a3, .b b0, .i .i64 b1, .i .i64 b2, .i .i64 b3, .b c0, .i .i64 c1, .i .i64 c2, .i .i64 c3] => some ⟨⟨a0, a1, a2, a3⟩, ⟨b0, b1, b2, b3⟩, ⟨c0, c1, c2, c3⟩⟩
 | _ => none
theorem dcV_eq {l : List AV} {d : Dc} (h : dcV l = some d) : l = d.l := by
 unfold dcV at h
 split at h
 · cases h; rfl
 · cases h
def shV (l : List AV) : Option Sh := match l with
 | [.b st, .b ky, .b sy, .b la, .i .i64 id, .i .i64 ba, .i .i64 te, .i .i64 sp] => some ⟨st, ky, sy, la, id, ba, te, sp⟩
 | _ => none
theorem shV_eq {l : List AV} {d : Sh} (h : shV l = some d) : l = d.l := by
 unfold shV at h
 split at h
 · cases h; rfl
 · cases h
def k69 : Ct
 | [.agg l], _, n => (dcV l).bind fun d => some (true, { v := .i .i64 (if d.good then 0 else 402), n })
 | _, _, _ => none
theorem s69 : SoundAt Try.prog 69 k69 := fun args h n c E hc ht => by
 unfold k69 at hc
 split at hc
 · simp only [Option.bind_eq_some_iff] at hc
   obtain ⟨d, hd, he⟩ := hc
   cases he
   rw [dcV_eq hd]
   exact CallOK.pure (by kernel_rfl) rfl rfl (w69 _) _ _
 · cases hc
def toldD (d : Dc) (s : Sh) : Dc × Bool × Int := if !d.good then (zDc, false, 402) else if !s.good then (zDc, false, 400) else ((showS d s).1, (showS d s).2, 0)
def TQ10 : List (Nat × Ct) := [(68, k68), (69, k69), (70, k70)]
theorem hTQ10 : Sound Try.prog (cxT TQ10) := Sound.cons s68 <| Sound.cons s69 <| Sound.cons s70 Sound.nil
theorem Dc.eta (d : Dc) : Dc.mk (Ly.mk d.x.lv d.x.id d.x.ba d.x.op) (Ly.mk d.y.lv d.y.id d.y.ba d.y.op) (Ly.mk d.z.lv d.z.id d.z.ba d.z.op) = d := rfl
theorem w47 (d : Dc) (s : Sh) : FTL Try.prog 47 [.agg d.l, .agg s.l] [] 0 (.tup [.agg (toldD d s).1.l, .b (toldD d s).2.1, .i .i64 (toldD d s).2.2]) [] 0 := by
 refine FTL.of_iw hTQ10 mo Try.func47 i47_eq (by simp [i47]) (iw_of_jw ?_)
 dsimp only [i47, TQ10]
 generalize hR : toldD d s = R
 by_cases hd : d.good = true
 · by_cases hs : s.good = true
   · simp (maxSteps := 400000) only [go_sem, Dc.l, Sh.l, k68, k69, k70, dcV, vwB, hd, hs, Dc.eta, Sh.eta, vw, simprocAttr]
     rw [← hR]
     exact Ends.pureE rfl (by simp [toldD, hd, hs])
   · simp (maxSteps := 400000) only [go_sem, Dc.l, Sh.l, k68, k69, k70, dcV, vwB, hd, hs, Dc.eta, Sh.eta, vw, Bool.false_eq_true, simprocAttr]
     rw [← hR]
     exact Ends.pureE rfl (by simp [toldD, hd, hs, zDc, zLy])
 · simp (maxSteps := 400000) only [go_sem, Dc.l, Sh.l, k68, k69, k70, dcV, vwB, hd, Dc.eta, Sh.eta, vw, Bool.false_eq_true, simprocAttr]
   rw [← hR]
   exact Ends.pureE rfl (by simp [toldD, hd, zDc, zLy])
def k47 : Ct
 | [.agg l, .agg m], _, n => (dcV l).bind fun d => (shV m).bind fun s => some (true, { v := .tup [.agg (toldD d s).1.l, .b (toldD d s).2.1, .i .i64 (toldD d s).2.2], n })
 | _, _, _ => none
theorem s47 : SoundAt Try.prog 47 k47 := fun args h n c E hc ht => by
 unfold k47 at hc
 split at hc
 · simp only [Option.bind_eq_some_iff] at hc
   obtain ⟨d, hd, s, hs, he⟩ := hc
   cases he
   rw [dcV_eq hd, shV_eq hs]
   exact CallOK.pure (by kernel_rfl) rfl rfl (w47 _ _) _ _
 · cases hc
end Go.Proofs.Lys
