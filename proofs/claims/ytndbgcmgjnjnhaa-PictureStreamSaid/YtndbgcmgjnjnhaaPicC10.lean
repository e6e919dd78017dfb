/- Contract of chapter 40: the frames of a stream. -/
import Derived.Test.YtndbgcmgjnjnhaaPicP2
import Derived.Test.YtndbgcmgjnjnhaaAbShs
namespace Go.Proofs.Pic
open Go.Ab
set_option maxRecDepth 100000
set_option maxHeartbeats 8000000
set_option linter.unusedSimpArgs false
set_option linter.unusedVariables false
def b1 (x : Bool) : List AV := [.b x]
def b1V : List AV → Option Bool
  | [.b x] => some x
  | _ => none
theorem b1V_eq (c : List AV) (a : Bool) (h : b1V c = some a) : c = b1 a := by
  unfold b1V at h
  split at h
  · cases h; rfl
  · cases h
theorem Sh.len (s : Sh) : s.l.length = 8 := rfl
theorem Sh.bel0 (s : Sh) : belL 0 s.l = true := rfl
def frL (f : Int) (ks : List Bool) (m : Nat) : List Sh := (List.range m).map (fr f ks)
theorem frL_len (f : Int) (ks : List Bool) (m : Nat) : (frL f ks m).length = m := by simp [frL]
theorem frL_succ (f : Int) (ks : List Bool) (m : Nat) : frL f ks (m + 1) = frL f ks m ++ [fr f ks m] := by simp [frL, List.range_succ]
abbrev shQ : List Sh → Ab.Sh := gQ Sh.l 8
theorem shQ_snoc (l : List Sh) (x : Sh) : shQ (l ++ [x]) = gS Sh.l 8 l x.l := gQ_snoc
theorem shQ_is (l : List Sh) : (shQ l).is Sh.l 8 l := gQ_is Sh.bel0 Sh.len l
theorem shrow (l : List Sh) : (rows Sh.l l).length = l.length * 8 := rows_len Sh.len
theorem w30 (f : Int) (s : Ab.Sh) (ks : List Bool) (hs : s.is b1 1 ks) (hf : 0 ≤ f ∧ f ≤ 65535) : FTL Try.prog 30 [.i .u16 f, s.v 0] (s.h 0) 1 ((shQ (frL f ks (min ks.length 40))).v 1) (s.h 0 ++ (shQ (frL f ks (min ks.length 40))).h 1) 2 := by
  refine FTL.of_iw Sound.nil mo Try.func30 i30_eq (by simp [i30]) (iw_of_jw ?_)
  dsimp only [i30]
  have hp := hs.pl
  have hln := hs.ln
  obtain ⟨m, hm⟩ : ∃ m, min ks.length 40 = m := ⟨_, rfl⟩
  rw [hm]
  have qm := shQ_is (frL f ks m)
  have fin : ∀ (n : Nat) (r : Hp) (v : AV), v = (shQ (frL f ks m)).v 1 → hasS r s 0 → hasS r (shQ (frL f ks m)) 1 → Go.Ab.Ends 1 v r n ((shQ (frL f ks m)).v 1) (s.h 0 ++ (shQ (frL f ks m)).h 1) 2 := fun n r v hv h1 h2 =>
    Ends.s1n (s := s) (U := fun b => (shQ (frL f ks m)).v b) hp qm.pl (by decide) hv (fun ψ => v_ren) (v_bel (by decide)) h1 h2
  generalize hU : (shQ (frL f ks m)).v 1 = U at *
  generalize hHH : s.h 0 ++ (shQ (frL f ks m)).h 1 = HH at *
  have m1 : f.tmod 32768 = f % 32768 := Int.tmod_eq_emod_of_nonneg hf.1
  have m2 : f.tmod 256 = f % 256 := Int.tmod_eq_emod_of_nonneg hf.1
  have m3 : IntKind.i64.wrap (f % 32768) = f % 32768 := wrapL (by omega) (by omega)
  have m4 : IntKind.i64.wrap (f % 256) = f % 256 := wrapL (by omega) (by omega)
  simp (config := { maxSteps := 400000 }) only [go_sem, m1, m2, m3, m4, simprocAttr]
  refine Loop.stepR (F := ⟨Try.prog, cxT [], [24, 40, 58, 65, 34], 85, 1⟩) Sound.nil mo (X := Nat) (fun k => k ≤ m) (fun k => m - k)
    (fun k => [(1, s.v 0), (5, (shQ (frL f ks k)).v 1), (6, .i .i64 (sq f ks k).id), (7, .i .i64 (sq f ks k).ba), (8, .i .i64 (sq f ks k).fr), (9, .i .i64 (k : Int))])
    (fun k => (shQ (frL f ks k)).h 1 ++ s.h 0) 2 0 (fun k => k + 1) [] (fun _ => [(1, 4)]) (by decide) (by decide) (fun _ => by decide) (Nat.zero_le _) ?_ ?_ (fun k hk => ?_)
  · have h1 : shQ (frL f ks 0) = .nil := rfl
    have h2 : sq f ks 0 = ⟨f % 32768, f % 256, 0⟩ := rfl
    simp (config := { maxSteps := 400000 }) only [go_sem, h1, h2, AV.ren, renL, AV.bel, belL, nblt, simprocAttr]
  · have h1 : shQ (frL f ks 0) = .nil := rfl
    simp (config := { maxSteps := 400000 }) only [go_sem, h1, hp, AV.bel, belL, nblt, Blk.ren, renL, AV.ren, simprocAttr]
  · by_cases hlt : k < m
    · have hkl : k < ks.length := by omega
      have ne : s ≠ .nil := hs.ne (by rintro rfl; simp at hkl)
      have ss : slParts (s.v 0) = some (0, s.o, s.len) := slParts_v ne
      have gs0 : ∀ r : Hp, hget (s.h 0) 0 = some s.blk := fun _ => hget_at0 ne
      have gs0 := gs0 []
      have rx := row_get (f := b1) (z := 1) (j := 0) (v := .b (ks.getD k false)) (fun _ => rfl) (hs.cells ne).1 (show ks[k]? = some (ks.getD k false) by rw [List.getD_eq_getElem?_getD, List.getElem?_eq_getElem hkl]; rfl) rfl
      rw [Nat.add_zero] at rx
      have c1 : decide ((k : Int) < (ks.length : Int)) = true := decide_eq_true (by omega)
      have c40 : decide ((k : Int) < 40) = true := decide_eq_true (by omega)
      have c2 : decide (0 ≤ (k : Int) ∧ (k : Int) < (ks.length : Int)) = true := decide_eq_true (by omega)
      have hw : IntKind.i64.wrap ((k : Int) + 1) = ((k + 1 : Nat) : Int) := by rw [wrapL (by omega) (by omega)]; omega
      have hsk : m - (k + 1) < m - k := by omega
      have pQ' := (shQ_is (frL f ks (k + 1))).pl
      have zL := frL_len f ks k
      rw [frL_succ, shQ_snoc] at pQ' ⊢
      have e1 : fr f ks k = (frame k (ks.getD k false) (sq f ks k)).1 := rfl
      have e2 : sq f ks (k + 1) = (frame k (ks.getD k false) (sq f ks k)).2 := rfl
      have ok := sq_ok (f := f) (ks := ks) k
      rw [e2]
      rw [e1] at pQ' ⊢
      clear e1 e2
      generalize frL f ks k = L at *
      generalize ks.getD k false = key at *
      generalize sq f ks k = q at *
      obtain ⟨id, ba, fr⟩ := q
      obtain ⟨a1, a2, a3, a4, a5, a6, a7, a8⟩ := ok
      dsimp only at a1 a2 a3 a4 a5 a6 a7 a8
      have gm : decide (40 * (k + 1) ≤ growMax) = true := decide_eq_true (by simp only [growMax]; omega)
      have t1 : (k : Int).tmod 4 = (k : Int) % 4 := Int.tmod_eq_emod_of_nonneg (by omega)
      have t2 : IntKind.i64.wrap (ba + 1) = ba + 1 := wrapL (by omega) (by omega)
      have t3 : (ba + 1).tmod 256 = (ba + 1) % 256 := Int.tmod_eq_emod_of_nonneg (by omega)
      have t4 : IntKind.i64.wrap (id + 1) = id + 1 := wrapL (by omega) (by omega)
      have t5 : (id + 1).tmod 32768 = (id + 1) % 32768 := Int.tmod_eq_emod_of_nonneg (by omega)
      have frr : 0 ≤ fr ∧ fr ≤ 2 := by
        rcases (show k = 0 ∨ (0 < k ∧ k % 4 = 0) ∨ k % 4 = 1 ∨ k % 4 = 2 ∨ k % 4 = 3 by omega) with h | h | h | h | h
        · have := a4 h; omega
        · have := a5 h.1 h.2; omega
        · have := a6 h; omega
        · have := a7 h; omega
        · have := a8 h; omega
      have t6 : IntKind.i64.wrap (fr + 1) = fr + 1 := wrapL (by omega) (by omega)
      by_cases k0 : k = 0
      · have b0 : ((k : Int) == 0) = true := by simp [k0]
        have eF : frame k key ⟨id, ba, fr⟩ = (⟨true, true, false, true, id, (ba + 1) % 256, 0, 0⟩, ⟨(id + 1) % 32768, (ba + 1) % 256, 0⟩) := by unfold frame; rw [if_pos (.inl k0)]
        rw [eF] at pQ' ⊢
        simp only [Sh.l] at pQ'
        simp (config := { maxSteps := 400000 }) only [go_sem, c1, c40, hw, hln, b0, t1, t2, t3, t4, t5, t6, gm, zL, shrow, Sh.l, hlt, hsk, pQ', hp, AV.bel, belL, nblt, Blk.ren, renL, AV.ren, simprocAttr]
        omega
      · have b0 : ((k : Int) == 0) = false := beq_eq_false_iff_ne.2 (by omega)
        by_cases k4 : k % 4 = 0
        · have b4 : ((k : Int) % 4 == 0) = true := beq_iff_eq.2 (by omega)
          cases key
          · have eF : frame k false ⟨id, ba, fr⟩ = (⟨true, false, false, true, id, (ba + 1) % 256, 0, 0⟩, ⟨(id + 1) % 32768, (ba + 1) % 256, fr⟩) := by unfold frame; rw [if_neg (by simp [k0]), if_pos k4]
            rw [eF] at pQ' ⊢
            simp only [Sh.l] at pQ'
            simp (config := { maxSteps := 400000 }) only [go_sem, c1, c2, c40, hw, hln, b0, b4, ss, gs0, rx, t1, t2, t3, t4, t5, t6, gm, zL, shrow, Sh.l, hlt, hsk, pQ', hp, AV.bel, belL, nblt, Blk.ren, renL, AV.ren, simprocAttr]
            omega
          · have eF : frame k true ⟨id, ba, fr⟩ = (⟨true, true, false, true, id, (ba + 1) % 256, 0, 0⟩, ⟨(id + 1) % 32768, (ba + 1) % 256, 0⟩) := by unfold frame; rw [if_pos (.inr ⟨k4, rfl⟩)]
            rw [eF] at pQ' ⊢
            simp only [Sh.l] at pQ'
            simp (config := { maxSteps := 400000 }) only [go_sem, c1, c2, c40, hw, hln, b0, b4, ss, gs0, rx, t1, t2, t3, t4, t5, t6, gm, zL, shrow, Sh.l, hlt, hsk, pQ', hp, AV.bel, belL, nblt, Blk.ren, renL, AV.ren, simprocAttr]
            omega
        · have b4 : ((k : Int) % 4 == 0) = false := beq_eq_false_iff_ne.2 (by omega)
          by_cases k2 : k % 4 = 2
          · have b2 : ((k : Int) % 4 == 2) = true := beq_iff_eq.2 (by omega)
            have eF : frame k key ⟨id, ba, fr⟩ = (⟨true, false, fr == 0, true, id, ba, 1, 0⟩, ⟨(id + 1) % 32768, ba, max fr 1⟩) := by unfold frame; rw [if_neg (by simp [k0, k4]), if_neg k4, if_pos k2]
            rw [eF] at pQ' ⊢
            simp only [Sh.l] at pQ'
            simp (config := { maxSteps := 400000 }) only [go_sem, c1, c2, c40, hw, hln, b0, b4, b2, t1, t2, t3, t4, t5, t6, gm, zL, shrow, Sh.l, hlt, hsk, pQ', hp, AV.bel, belL, nblt, Blk.ren, renL, AV.ren, simprocAttr]
            omega
          · have b2 : ((k : Int) % 4 == 2) = false := beq_eq_false_iff_ne.2 (by omega)
            by_cases f0 : fr = 0
            · have bf : (fr == 0) = true := beq_iff_eq.2 f0
              have eF : frame k key ⟨id, ba, fr⟩ = (⟨true, false, true, true, id, ba, 1, 0⟩, ⟨(id + 1) % 32768, ba, 1⟩) := by unfold frame; rw [if_neg (by simp [k0, k4]), if_neg k4, if_neg k2, if_pos f0]
              have mf : min (fr + 1) 2 = 1 := by omega
              rw [eF] at pQ' ⊢
              simp only [Sh.l] at pQ'
              simp (config := { maxSteps := 400000 }) only [go_sem, c1, c2, c40, hw, hln, b0, b4, b2, bf, mf, t1, t2, t3, t4, t5, t6, gm, zL, shrow, Sh.l, hlt, hsk, pQ', hp, AV.bel, belL, nblt, Blk.ren, renL, AV.ren, simprocAttr]
              omega
            · have bf : (fr == 0) = false := beq_eq_false_iff_ne.2 f0
              have eF : frame k key ⟨id, ba, fr⟩ = (⟨true, false, fr == 1, true, id, ba, 2, 0⟩, ⟨(id + 1) % 32768, ba, min (fr + 1) 2⟩) := by unfold frame; rw [if_neg (by simp [k0, k4]), if_neg k4, if_neg k2, if_neg f0]
              rw [eF] at pQ' ⊢
              simp only [Sh.l] at pQ'
              simp (config := { maxSteps := 400000 }) only [go_sem, c1, c2, c40, hw, hln, b0, b4, b2, bf, t1, t2, t3, t4, t5, t6, gm, zL, shrow, Sh.l, hlt, hsk, pQ', hp, AV.bel, belL, nblt, Blk.ren, renL, AV.ren, simprocAttr]
              omega
    · have hkm : k = m := by omega
      subst hkm
      by_cases hc : k < ks.length
      · have c1 : decide ((k : Int) < (ks.length : Int)) = true := decide_eq_true (by omega)
        have c40 : decide ((k : Int) < 40) = false := decide_eq_false (by omega)
        simp (config := { maxSteps := 400000 }) only [go_sem, c1, c40, hln, simprocAttr]
        refine fin _ _ _ ?_ ?_ ?_
        · exact hU
        · simp [hasS_skip, hasS_hit0]
        · simp [hasS_hit]
      · have c1 : decide ((k : Int) < (ks.length : Int)) = false := decide_eq_false (by omega)
        simp (config := { maxSteps := 400000 }) only [go_sem, c1, hln, simprocAttr]
        refine fin _ _ _ ?_ ?_ ?_
        · exact hU
        · simp [hasS_skip, hasS_hit0]
        · simp [hasS_hit]
def k30 : Ct
  | [.i .u16 f, v], h, n => (shAt v h).bind fun s => (rdL b1V 1 s).bind fun ks => some (decide (0 ≤ f ∧ f ≤ 65535), { v := (shQ (frL f ks (min ks.length 40))).v (n + 1), n := n + 2, rd := shR v, nw := (shQ (frL f ks (min ks.length 40))).h (n + 1) })
  | _, _, _ => none
theorem s30 : SoundAt Try.prog 30 k30 := fun args h n c E hc ht => by
  unfold k30 at hc
  split at hc
  · rename_i f v
    simp only [Option.bind_eq_some_iff] at hc
    obtain ⟨s, hs, ks, hl, he⟩ := hc
    cases he
    have hp : s.is b1 1 ks := rdL_inv b1V_eq hl
    have := CallOK.sh1n (n := n) (A := fun b => [.i .u16 f, s.v b]) (U := fun b => (shQ (frL f ks (min ks.length 40))).v b) (by kernel_rfl) (by simp [belL, AV.bel, v_bel]) hs hp.pl (shQ_is _).pl (gQ_fresh _) (fun ψ => by simp [renL, AV.ren, v_ren]) (fun h0 i => by subst h0; rfl) (fun ψ => v_ren) (w30 f s ks hp (of_decide_eq_true ht))
    rwa [← (shAt_inv hs).1] at this
  · cases hc
end Go.Proofs.Pic
