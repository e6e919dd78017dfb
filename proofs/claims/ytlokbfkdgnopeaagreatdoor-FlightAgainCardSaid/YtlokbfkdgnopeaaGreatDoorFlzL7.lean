/- The law FlightAgain. -/
import Derived.Test.YtlokbfkdgnopeaaGreatDoorFlzMa
import Derived.Test.YtlokbfkdgnopeaaGreatDoorFlzRb
import Derived.Test.YtlokbfkdgnopeaaGreatDoorFlzK
import Derived.Test.YtlokbfkdgnopeaaGreatDoorFlzI7
import Derived.Test.YtlokbfkdgnopeaaGreatDoorFltTa
namespace Go.Proofs.Flz
open Go.Ab Go.Proofs.Flt
set_option maxRecDepth 100000
set_option maxHeartbeats 4000000
set_option linter.unusedSimpArgs false
set_option linter.unusedVariables false
def jc (b : Int) (L : List (List UInt8)) (i : Nat) : List AV := if i = 0 then [.i .i64 b, .ns] else (JJ b L i).a
theorem jc_N (b : Int) (L : List (List UInt8)) (i : Nat) : jnN (jc b L i) = some (JJ b L i) := by
 unfold jc
 split
 · rename_i h; subst h; rfl
 · have : unrows 5 hf5 (JJ b L i).hs.length (rows Flt.Hf.l (JJ b L i).hs) = some (JJ b L i).hs := unrows_rows Flt.Hf.len hf5_l (JJ b L i).hs
   simp only [jnN, Jn.a, this, Option.map_some]
theorem jc_bel (b : Int) (L : List (List UInt8)) (i : Nat) : belL 0 (jc b L i) = true := by
 unfold jc
 split
 · rfl
 · exact Jn.bel _
theorem jc_len (b : Int) (L : List (List UInt8)) (i : Nat) : (jc b L i).length = 2 := by unfold jc; split <;> rfl
theorem jc_one (b : Int) (L : List (List UInt8)) (i : Nat) : oneAll (jc b L i) = true := by unfold jc; split <;> rfl
theorem jF_ok {j : Jn} (h : jnB j = true) : jnF j = true := by
 obtain ⟨h1, h2⟩ := jnB_bnd h
 simp only [jnF, Bool.and_eq_true, decide_eq_true_eq, List.all_eq_true]
 refine ⟨by omega, fun x hx => ?_⟩
 have := h2 x hx
 simp only [hfF, Bool.and_eq_true, decide_eq_true_eq]; omega
noncomputable def TL7 (k9 k19 : Ct) : List (Nat × Ct) := [(9, k9), (17, k17), (19, k19), (23, k23n), (25, k25)]
noncomputable abbrev FL7 (k9 k19 : Ct) : Fx := ⟨Tryz.prog, cxT (TL7 k9 k19), [23, 52, 63, 67], 93, 0⟩
theorem w7 (d : Dr) (hd : d.ok = true) (sz od : List UInt8) (stp wh : Nat) (hs : stp < 256) (hw : wh < 256) (hsz : sz.length ≤ 9223372036854775807) (hod : od.length ≤ 9223372036854775807) :
 FTL Tryz.prog 7 [.agg d.a, .fz (rows u81 sz) sz.length, .fz (rows u81 od) od.length, .i .u8 stp, .i .u8 wh] [] 0 (.b true) [] 0 := by
 have hcut := notes_cuts hd (sz.take 5)
 have hd2 := hd
 simp only [Dr.ok, Bool.and_eq_true, decide_eq_true_eq] at hd2
 have hfi : 0 ≤ d.fi ∧ d.fi ≤ 65535 := ⟨hd2.1.1, hd2.1.2.1⟩
 have hnl := notes_len d
 obtain ⟨z, hz1, hz2, hz3⟩ : ∃ z : Nat, min (sz.length : Int) 5 = (z : Int) ∧ z ≤ sz.length ∧ z = min 5 sz.length := ⟨min 5 sz.length, by omega, by omega, rfl⟩
 obtain ⟨y, hy1, hy2, hy3⟩ : ∃ y : Nat, min (od.length : Int) 60 = (y : Int) ∧ y ≤ od.length ∧ y = min 60 od.length := ⟨min 60 od.length, by omega, by omega, rfl⟩
 have hzt : (sz.take 5).length = z := by rw [List.length_take, hz3]
 have hyt : (od.take 60).length = y := by rw [List.length_take, hy3]
 obtain ⟨L, hL⟩ : ∃ L, L = mixS (notesS d) (sz.take 5) (od.take 60) := ⟨_, rfl⟩
 have hway := fun i => way (sz.take 5) (od.take 60) hcut hL (i := i)
 have v9 := w9 d hd
 have v19 := w19 (notesS d) (sz.take 5) (od.take 60) (by omega) hcut.ok (by omega) (by omega)
 rw [← hL, hzt, hyt] at v19
 have v19 : FTL Tryz.prog 19 [.fz (rows Nt.l (notesS d)) (notesS d).length, .fz (rows u81 sz) z, .fz (rows u81 od) y] [] 0 (.fz (rows st1 L) L.length) [] 0 :=
  FTL.wka (xs := [.fz (rows Nt.l (notesS d)) (notesS d).length, .fz (rows u81 sz) z, .fz (rows u81 od) y]) (ys := [.fz (rows Nt.l (notesS d)) (notesS d).length, .fz (rows u81 (sz.take 5)) z, .fz (rows u81 (od.take 60)) y]) ⟨Wka.refl _, by rw [← u8_take]; exact Wka.take _ _ _, by rw [← u8_take]; exact Wka.take _ _ _, trivial⟩ v19
 have hsl : ∀ i, i < L.length → (L.getD i []).length ≤ 9223372036854775807 := fun i hi => by
  have := take_len ((hway L.length (Nat.le_refl _)).2.1 i hi)
  omega
 have hLl : L.length ≤ 40000 := by rw [hL]; exact mixS_len _ _ (by omega) hcut.ok
 generalize notesS d = NS at *
 have nb := fun j => nt_B j NS
 have zb := fun j => u8B j sz
 have yb := fun j => u8B j od
 have lb := fun j => stB j L
 have hda : ∀ j, belL j d.a = true := fun j => belL_mono0 _ d.bel
 have s9 : SoundAt Tryz.prog 9 (kP [.agg d.a] (.fz (rows Nt.l NS) NS.length)) := kP_sound (by kernel_rfl) (by simp only [belL, AV.bel, hda, Bool.and_self]) (by simp only [AV.bel, nb]) v9
 have s19 : SoundAt Tryz.prog 19 (kP [.fz (rows Nt.l NS) NS.length, .fz (rows u81 sz) z, .fz (rows u81 od) y] (.fz (rows st1 L) L.length)) := kP_sound (by kernel_rfl) (by simp only [belL, AV.bel, nb, zb, yb, Bool.and_self]) (by simp only [AV.bel, lb]) v19
 have q9 : ∀ (h : Hp) n, kP [.agg d.a] (.fz (rows Nt.l NS) NS.length) [.agg d.a] h n = some (true, { v := .fz (rows Nt.l NS) NS.length, n }) := fun h n => kP_at h n
 have q19 : ∀ (h : Hp) n, kP [.fz (rows Nt.l NS) NS.length, .fz (rows u81 sz) z, .fz (rows u81 od) y] (.fz (rows st1 L) L.length) [.fz (rows Nt.l NS) NS.length, .fz (rows u81 sz) z, .fz (rows u81 od) y] h n = some (true, { v := .fz (rows st1 L) L.length, n }) := fun h n => kP_at h n
 generalize kP [.agg d.a] (.fz (rows Nt.l NS) NS.length) = k9 at *
 generalize kP [.fz (rows Nt.l NS) NS.length, .fz (rows u81 sz) z, .fz (rows u81 od) y] (.fz (rows st1 L) L.length) = k19 at *
 have hT : Sound Tryz.prog (cxT (TL7 k9 k19)) := Sound.cons s9 <| Sound.cons s17 <| Sound.cons s19 <| Sound.cons s23n <| Sound.cons s25 Sound.nil
 clear v9 v19 s9 s19
 have tmn : ∀ p q : Nat, (p : Int).tmod (q : Int) = ((p % q : Nat) : Int) := fun p q => by rw [Int.tmod_eq_emod_of_nonneg (by omega)]; rfl
 have wl : IntKind.i64.wrap ((L.length : Int) + 1) = ((L.length + 1 : Nat) : Int) := by rw [wrapL (by omega) (by omega)]; omega
 have ws : IntKind.i64.wrap (stp : Int) = (stp : Int) := wrapL (by omega) (by omega)
 have ww : IntKind.i64.wrap (wh : Int) = (wh : Int) := wrapL (by omega) (by omega)
 have wf : IntKind.i64.wrap d.fi = d.fi := wrapL (by omega) (by omega)
 have o1 := tmn stp (L.length + 1)
 have m1 := Nat.mod_lt stp (show 0 < L.length + 1 by omega)
 generalize hk : stp % (L.length + 1) = κ at *
 have o2 := tmn wh κ
 have c1 : decide (0 ≤ (z : Int) ∧ (z : Int) ≤ (sz.length : Int)) = true := decide_eq_true (by omega)
 have c2 : decide (0 ≤ (y : Int) ∧ (y : Int) ≤ (od.length : Int)) = true := decide_eq_true (by omega)
 have c3 : decide (0 ≤ (κ : Int) ∧ (κ : Int) ≤ (L.length : Int)) = true := decide_eq_true (by omega)
 have c4 : (((L.length + 1 : Nat) : Int) != 0) = true := by rw [bne_iff_ne]; omega
 refine FTL.of_iw hT mo Tryz.func7 i7_eq (by simp [i7]) (iw_of_jw ?_)
 dsimp only [i7, TL7]
 generalize hJ : JJ d.fi L = J at *
 have hjc := jc_N d.fi L
 have hjb := jc_bel d.fi L
 have hjl := jc_len d.fi L
 have hjo := jc_one d.fi L
 have hj0 : jc d.fi L 0 = [.i .i64 d.fi, .ns] := rfl
 have hjs : ∀ i, jc d.fi L (i + 1) = (J (i + 1)).a := fun i => by rw [← hJ]; rfl
 rw [hJ] at hjc
 have hJs : ∀ i, J (i + 1) = (takeS (J i) (L.getD i [])).1 := fun i => by rw [← hJ]; rfl
 clear hJ
 have hda3 : d.a.length = 3 := rfl
 generalize hFI : d.fi = fi at *
 have hd0 : d.a = [.i .u16 fi, .fz (rows u81 d.ki) d.ki.length, .fz (rows bd1 d.bo) d.bo.length] := by rw [← hFI]; rfl
 rw [hd0] at q9 ⊢
 generalize jc fi L = JC at *
 simp (maxSteps := 400000) only [go_sem, k17, q9, hz1, hy1, c1, c2, q19, wf, ws, wl, o1, c4, c3, List.drop_zero, simprocAttr]
 refine Loop.countI (F := FL7 k9 k19) hT mo κ (fun _ => True) (fun i => [(4, .i .u8 (wh : Int)), (11, .fz (rows st1 L) L.length), (12, .p 1 0), (13, .i .i64 (κ : Int)), (49, .fz (rows st1 L) κ), (50, .i .i64 (κ : Int)), (51, .i .i64 (i : Int))]) (fun i => [(1, { cells := JC i })]) 2 (Nat.zero_le _) trivial ?_ ?_ (fun i hi _ => ?_)
 · simp (maxSteps := 400000) only [go_sem, Int.natCast_zero, AV.bel, belL, nblt, lb, simprocAttr]
 · rw [hj0]
   simp (maxSteps := 400000) only [go_sem, AV.bel, belL, nblt, simprocAttr]
 dsimp only [FL7, TL7]
 have jt : List.take 2 (JC i) = JC i := List.take_of_length_le (by rw [hjl]; exact Nat.le_refl _)
 have jd : ∀ X : List AV, List.take 0 (JC i) ++ X ++ List.drop 2 (JC i) = X := fun X => by rw [List.drop_of_length_le (by rw [hjl]; exact Nat.le_refl _)]; simp
 have jl := hjl i
 have jo := hjo i
 have jb : ∀ k, belL k (JC i) = true := fun k => belL_mono0 _ (hjb i)
 have hwi := hway i (by omega)
 have hjF := jF_ok hwi.1
 by_cases hlt : i < κ
 · have d1 : decide ((i : Int) < (κ : Int)) = true := decide_eq_true (by omega)
   have d2 : decide (0 ≤ (i : Int) ∧ (i : Int) < (κ : Int)) = true := decide_eq_true (by omega)
   obtain ⟨s, hs⟩ : ∃ s, L[i]? = some s := ⟨_, List.getElem?_eq_getElem (by omega)⟩
   have hg : L.getD i [] = s := by simp only [List.getD_eq_getElem?_getD, hs, Option.getD_some]
   have hr := st_get3 hs
   have hsl := hsl i (by omega)
   rw [hg] at hsl
   have he := (hway (i + 1) (by omega)).2.1 i (by omega)
   have hJi := hJs i
   have hji := hjs i
   rw [hg] at he hJi
   have q23 : ∀ (h : Hp) n, k23n [.agg (JC i), .s s] h n = some (true, { v := .tup [.agg (J (i + 1)).a, .fz (rows Nt.l (takeS (J i) s).2.1) (takeS (J i) s).2.1.length, .i .i64 0], n }) := fun h n => by
    simp only [k23n, hjc i, Option.bind_some, hjF, decide_eq_true hsl, Bool.and_self, tkR, he, hJi]
   have wi : IntKind.i64.wrap ((i : Int) + 1) = ((i + 1 : Nat) : Int) := by rw [wrapL (by omega) (by omega)]; omega
   have a1 : (J (i + 1)).a.length = 2 := rfl
   have a2 : ∀ k, belL k (J (i + 1)).a = true := fun k => belL_mono0 _ (Jn.bel _)
   have a3 : oneAll (J (i + 1)).a = true := rfl
   have a4 : List.take 2 (J (i + 1)).a = (J (i + 1)).a := rfl
   rw [hji]
   generalize (J (i + 1)).a = JA at *
   generalize (takeS (J i) s).2.1 = NL at *
   simp (maxSteps := 400000) only [go_sem, d1, d2, hr, jt, jl, jo, jd, q23, wi, a1, a2, a3, a4, Nat.mul_one, List.drop_zero, AV.bel, belL, nblt, lb, jb, simprocAttr]
   exact hlt
 · obtain rfl : i = κ := by omega
   have d1 : decide ((i : Int) < (i : Int)) = false := decide_eq_false (by omega)
   cases d2 : ((i : Int) == 0)
   · have hi0 : 0 < i := by have := beq_eq_false_iff_ne.1 d2; omega
     have m2 := Nat.mod_lt wh hi0
     generalize wh % i = w at *
     obtain ⟨s, hs⟩ : ∃ s, L[w]? = some s := ⟨_, List.getElem?_eq_getElem (by omega)⟩
     have hg : L.getD w [] = s := by simp only [List.getD_eq_getElem?_getD, hs, Option.getD_some]
     have hr := st_get3 hs
     have hsl := hsl w (by omega)
     have he := hwi.2.2.1 w m2
     rw [hg] at hsl he
     have q23 : ∀ (h : Hp) n, k23n [.agg (JC i), .s s] h n = some (true, { v := .tup [.agg (J i).a, .fz [] 0, .i .i64 0], n }) := fun h n => by
      simp only [k23n, hjc i, Option.bind_some, hjF, decide_eq_true hsl, Bool.and_self, tkR, he]; rfl
     have hJa : jnN (J i).a = some (J i) := by
      have : unrows 5 hf5 (J i).hs.length (rows Flt.Hf.l (J i).hs) = some (J i).hs := unrows_rows Flt.Hf.len hf5_l (J i).hs
      simp only [jnN, Jn.a, this, Option.map_some]
     have hbd := jnB_bnd hwi.1
     have q25 : ∀ (h : Hp) n, k25 [.agg (J i).a, .agg (JC i)] h n = some (true, { v := .b true, n }) := fun h n => by
      have b1 : decide ((J i).hs.length ≤ 1000000) = true := decide_eq_true (by omega)
      have b2 : ((J i).hs.all fun h => decide (h.got.length ≤ 1000000)) = true := List.all_eq_true.2 (fun x hx => decide_eq_true (by have := hbd.2 x hx; omega))
      simp only [k25, hjc i, hJa, Option.bind_some, Jn.eqB_refl, b1, b2, Bool.and_self]
     have d3 : ((i : Int) != 0) = true := by rw [bne_iff_ne]; omega
     have d4 : decide (0 ≤ (w : Int) ∧ (w : Int) < (L.length : Int)) = true := decide_eq_true (by omega)
     have a1 : (J i).a.length = 2 := rfl
     have a3 : oneAll (J i).a = true := rfl
     have a4 : List.take 2 (J i).a = (J i).a := rfl
     generalize (J i).a = JA at *
     simp (maxSteps := 400000) only [go_sem, d1, d2, d3, d4, hr, jt, jl, jo, q23, q25, o2, ww, a1, a3, a4, Nat.mul_one, List.drop_zero, simprocAttr]
     exact Ends.pureE rfl rfl
   · simp (maxSteps := 400000) only [go_sem, d1, d2, simprocAttr]
     exact Ends.pureE rfl rfl
end Go.Proofs.Flz
