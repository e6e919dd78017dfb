/- Texts laid as one: FlzL7 FlzL6. -/
import Derived.Test.YtlokbfkdgnopeaaGreatDoorFlzMa
import Derived.Test.YtlokbfkdgnopeaaGreatDoorFlzRb
import Derived.Test.YtlokbfkdgnopeaaGreatDoorFlzK
import Derived.Test.YtlokbfkdgnopeaaGreatDoorFlzI7
import Derived.Test.YtlokbfkdgnopeaaGreatDoorFltQa
import Derived.Test.YtlokbfkdgnopeaaGreatDoorFlzI6
import Derived.Test.YtlokbfkdgnopeaaGreatDoorAbShs
section
/- The law FlightAgain. -/
namespace Go.Proofs.Flz
open Go.Ab Go.Proofs.Flt
set_option maxRecDepth 100000
set_option maxHeartbeats 4000000
set_option linter.unusedSimpArgs false
set_option linter.unusedVariables false
def jc (b : Int) (L : List (List UInt8)) (i : Nat) : List AV := if i = 0 then [.i .i64 b, .ns] else (JJ b L i).a
theorem jc_N (b : Int) (L : List (List UInt8)) (i : Nat) : jnN (jc b L i) = some (JJ b L i) := by
 unfold jc
 split
 · rename_i h; subst h; rfl
 · have : unrows 5 hf5 (JJ b L i).hs.length (rows Flt.Hf.l (JJ b L i).hs) = some (JJ b L i).hs := unrows_rows Flt.Hf.len hf5_l (JJ b L i).hs
   simp only [jnN, Jn.a, this, Option.map_some]
theorem jc_bel (b : Int) (L : List (List UInt8)) (i : Nat) : belL 0 (jc b L i) = true := by
 unfold jc
 split
 · rfl
 · exact Jn.bel _
theorem jc_len (b : Int) (L : List (List UInt8)) (i : Nat) : (jc b L i).length = 2 := by unfold jc; split <;> rfl
theorem jc_one (b : Int) (L : List (List UInt8)) (i : Nat) : oneAll (jc b L i) = true := by unfold jc; split <;> rfl
theorem jF_ok {j : Jn} (h : jnB j = true) : jnF j = true := by
 obtain ⟨h1, h2⟩ := jnB_bnd h
 simp only [jnF, Bool.and_eq_true, decide_eq_true_eq, List.all_eq_true]
 refine ⟨by omega, fun x hx => ?_⟩
 have := h2 x hx
 simp only [hfF, Bool.and_eq_true, decide_eq_true_eq]; omega
end Go.Proofs.Flz
end
section
/- The law FlightMeets. -/
namespace Go.Proofs.Flz
open Go.Ab Go.Proofs.Flt
set_option maxRecDepth 100000
set_option maxHeartbeats 4000000
set_option linter.unusedSimpArgs false
set_option linter.unusedVariables false
noncomputable def TL6 (k9 k19 : Ct) : List (Nat × Ct) := [(9, k9), (17, k17), (19, k19), (21, k21), (23, k23n), (25, k25), (26, k26)]
noncomputable abbrev FL6 (k9 k19 : Ct) : Fx := ⟨Tryz.prog, cxT (TL6 k9 k19), [16, 37, 53], 73, 0⟩
def nQ (l : List Nt) : Sh := gQ Nt.l 3 l
theorem nQv_0 : (nQ []).v 2 = .ns := rfl
theorem nQh_0 : (nQ []).h 2 = [] := rfl
theorem nQ_ne {l : List Nt} (h : l ≠ []) : nQ l = .sg { cells := rows Nt.l l, gr := some 3 } 0 l.length := by unfold nQ gQ; rw [if_neg (by simpa using h)]
theorem nQv_n {l : List Nt} (h : l ≠ []) : (nQ l).v 2 = .sg 2 0 l.length := by rw [nQ_ne h]; rfl
theorem nQh_n {l : List Nt} (h : l ≠ []) : (nQ l).h 2 = [(2, { cells := rows Nt.l l, gr := some 3 })] := by rw [nQ_ne h]; rfl
theorem w6 (d : Dr) (hd : d.ok = true) (sz od : List UInt8) (hsz : sz.length ≤ 9223372036854775807) (hod : od.length ≤ 9223372036854775807) :
 FTL Tryz.prog 6 [.agg d.a, .fz (rows u81 sz) sz.length, .fz (rows u81 od) od.length] [] 0 (.b true) [] 0 := by
 have hcut := notes_cuts hd (sz.take 5)
 have hd2 := hd
 simp only [Dr.ok, Bool.and_eq_true, decide_eq_true_eq] at hd2
 have hfi : 0 ≤ d.fi ∧ d.fi ≤ 65535 := ⟨hd2.1.1, hd2.1.2.1⟩
 have hnl := notes_len d
 obtain ⟨z, hz1, hz2, hz3⟩ : ∃ z : Nat, min (sz.length : Int) 5 = (z : Int) ∧ z ≤ sz.length ∧ z = min 5 sz.length := ⟨min 5 sz.length, by omega, by omega, rfl⟩
 obtain ⟨y, hy1, hy2, hy3⟩ : ∃ y : Nat, min (od.length : Int) 60 = (y : Int) ∧ y ≤ od.length ∧ y = min 60 od.length := ⟨min 60 od.length, by omega, by omega, rfl⟩
 have hzt : (sz.take 5).length = z := by rw [List.length_take, hz3]
 have hyt : (od.take 60).length = y := by rw [List.length_take, hy3]
 obtain ⟨L, hL⟩ : ∃ L, L = mixS (notesS d) (sz.take 5) (od.take 60) := ⟨_, rfl⟩
 have hway := fun i => way (sz.take 5) (od.take 60) hcut hL (i := i)
 have v9 := w9 d hd
 have v19 := w19 (notesS d) (sz.take 5) (od.take 60) (by omega) hcut.ok (by omega) (by omega)
 rw [← hL, hzt, hyt] at v19
 have v19 : FTL Tryz.prog 19 [.fz (rows Nt.l (notesS d)) (notesS d).length, .fz (rows u81 sz) z, .fz (rows u81 od) y] [] 0 (.fz (rows st1 L) L.length) [] 0 :=
  FTL.wka (xs := [.fz (rows Nt.l (notesS d)) (notesS d).length, .fz (rows u81 sz) z, .fz (rows u81 od) y]) (ys := [.fz (rows Nt.l (notesS d)) (notesS d).length, .fz (rows u81 (sz.take 5)) z, .fz (rows u81 (od.take 60)) y]) ⟨Wka.refl _, by rw [← u8_take]; exact Wka.take _ _ _, by rw [← u8_take]; exact Wka.take _ _ _, trivial⟩ v19
 have hsl : ∀ i, i < L.length → (L.getD i []).length ≤ 9223372036854775807 := fun i hi => by
  have := take_len ((hway L.length (Nat.le_refl _)).2.1 i hi)
  omega
 have hLl : L.length ≤ 40000 := by rw [hL]; exact mixS_len _ _ (by omega) hcut.ok
 generalize notesS d = NS at *
 have nb := fun j => nt_B j NS
 have zb := fun j => u8B j sz
 have yb := fun j => u8B j od
 have lb := fun j => stB j L
 have hda : ∀ j, belL j d.a = true := fun j => belL_mono0 _ d.bel
 have s9 : SoundAt Tryz.prog 9 (kP [.agg d.a] (.fz (rows Nt.l NS) NS.length)) := kP_sound (by kernel_rfl) (by simp only [belL, AV.bel, hda, Bool.and_self]) (by simp only [AV.bel, nb]) v9
 have s19 : SoundAt Tryz.prog 19 (kP [.fz (rows Nt.l NS) NS.length, .fz (rows u81 sz) z, .fz (rows u81 od) y] (.fz (rows st1 L) L.length)) := kP_sound (by kernel_rfl) (by simp only [belL, AV.bel, nb, zb, yb, Bool.and_self]) (by simp only [AV.bel, lb]) v19
 have q9 : ∀ (h : Hp) n, kP [.agg d.a] (.fz (rows Nt.l NS) NS.length) [.agg d.a] h n = some (true, { v := .fz (rows Nt.l NS) NS.length, n }) := fun h n => kP_at h n
 have q19 : ∀ (h : Hp) n, kP [.fz (rows Nt.l NS) NS.length, .fz (rows u81 sz) z, .fz (rows u81 od) y] (.fz (rows st1 L) L.length) [.fz (rows Nt.l NS) NS.length, .fz (rows u81 sz) z, .fz (rows u81 od) y] h n = some (true, { v := .fz (rows st1 L) L.length, n }) := fun h n => kP_at h n
 generalize kP [.agg d.a] (.fz (rows Nt.l NS) NS.length) = k9 at *
 generalize kP [.fz (rows Nt.l NS) NS.length, .fz (rows u81 sz) z, .fz (rows u81 od) y] (.fz (rows st1 L) L.length) = k19 at *
 have hT : Sound Tryz.prog (cxT (TL6 k9 k19)) := Sound.cons s9 <| Sound.cons s17 <| Sound.cons s19 <| Sound.cons s21 <| Sound.cons s23n <| Sound.cons s25 <| Sound.cons s26 Sound.nil
 clear v9 v19 s9 s19
 have wf : IntKind.i64.wrap d.fi = d.fi := wrapL (by omega) (by omega)
 have c1 : decide (0 ≤ (z : Int) ∧ (z : Int) ≤ (sz.length : Int)) = true := decide_eq_true (by omega)
 have c2 : decide (0 ≤ (y : Int) ∧ (y : Int) ≤ (od.length : Int)) = true := decide_eq_true (by omega)
 generalize hJ : JJ d.fi L = J at *
 have hjc := jc_N d.fi L
 have hjb := jc_bel d.fi L
 have hjl := jc_len d.fi L
 have hjo := jc_one d.fi L
 have hj0 : jc d.fi L 0 = [.i .i64 d.fi, .ns] := rfl
 have hjs : ∀ i, jc d.fi L (i + 1) = (J (i + 1)).a := fun i => by rw [← hJ]; rfl
 rw [hJ] at hjc
 have hJs : ∀ i, J (i + 1) = (takeS (J i) (L.getD i [])).1 := fun i => by rw [← hJ]; rfl
 have hN0 : NN d.fi L 0 = [] := rfl
 have hNs : ∀ i, NN d.fi L (i + 1) = NN d.fi L i ++ (takeS (J i) (L.getD i [])).2.1 := fun i => by rw [← hJ]; rfl
 clear hJ
 generalize NN d.fi L = N at *
 have hda3 : d.a.length = 3 := rfl
 generalize hFI : d.fi = fi at *
 have hd0 : d.a = [.i .u16 fi, .fz (rows u81 d.ki) d.ki.length, .fz (rows bd1 d.bo) d.bo.length] := by rw [← hFI]; rfl
 rw [hd0] at q9 ⊢
 generalize jc fi L = JC at *
 have wle : IntKind.i64.wrap (fi + (NS.length : Int)) = fi + (NS.length : Int) := wrapL (by omega) (by omega)
 refine FTL.of_seam (cx := cxT (TL6 k9 k19)) Tryz.func6 i6_eq (by simp [i6]) ?_
 dsimp only [i6]
 refine Seam.part (F := FL6 k9 k19) hT mo ?_
 dsimp only [FL6, TL6]
 simp (maxSteps := 400000) only [go_sem, simprocAttr]
 refine Seam.part (F := FL6 k9 k19) hT mo ?_
 dsimp only [FL6, TL6]
 simp (maxSteps := 400000) only [go_sem, k17, simprocAttr]
 refine Seam.part (F := FL6 k9 k19) hT mo ?_
 dsimp only [FL6, TL6]
 simp (maxSteps := 400000) only [go_sem, q9, simprocAttr]
 refine Seam.part (F := FL6 k9 k19) hT mo ?_
 dsimp only [FL6, TL6]
 simp (maxSteps := 400000) only [go_sem, wf, simprocAttr]
 refine Seam.part (F := FL6 k9 k19) hT mo ?_
 dsimp only [FL6, TL6]
 simp (maxSteps := 400000) only [go_sem, simprocAttr]
 refine Seam.part (F := FL6 k9 k19) hT mo ?_
 dsimp only [FL6, TL6]
 simp (maxSteps := 400000) only [go_sem, hz1, hy1, c1, c2, q19, simprocAttr]
 have kb := fun j => u8B j d.ki
 have kr : ∀ ψ, renL ψ (rows u81 d.ki) = rows u81 d.ki := fun ψ => renL_fix0 _ (kb 0)
 have bb := fun j => bdB j d.bo
 have br : ∀ ψ, renL ψ (rows bd1 d.bo) = rows bd1 d.bo := fun ψ => renL_fix0 _ (bb 0)
 have lr := fun ψ => stR ψ L
 have nr := fun ψ => nt_R ψ NS
 refine Loop.stepR (F := FL6 k9 k19) hT mo (X := Nat) (fun i => i ≤ L.length) (fun i => L.length - i) (fun i => [(3, .p 0 0), (7, .fz (rows Nt.l NS) NS.length), (8, .p 1 0), (9, (nQ (N i)).v 2), (34, .fz (rows st1 L) L.length), (35, .i .i64 (L.length : Int)), (36, .i .i64 (i : Int))])
  (fun i => (nQ (N i)).h 2 ++ [(1, { cells := JC i }), (0, { cells := [AV.i .u16 fi, .fz (rows u81 d.ki) d.ki.length, .fz (rows bd1 d.bo) d.bo.length] })]) 3 0 (fun i => i + 1) [] (fun i => bif (takeS (J i) (L.getD i [])).2.1.length == 0 then [] else [(2, 4)]) (Nat.zero_le _) rfl (fun i => by cases (takeS (J i) (L.getD i [])).2.1.length == 0 <;> rfl) (Nat.zero_le _) ?_ ?_ (fun i hi => ?_)
 · rw [hN0, nQv_0]
   simp (maxSteps := 400000) only [go_sem, Int.natCast_zero, AV.ren, renL, AV.bel, belL, nblt, lb, nb, lr, nr, simprocAttr]
 · rw [hN0, nQh_0, hj0]
   simp (maxSteps := 400000) only [go_sem, AV.ren, renL, AV.bel, belL, nblt, Blk.ren, kb, kr, bb, br, simprocAttr]
 have hi : i ≤ L.length := hi
 dsimp only [FL6, TL6]
 have jt : List.take 2 (JC i) = JC i := List.take_of_length_le (by rw [hjl]; exact Nat.le_refl _)
 have jd : ∀ X : List AV, List.take 0 (JC i) ++ X ++ List.drop 2 (JC i) = X := fun X => by rw [List.drop_of_length_le (by rw [hjl]; exact Nat.le_refl _)]; simp
 have jl := hjl i
 have jo := hjo i
 have jb : ∀ k, belL k (JC i) = true := fun k => belL_mono0 _ (hjb i)
 have hwi := hway i hi
 have hjF := jF_ok hwi.1
 have Nb := fun j => nt_B j (N i)
 have Nr := fun ψ => nt_R ψ (N i)
 by_cases hlt : i < L.length
 · have d1 : decide ((i : Int) < (L.length : Int)) = true := decide_eq_true (by omega)
   have d2 : decide (0 ≤ (i : Int) ∧ (i : Int) < (L.length : Int)) = true := decide_eq_true (by omega)
   obtain ⟨s, hs⟩ : ∃ s, L[i]? = some s := ⟨_, List.getElem?_eq_getElem (by omega)⟩
   have hg : L.getD i [] = s := by simp only [List.getD_eq_getElem?_getD, hs, Option.getD_some]
   have hr := st_get3 hs
   have hsl := hsl i (by omega)
   rw [hg] at hsl
   have hw2 := hway (i + 1) (by omega)
   have he := hw2.2.1 i (by omega)
   have hJi := hJs i
   have hji := hjs i
   have hNi := hNs i
   rw [hg] at he hJi hNi ⊢
   have hjF2 := jF_ok hw2.1
   obtain ⟨f, hf⟩ := hw2.2.2.2.2
   have hNl : (N (i + 1)).length ≤ 5 := by rw [hf, List.length_take]; omega
   have hj2 := jn2_a (J (i + 1))
   have q21 : ∀ (h : Hp) n, k21 [.agg (J (i + 1)).a] h n = some (true, { v := .i .i64 0, n }) := fun h n => by
    simp only [k21, hj2, Option.bind_some, hjF2, hw2.1, if_true]
   have q23 : ∀ (h : Hp) n, k23n [.agg (JC i), .s s] h n = some (true, { v := .tup [.agg (J (i + 1)).a, .fz (rows Nt.l (takeS (J i) s).2.1) (takeS (J i) s).2.1.length, .i .i64 0], n }) := fun h n => by
    simp only [k23n, hjc i, Option.bind_some, hjF, decide_eq_true hsl, Bool.and_self, tkR, he, hJi]
   have wi : IntKind.i64.wrap ((i : Int) + 1) = ((i + 1 : Nat) : Int) := by rw [wrapL (by omega) (by omega)]; omega
   have a1 : (J (i + 1)).a.length = 2 := rfl
   have a2 : ∀ k, belL k (J (i + 1)).a = true := fun k => belL_mono0 _ (Jn.bel _)
   have a3 : oneAll (J (i + 1)).a = true := rfl
   have a4 : List.take 2 (J (i + 1)).a = (J (i + 1)).a := rfl
   have a5 : ∀ ψ, renL ψ (J (i + 1)).a = (J (i + 1)).a := fun ψ => renL_fix0 _ (Jn.bel _)
   rw [hji, hNi]
   rw [hNi, List.length_append] at hNl
   generalize (J (i + 1)).a = JA at *
   generalize (takeS (J i) s).2.1 = NL at *
   have Lb := fun j => nt_B j NL
   have Lr := fun ψ => nt_R ψ NL
   have Ll : (rows Nt.l NL).length = NL.length * 3 := rows_len Nt.len
   have Nl : (rows Nt.l (N i)).length = (N i).length * 3 := rows_len Nt.len
   have Lo : oneAll (rows Nt.l NL) = true := rows_one1 (fun _ => rfl) _
   have Lt : List.take (NL.length * 3) (rows Nt.l NL) = rows Nt.l NL := List.take_of_length_le (by rw [Ll]; exact Nat.le_refl _)
   have g1 : decide (32 * NL.length ≤ growMax) = true := decide_eq_true (by simp only [growMax]; omega)
   have g2 : decide (32 * ((N i).length + NL.length) ≤ growMax) = true := decide_eq_true (by simp only [growMax]; omega)
   have hst : i + 1 ≤ L.length ∧ L.length - (i + 1) < L.length - i := ⟨by omega, by omega⟩
   cases e2 : (NL.length == 0)
   · have e3 : decide (NL.length = 0) = false := decide_eq_false (beq_eq_false_iff_ne.1 e2)
     have hne : N i ++ NL ≠ [] := fun h => by have := congrArg List.length h; simp at this; rw [this.2] at e2; cases e2
     have B1 := fun j => nt_B j (N i ++ NL)
     have R1 := fun ψ => nt_R ψ (N i ++ NL)
     rw [rows_append] at B1 R1
     rw [nQv_n hne, nQh_n hne, rows_append, List.length_append]
     simp only [cond_false]
     by_cases hn0 : N i = []
     · rw [hn0, nQv_0, nQh_0]
       simp (maxSteps := 400000) only [go_sem, d1, d2, hr, jt, jl, jo, jd, q21, q23, wi, a1, a2, a3, a4, a5, e3, Ll, Lo, Lt, g1, hst, rows_nil, List.nil_append, List.length_nil, Nat.zero_add, Nat.mul_one, List.drop_zero, AV.ren, renL, AV.bel, belL, nblt, Blk.ren, lb, nb, lr, nr, jb, kb, kr, bb, br, Lb, Lr, simprocAttr]
     · rw [nQv_n hn0, nQh_n hn0]
       simp (maxSteps := 400000) only [go_sem, d1, d2, hr, jt, jl, jo, jd, q21, q23, wi, a1, a2, a3, a4, a5, e3, Ll, Nl, Lo, Lt, g2, hst, Nat.mul_one, List.drop_zero, AV.ren, renL, AV.bel, belL, nblt, Blk.ren, lb, nb, lr, nr, jb, kb, kr, bb, br, Lb, Lr, Nb, Nr, B1, R1, simprocAttr]
   · have e4 : NL = [] := List.eq_nil_of_length_eq_zero (beq_iff_eq.1 e2)
     subst e4
     rw [List.append_nil]
     simp only [cond_true]
     by_cases hn0 : N i = []
     · rw [hn0, nQv_0, nQh_0]
       simp (maxSteps := 400000) only [go_sem, d1, d2, hr, jt, jl, jo, jd, q21, q23, wi, a1, a2, a3, a4, a5, hst, rows_nil, List.nil_append, List.length_nil, Nat.mul_one, List.drop_zero, AV.ren, renL, AV.bel, belL, nblt, Blk.ren, lb, nb, lr, nr, jb, kb, kr, bb, br, simprocAttr]
     · rw [nQv_n hn0, nQh_n hn0]
       simp (maxSteps := 400000) only [go_sem, d1, d2, hr, jt, jl, jo, jd, q21, q23, wi, a1, a2, a3, a4, a5, Nl, hst, rows_nil, List.length_nil, Nat.mul_one, List.drop_zero, AV.ren, renL, AV.bel, belL, nblt, Blk.ren, lb, nb, lr, nr, jb, kb, kr, bb, br, Nb, Nr, simprocAttr]
 · obtain rfl : i = L.length := by omega
   have d1 : decide ((L.length : Int) < (L.length : Int)) = false := decide_eq_false (by omega)
   obtain ⟨hJe, hNe⟩ := hwi.2.2.2.1 rfl
   have hjN := hjc L.length
   rw [hJe] at hjN
   have q25 : ∀ (h : Hp) n, k25 [.agg (JC L.length), .agg [.i .i64 (fi + (NS.length : Int)), .ns]] h n = some (true, { v := .b true, n }) := fun h n => by
    have b0 : jnN [.i .i64 (fi + (NS.length : Int)), .ns] = some ⟨fi + NS.length, []⟩ := rfl
    have b1 : decide ((([] : List Flt.Hf)).length ≤ 1000000) = true := by decide
    simp only [k25, hjN, b0, Option.bind_some, Jn.eqB_refl, b1, Bool.and_self, List.all_nil]
   have q26 : ∀ (h : Hp) n, k26 [.fz (rows Nt.l NS) NS.length, .fz (rows Nt.l NS) NS.length] h n = some (true, { v := .b true, n }) := fun h n => by
    have hu : unrows 3 nt3 NS.length (rows Nt.l NS) = some NS := unrows_rows Nt.len nt3_l NS
    have hc : cellsAt (rows Nt.l NS) 0 (NS.length * 3) = rows Nt.l NS := by
     show List.take _ (List.drop 0 _) = _
     rw [List.drop_zero, List.take_of_length_le (by rw [rows_len (f := Nt.l) Nt.len]; exact Nat.le_refl _)]
    have hd : decide ((rows Nt.l NS).length = NS.length * 3) = true := decide_eq_true (rows_len Nt.len)
    have b1 : decide (NS.length ≤ 1000000) = true := decide_eq_true (by omega)
    simp only [k26, hu, Option.bind_some, vwK, hc, hd, eqL_refl Nt.eqB_refl, b1, Bool.and_self]
   have fin : Seam (FL6 k9 k19) (.seq (.reg i6r16) .ret) (retK [.t 6] fun v h' n' => Ab.Ends 0 v h' n' (.b true) [] 0) [(3, .p 0 0), (7, .fz (rows Nt.l NS) NS.length), (8, .p 1 0), (9, .fz (rows Nt.l NS) NS.length)] [(1, { cells := JC L.length }), (0, { cells := [AV.i .u16 fi, .fz (rows u81 d.ki) d.ki.length, .fz (rows bd1 d.bo) d.bo.length] })] 3 := by
    refine Seam.run (F := FL6 k9 k19) hT mo ?_
    dsimp only [FL6, TL6]
    simp (maxSteps := 400000) only [go_sem, q25, q26, wf, wle, jt, jl, jo, List.drop_zero, simprocAttr]
    exact Ends.pureE rfl rfl
   rw [hNe]
   by_cases hn0 : NS = []
   · rw [hn0] at fin ⊢
     rw [nQv_0, nQh_0]
     simp (maxSteps := 400000) only [go_sem, d1, simprocAttr]
     exact Seam.wk (F := FL6 k9 k19) fin ⟨⟨_, rfl, Wka.refl _⟩, ⟨_, rfl, Wka.refl _⟩, ⟨_, rfl, Wka.refl _⟩, ⟨_, rfl, Wka.ns⟩, trivial⟩ ⟨⟨_, rfl, rfl, rfl, rfl, WkaL.refl _⟩, ⟨_, rfl, rfl, rfl, rfl, WkaL.refl _⟩, trivial⟩
   · rw [nQv_n hn0, nQh_n hn0]
     simp (maxSteps := 400000) only [go_sem, d1, simprocAttr]
     exact Seam.frz (F := FL6 k9 k19) (b := 2) (x := .sg 2 0 NS.length) (o := 0) (m := NS.length) (k := { cells := rows Nt.l NS, gr := some 3 }) (cs := rows Nt.l NS) fin rfl rfl (.inr rfl) (.inl rfl) ⟨⟨_, rfl, FzV.refl⟩, ⟨_, rfl, FzV.refl⟩, ⟨_, rfl, FzV.refl⟩, ⟨_, rfl, FzV.hit⟩, trivial⟩ ⟨⟨by decide, _, rfl, rfl, rfl, rfl, FzVs.refl⟩, ⟨by decide, _, rfl, rfl, rfl, rfl, FzVs.refl⟩, trivial⟩
end Go.Proofs.Flz
end
