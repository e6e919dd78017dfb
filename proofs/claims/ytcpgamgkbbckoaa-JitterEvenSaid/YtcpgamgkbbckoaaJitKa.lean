/- Texts laid as one: JitKT JitN5. -/
import Derived.Test.YtcpgamgkbbckoaaJitNb
import Derived.Test.YtcpgamgkbbckoaaAbFast
import Derived.Test.YtcpgamgkbbckoaaAbShelf
import Derived.Test.YtcpgamgkbbckoaaAbWka
section
/- The table of the functions that works reaches; Put, New, Due and Take are known by their contracts. -/
namespace Go.Proofs.Jit
open Go.Ab
set_option linter.unusedVariables false
def TK : List (Nat × IFn) := [(26, i26), (27, i27), (28, i28), (29, i29), (30, i30)]
theorem TK_valid : Valid Try.prog TK :=
 .cons Try.func26 i26_eq (by kernel_rfl) <|
 .cons Try.func27 i27_eq (by kernel_rfl) <|
 .cons Try.func28 i28_eq (by kernel_rfl) <|
 .cons Try.func29 i29_eq (by kernel_rfl) <|
 .cons Try.func30 i30_eq (by kernel_rfl) .nil
def nrm : AV → AV
 | .ns => .fz [] 0
 | .ze => .fz [] 0
 | x => x
theorem Wka.nrm (x : AV) : Wka x (Jit.nrm x) := by
 cases x with
 | ns => exact Wka.ns
 | ze => exact Wka.ze
 | _ => exact Wka.refl _
theorem WkaL.nrm : ∀ l : List AV, WkaL l (l.map Jit.nrm)
 | [] => trivial
 | a :: l => ⟨Wka.nrm a, WkaL.nrm l⟩
def okBf (b : Bf) : Bool := decide (b.l.length ≤ 9223372036854775807) && (finB b.l && b.rg)
theorem okBf_t {b : Bf} (h : okBf b = true) : b.l.length ≤ 9223372036854775807 ∧ finB b.l = true ∧ b.rg = true := by
 simp only [okBf, Bool.and_eq_true, decide_eq_true_eq] at h
 exact h
def o15 : List AV → Option AV
 | [.agg c, .i .i64 now, .agg q] => (bfA (c.map nrm)).bind fun b => (md9 (q.map nrm)).bind fun p => bif okBf b && p.fin then some (bfV (putS b now p)) else none
 | _ => none
theorem f15 {a : List AV} {v : AV} (e : o15 a = some v) : FTL Try.prog 15 a [] 0 v [] 0 := by
 unfold o15 at e
 split at e
 · rename_i c now q
   simp only [Option.bind_eq_some_iff] at e
   obtain ⟨b, hb, p, hp, e⟩ := e
   cases hd : okBf b && p.fin
   · rw [hd] at e; cases e
   · rw [hd] at e
     cases e
     simp only [Bool.and_eq_true] at hd
     obtain ⟨h1, h2, h3⟩ := okBf_t hd.1
     refine FTL.wka (xs := [.agg c, .i .i64 now, .agg q]) (ys := [.agg b.a, .i .i64 now, .agg p.l]) ⟨?_, Wka.refl _, ?_, trivial⟩ (w15 b now p h1 h2 h3 hd.2)
     · rw [← bfA_eq hb]; exact Wka.agg (WkaL.nrm c)
     · rw [← md9_eq hp]; exact Wka.agg (WkaL.nrm q)
 · cases e
def o18 : List AV → Option AV
 | [.i .i64 n] => some (bfV (newS n))
 | _ => none
theorem f18 {a : List AV} {v : AV} (e : o18 a = some v) : FTL Try.prog 18 a [] 0 v [] 0 := by
 unfold o18 at e
 split at e
 · cases e; exact w18 _
 · cases e
def o21 : List AV → Option AV
 | [.agg c] => (bfA (c.map nrm)).bind fun b => bif okBf b then some (.tup [.i .i64 (dueE b).1, .i .i64 (dueE b).2]) else none
 | _ => none
theorem f21 {a : List AV} {v : AV} (e : o21 a = some v) : FTL Try.prog 21 a [] 0 v [] 0 := by
 unfold o21 at e
 split at e
 · rename_i c
   simp only [Option.bind_eq_some_iff] at e
   obtain ⟨b, hb, e⟩ := e
   cases hd : okBf b
   · rw [hd] at e; cases e
   · rw [hd] at e
     cases e
     obtain ⟨h1, h2, h3⟩ := okBf_t hd
     refine FTL.wka (xs := [.agg c]) (ys := [.agg b.a]) ⟨?_, trivial⟩ (w21 b h1 h2 h3)
     rw [← bfA_eq hb]; exact Wka.agg (WkaL.nrm c)
 · cases e
def o23 : List AV → Option AV
 | [.agg c, .i .i64 now] => (bfA (c.map nrm)).bind fun b => bif okBf b then some (tkA (tkS b now)) else none
 | _ => none
theorem f23 {a : List AV} {v : AV} (e : o23 a = some v) : FTL Try.prog 23 a [] 0 v [] 0 := by
 unfold o23 at e
 split at e
 · rename_i c now
   simp only [Option.bind_eq_some_iff] at e
   obtain ⟨b, hb, e⟩ := e
   cases hd : okBf b
   · rw [hd] at e; cases e
   · rw [hd] at e
     cases e
     obtain ⟨h1, h2, h3⟩ := okBf_t hd
     refine FTL.wka (xs := [.agg c, .i .i64 now]) (ys := [.agg b.a, .i .i64 now]) ⟨?_, Wka.refl _, trivial⟩ (w23 b now h1 h2 h3)
     rw [← bfA_eq hb]; exact Wka.agg (WkaL.nrm c)
 · cases e
def k20 : Ct
 | [], _, n => some (true, { v := .b true, n })
 | _, _, _ => none
end Go.Proofs.Jit
end
section
/- Put told a packet whose lists may be nil; packet, due and SameFrame of the law. -/
namespace Go.Proofs.Jit
open Go.Ab
set_option maxRecDepth 100000
set_option maxHeartbeats 4000000
set_option linter.unusedSimpArgs false
set_option linter.unusedVariables false
def mdN (c : List AV) : Option Md := md9 (c.map nrm)
theorem mdN_k {c : List AV} {p : Md} (h : mdN c = some p) : Wka (.agg c) (.agg p.l) := by
 rw [← md9_eq h]; exact Wka.agg (WkaL.nrm c)
def k15n : Ct
 | [.agg c, .i .i64 now, .agg q], _, n => (bfA c).bind fun b => (mdN q).bind fun p => some (belL 0 q && (decide (b.l.length ≤ 9223372036854775807) && (finB b.l && (b.rg && p.fin))), { v := bfV (putS b now p), n })
 | _, _, _ => none
theorem s15n : SoundAt Try.prog 15 k15n := fun args h n c E hc ht => by
 unfold k15n at hc
 split at hc
 · rename_i c now q
   simp only [Option.bind_eq_some_iff] at hc
   obtain ⟨b, hd, p, hp, he⟩ := hc
   cases he
   simp only [Bool.and_eq_true, decide_eq_true_eq] at ht
   rw [bfA_eq hd]
   exact CallOK.pure (by kernel_rfl) (by simp only [belL, AV.bel, Bf.bel, ht.1, Bool.and_self]) (bfV_bel _) (FTL.wka (xs := [.agg b.a, .i .i64 now, .agg q]) (ys := [.agg b.a, .i .i64 now, .agg p.l]) ⟨Wka.refl _, Wka.refl _, mdN_k hp, trivial⟩ (w15 b _ p ht.2.1 ht.2.2.1 ht.2.2.2.1 ht.2.2.2.2)) _ _
 · cases hc
theorem w26 (sq tm : Int) (m : Bool) : FTL Try.prog 26 [.i .i64 sq, .i .i64 tm, .b m] [] 0 (.agg [.b m, .i .i64 0, .i .i64 sq, .i .i64 tm, .i .i64 0, .ns, .ns, .i .i64 0, .s []]) [] 0 := by
 refine FTL.of_iw (cx := cxT []) Sound.nil mo Try.func26 i26_eq (by simp [i26]) (iw_of_jw ?_)
 dsimp only [i26]
 simp (maxSteps := 400000) only [go_sem, simprocAttr]
 exact Ends.pureE rfl rfl
def k26 : Ct
 | [.i .i64 sq, .i .i64 tm, .b m], _, n => some (true, { v := .agg [.b m, .i .i64 0, .i .i64 sq, .i .i64 tm, .i .i64 0, .ns, .ns, .i .i64 0, .s []], n })
 | _, _, _ => none
theorem s26 : SoundAt Try.prog 26 k26 := fun args h n c E hc ht => by
 unfold k26 at hc
 split at hc
 · cases hc; exact CallOK.pure (by kernel_rfl) rfl rfl (w26 _ _ _) _ _
 · cases hc
theorem w27 (b : Bf) (t : Int) (hl : b.l.length ≤ 9223372036854775807) (hf : finB b.l = true) (hg : b.rg = true) : FTL Try.prog 27 [.agg b.a, .i .i64 t] [] 0 (.b (((dueE b).1 == t) && ((dueE b).2 == 0))) [] 0 := by
 have hT : Sound Try.prog (cxT [(21, k21)]) := Sound.cons s21 Sound.nil
 have hba := bfA_a b
 have hll : decide (b.l.length ≤ 9223372036854775807) = true := decide_eq_true hl
 have hk21 : ∀ (h : Hp) n, k21 [.agg b.a] h n = some (true, { v := .tup [.i .i64 (dueE b).1, .i .i64 (dueE b).2], n }) := fun h n => by simp only [k21, hba, Option.bind_some, hll, hf, hg, Bool.and_self]
 generalize (dueE b).1 = D at *
 generalize (dueE b).2 = E at *
 obtain ⟨ck, ti, sd, wh, nx, mr, of, tr, ji, lo, l⟩ := b
 simp only [Bf.a] at hk21 ⊢
 refine FTL.of_iw hT mo Try.func27 i27_eq (by simp [i27]) (iw_of_jw ?_)
 dsimp only [i27]
 cases c1 : (D == t) <;> cases c2 : (E == 0)
 all_goals (simp (maxSteps := 400000) only [go_sem, hk21, c1, c2, simprocAttr]; exact Ends.pureE rfl rfl)
def k27 : Ct
 | [.agg c, .i .i64 t], _, n => (bfA c).bind fun b => some (okBf b, { v := .b (((dueE b).1 == t) && ((dueE b).2 == 0)), n })
 | _, _, _ => none
theorem s27 : SoundAt Try.prog 27 k27 := fun args h n c E hc ht => by
 unfold k27 at hc
 split at hc
 · simp only [Option.bind_eq_some_iff] at hc
   obtain ⟨b, hd, he⟩ := hc
   cases he
   obtain ⟨h1, h2, h3⟩ := okBf_t ht
   rw [bfA_eq hd]
   exact CallOK.pure (by kernel_rfl) (by simp only [belL, AV.bel, Bf.bel, Bool.and_self]) rfl (w27 b _ h1 h2 h3) _ _
 · cases hc
noncomputable def k25L : Ct
 | [.fz L 1, .sl b 0 1 1], h, n => (hget h b).bind fun k => (md9 L).bind fun p => (mdN k.cells).bind fun q => open Classical in if q = p then some (belL 0 k.cells && (decide (p.cs.length ≤ 9223372036854775807) && decide (p.xs.length ≤ 9223372036854775807)), { v := .b true, n, rd := [b] }) else none
 | _, _, _ => none
theorem s25L : SoundAt Try.prog 25 k25L := fun args h n c E hc ht => by
 unfold k25L at hc
 split at hc
 · rename_i L b
   simp only [Option.bind_eq_some_iff] at hc
   obtain ⟨k, hk, p, hp, q, hq, hc⟩ := hc
   split at hc
   rotate_left
   · cases hc
   rename_i hqp
   cases hc
   rw [Bool.and_eq_true] at ht
   obtain ⟨hb, h2⟩ := ht
   subst hqp
   have hL := md9_eq hp
   have hk9 : k.cells.length = 9 := by
    have := md9_eq hq
    have h := congrArg List.length this
    rw [List.length_map, Md.len] at h
    exact h
   have h9 : k.cells = k.cells.take 9 := (List.take_of_length_le (by omega)).symm
   have hv : vwK h 9 (.sl b 0 1 1) (fun rd m cs ok => some (rd, m, cs, ok)) = some ([b], 1, k.cells, true) := by
    rw [vwK_s, hk]
    simp only [Option.bind_some, cellsAt, List.drop_zero, Nat.one_mul, ← h9, hk9]
    rfl
   have hr : rows Md.l [q] = q.l := by simp [rows]
   refine CallOK.viewG (by kernel_rfl) (argsF := [.fz L 1, .fz k.cells 1]) ⟨VwV.same (by rw [hL]; simp only [AV.bel, Md.bel]), vwK_sub hv hb (fun b h => h), trivial⟩ rfl ?_
   have hw := w25 [q] (by simp) (by simp only [smB, List.all_cons, List.all_nil, h2, Bool.and_self])
   rw [hr] at hw
   rw [hL]
   refine FTL.wka (ys := [.fz q.l 1, .fz q.l 1]) ⟨Wka.refl _, Wka.fz ?_, trivial⟩ hw
   have := WkaL.nrm k.cells
   rwa [show k.cells.map nrm = q.l from md9_eq hq] at this
 · cases hc
end Go.Proofs.Jit
end
