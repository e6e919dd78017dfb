/- The contract of Ask. -/
import Derived.Test.YthnmkedknannhaaResD1
namespace Go.Proofs.Res
open Go.Ab
set_option maxRecDepth 100000
set_option maxHeartbeats 4000000
set_option linter.unusedSimpArgs false
set_option linter.unusedVariables false
def T14 : List (Nat × Ct) := [(49, k49), (54, k54), (60, k60), (61, k61)]
theorem hT14 : Sound Try.prog (cxT T14) := Sound.cons s49 (Sound.cons s54 (Sound.cons s60 (Sound.cons s61 Sound.nil)))
theorem w20 (w : Ws) (now trip : Int) (hl : w.l.length ≤ 1000000000000) : FTL Try.prog 20 [.agg w.a, .i .i64 now, .i .i64 trip] [] 0 (askV (askS w now trip)) [] 0 := by
 have hwa := wsA_a w
 have hll : decide (w.l.length ≤ 1000000000000) = true := decide_eq_true hl
 have hgd : lateS w now = 0 → goodB w = true := fun h => by
  unfold lateS at h
  cases hg : goodB w
  · rw [hg] at h; simp at h
  · rfl
 generalize hRR : askS w now trip = R
 unfold askS at hRR
 generalize hL : lateS w now = E at hRR hgd
 obtain ⟨ti, st, tp, l⟩ := w
 dsimp only at hRR hl hll
 simp only [Ws.a] at hwa ⊢
 refine FTL.of_cov (cx := cxT T14) hT14 mo Try.func20 i20_eq (by simp [i20]) (iw_of_jw ?_)
 dsimp only [i20, T14]
 by_cases hE : E = 0
 rotate_left
 · have e1 : (E != 0) = true := by simp [bne, hE]
   rw [if_neg hE] at hRR
   simp (maxSteps := 400000) only [go_sem, k54, hwa, hll, hL, e1, simprocAttr]
   rw [← hRR]
   exact cov_nn
 have hg := hgd hE
 subst hE
 rw [if_pos rfl] at hRR
 have e1 : ((0 : Int) != 0) = false := rfl
 cases a1 : inI 1 2000 trip
 · rw [a1] at hRR
   simp (maxSteps := 400000) only [go_sem, k54, hwa, hll, hL, e1, k49, a1, simprocAttr]
   rw [← hRR]
   exact cov_nn
 rw [a1] at hRR
 have hhd : headB ⟨ti, st, tp, l⟩ = true ∧ chk ti tp (-1001) l = true := by
  simp only [goodB, Bool.and_eq_true] at hg; exact hg
 obtain ⟨hti, a2, hl64⟩ := headB_t hhd.1
 have hok := chk_ok hhd.2 hti.2
 have hwb := fun x hx => wantB_sq (chk_sq hhd.2 x hx)
 dsimp only at hl64 hti
 simp (maxSteps := 400000) only [go_sem, k54, hwa, hll, hL, e1, k49, a1, simprocAttr]
 refine Loop.stepR (F := ⟨Try.prog, cxT T14, [18, 23, 29, 32, 38], 67, 0⟩) hT14 mo (X := Nat) (fun k => k ≤ l.length) (fun k => l.length - k)
  (fun k => [(1, .i .i64 now), (2, .i .i64 trip), (3, .p 0 0), (6, .p 1 0), (7, (gQ I1 1 (askN now trip (l.take k))).v 3), (8, .b (askU now trip (l.take k))), (11, (gQ Wt.l 4 (askL now trip (l.take k))).v 2), (26, .fz (rows Wt.l l) l.length), (27, .i .i64 (l.length : Int)), (28, .i .i64 (k : Int))])
  (fun k => (gQ Wt.l 4 (askL now trip (l.take k))).h 2 ++ ((gQ I1 1 (askN now trip (l.take k))).h 3 ++ [(1, { cells := [.i .i64 0, .b false, .i .i64 0, .ns] }), (0, { cells := [.i .i64 ti, .b st, .i .i64 tp, .fz (rows Wt.l l) l.length] })])) 4 0 (fun k => k + 1) []
  (fun k => match l[k]? with | some x => if endS x trip ≤ now then [] else if dueS x trip ≤ now then [(3, 6), (2, 8)] else [(2, 6)] | none => []) (by decide) (by decide) (fun k => by split <;> (try split) <;> (try split) <;> decide) (Nat.zero_le _) ?_ ?_ (fun k hk => ?_)
 · simp (maxSteps := 400000) only [go_sem, askL, askN, askU, List.take_zero, List.filter_nil, List.map_nil, List.any_nil, gQ_nil, fv_n, AV.bel, belL, nblt, AV.ren, renL, wrB, wrR, simprocAttr]
 · simp (maxSteps := 400000) only [go_sem, askL, askN, askU, List.take_zero, List.filter_nil, List.map_nil, List.any_nil, gQ_nil, fh_n, AV.bel, belL, nblt, Blk.ren, AV.ren, renL, wrB, wrR, simprocAttr]
 dsimp only [T14]
 by_cases hlt : k < l.length
 · have c1 : decide ((k : Int) < (l.length : Int)) = true := decide_eq_true (by omega)
   have c2 : decide (0 ≤ (k : Int) ∧ (k : Int) < (l.length : Int)) = true := decide_eq_true (by omega)
   have hw : IntKind.i64.wrap ((k : Int) + 1) = ((k + 1 : Nat) : Int) := by rw [wrapL (by omega) (by omega)]; omega
   obtain ⟨x, hx⟩ : ∃ x, l[k]? = some x := ⟨_, List.getElem?_eq_getElem hlt⟩
   have hr := wt_at hx
   have hsn := askL_s (now := now) (trip := trip) hx
   have hsN := askN_s (now := now) (trip := trip) hx
   have hsU := askU_s (now := now) (trip := trip) hx
   have hsk : l.length - (k + 1) < l.length - k := by omega
   have hxo := hok x (List.mem_of_getElem? hx)
   have hfl : (askL now trip (l.take k)).length ≤ 64 := by
    rw [askL, List.length_map]; exact Nat.le_trans (List.length_filter_le _ _) (Nat.le_trans (List.length_take_le _ _) (by omega))
   have hnl : (askN now trip (l.take k)).length ≤ 64 := by
    rw [askN, List.length_map]; exact Nat.le_trans (List.length_filter_le _ _) (Nat.le_trans (List.length_filter_le _ _) (Nat.le_trans (List.length_take_le _ _) (by omega)))
   rw [hsn, hsN, hsU, hx]
   dsimp only
   generalize askL now trip (l.take k) = q at *
   generalize askN now trip (l.take k) = ns at *
   generalize askU now trip (l.take k) = up at *
   have gm : decide (32 * (q.length + 1) ≤ growMax) = true := decide_eq_true (by simp only [growMax]; omega)
   have gm2 : decide (8 * (ns.length + 1) ≤ growMax) = true := decide_eq_true (by simp only [growMax]; omega)
   have zR : (rows Wt.l q).length = q.length * 4 := rows_len Wt.len
   have zR2 : (rows I1 ns).length = ns.length * 1 := rows_len I1.len
   have pk := gQp q
   have pk2 := gIp ns
   have hwt : IntKind.i64.wrap (x.tr + 1) = x.tr + 1 := by
    simp only [okX, Bool.and_eq_true] at hxo
    have := inI_t hxo.1.1.2
    exact wrapL (by omega) (by omega)
   have hk61 : ∀ (h : Hp) n, k61 [.agg x.l, .i .i64 trip] h n = some (true, { v := .i .i64 (endS x trip), n }) := fun h n => by simp only [k61, wt4_l, Option.bind_some, hxo, a1, Bool.and_self]
   have hk60 : ∀ (h : Hp) n, k60 [.agg x.l, .i .i64 trip] h n = some (true, { v := .i .i64 (dueS x trip), n }) := fun h n => by simp only [k60, wt4_l, Option.bind_some, hxo, a1, Bool.and_self]
   have hax : askX now trip x = bif decide (dueS x trip ≤ now) then ⟨x.sq, x.fd, now, x.tr + 1⟩ else x := rfl
   have hsb : stayB now trip x = !decide (endS x trip ≤ now) := rfl
   rw [hax, hsb]
   generalize endS x trip = en at *
   generalize dueS x trip = du at *
   cases h1 : decide (en ≤ now)
   · have h1' := of_decide_eq_false h1
     cases h2 : decide (du ≤ now)
     · have h2' := of_decide_eq_false h2
       have pk' := gQp (q ++ [x])
       simp only [h1, h2, h1', h2', Bool.not_false, Bool.or_false, cond_false, if_true, if_false, Bool.false_eq_true, List.append_nil]
       rw [gQ_snoc] at pk' ⊢
       obtain ⟨sq, fd, ak, tr⟩ := x
       simp only [Wt.l] at pk' hr hk60 hk61
       simp (maxSteps := 400000) only [go_sem, c1, c2, hw, hr, hk60, hk61, h1, h2, gm, zR, pk, pk', pk2, hsk, hlt, AV.bel, belL, nblt, Blk.ren, renL, AV.ren, wrB, wrR, Wt.l, Nat.add_zero, simprocAttr]
       exact hlt
     · have h2' := of_decide_eq_true h2
       have pk' := gQp (q ++ [⟨x.sq, x.fd, now, x.tr + 1⟩])
       have pk3 := gIp (ns ++ [x.sq])
       simp only [h1, h2, h1', h2', Bool.not_false, Bool.or_false, cond_true, if_true, if_false, Bool.false_eq_true]
       rw [gQ_snoc] at pk' pk3
       rw [gQ_snoc, gQ_snoc]
       obtain ⟨sq, fd, ak, tr⟩ := x
       simp only [Wt.l, I1] at pk' pk3 hr hk60 hk61 hwt
       simp (maxSteps := 400000) only [go_sem, c1, c2, hw, hr, hk60, hk61, h1, h2, hwt, gm, gm2, zR, zR2, pk, pk', pk2, pk3, hsk, hlt, AV.bel, belL, nblt, Blk.ren, renL, AV.ren, wrB, wrR, Wt.l, I1, Nat.add_zero, simprocAttr]
       exact hlt
   · have h1' := of_decide_eq_true h1
     simp only [h1, h1', Bool.not_true, Bool.or_true, if_true, if_false, Bool.false_eq_true, List.append_nil]
     obtain ⟨sq, fd, ak, tr⟩ := x
     simp only [Wt.l] at hr hk60 hk61
     simp (maxSteps := 400000) only [go_sem, c1, c2, hw, hr, hk61, h1, pk, pk2, hsk, hlt, AV.bel, belL, nblt, Blk.ren, renL, AV.ren, wrB, wrR, Wt.l, Nat.add_zero, simprocAttr]
     exact hlt
 · have c1 : decide ((k : Int) < (l.length : Int)) = false := decide_eq_false (by omega)
   obtain rfl : k = l.length := by omega
   rw [List.take_length]
   rw [← hRR]
   generalize askL now trip l = q at *
   generalize askN now trip l = ns at *
   generalize askU now trip l = up at *
   have pk := gQp q
   have pk2 := gIp ns
   simp (maxSteps := 400000) only [go_sem, c1, pk, pk2, simprocAttr]
   exact cov_qq (by simp [hasS_cons, hasS_hit, hasS_hit0, hasS_skip]) (by simp [hasS_cons, hasS_hit, hasS_hit0, hasS_skip]) (by decide)
def k20 : Ct
 | [.agg c, .i .i64 now, .i .i64 trip], _, n => (wsA c).bind fun w => some (decide (w.l.length ≤ 1000000000000), { v := askV (askS w now trip), n })
 | _, _, _ => none
theorem s20 : SoundAt Try.prog 20 k20 := fun args h n c E hc ht => by
 unfold k20 at hc
 split at hc
 · simp only [Option.bind_eq_some_iff] at hc
   obtain ⟨w, hw, he⟩ := hc
   cases he
   obtain ⟨h1, h2⟩ := wsA_k hw
   exact CallOK.pure (by kernel_rfl) (by simp only [belL, AV.bel, h2, Bool.and_self]) (askV_bel _) (FTL.wkaH h1 (w20 w _ _ (of_decide_eq_true ht))) _ _
 · cases hc
end Go.Proofs.Res
