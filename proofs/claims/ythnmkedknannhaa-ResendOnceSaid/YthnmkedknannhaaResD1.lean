/- What the walks of both sides share. -/
import Derived.Test.YthnmkedknannhaaResC9
namespace Go.Proofs.Res
open Go.Ab
set_option maxRecDepth 100000
set_option maxHeartbeats 4000000
set_option linter.unusedSimpArgs false
set_option linter.unusedVariables false
def k13 : Ct
 | [.agg c, .i .i64 now, .i .i64 seq], _, n => (wsA c).bind fun w => some (decide (w.l.length ≤ 1000000000000), { v := rsV (sawS w now seq), n })
 | _, _, _ => none
theorem rsV_bel (r : Ws × Int) : (rsV r).bel 0 = true := by simp only [rsV, AV.bel, belL, Ws.bel, Bool.and_self]
theorem s13 : SoundAt Try.prog 13 k13 := fun args h n c E hc ht => by
 unfold k13 at hc
 split at hc
 · simp only [Option.bind_eq_some_iff] at hc
   obtain ⟨w, hw, he⟩ := hc
   cases he
   obtain ⟨h1, h2⟩ := wsA_k hw
   exact CallOK.pure (by kernel_rfl) (by simp only [belL, AV.bel, h2, Bool.and_self]) (rsV_bel _) (FTL.wkaH h1 (w13 w _ _ (of_decide_eq_true ht))) _ _
 · cases hc
theorem snoc_f {α : Type} {p : α → Bool} {l : List α} {k : Nat} {x : α} (h : l[k]? = some x) : (l.take (k + 1)).filter p = (l.take k).filter p ++ (if p x then [x] else []) := by
 rw [List.take_add_one, h, List.filter_append]
 cases hq : p x <;> simp [hq]
theorem gQp (q : List Wt) : (gQ Wt.l 4 q).plain = true := (gQ_is (f := Wt.l) Wt.bel Wt.len q).pl
theorem gQcap (q : List Wt) : (gQ Wt.l 4 q).capOK := by unfold gQ; split <;> trivial
def I1 (x : Int) : List AV := [.i .i64 x]
theorem I1.len (x : Int) : (I1 x).length = 1 := rfl
theorem I1.bel (x : Int) : belL 0 (I1 x) = true := rfl
theorem gIp (q : List Int) : (gQ I1 1 q).plain = true := (gQ_is (f := I1) I1.bel I1.len q).pl
theorem gIcap (q : List Int) : (gQ I1 1 q).capOK := by unfold gQ; split <;> trivial
theorem irB {l : List Int} (n : Nat) : belL n (rows I1 l) = true := belL_mono0 _ (rows_bel I1.bel)
def askX (now trip : Int) (x : Wt) : Wt := bif decide (dueS x trip ≤ now) then ⟨x.sq, x.fd, now, x.tr + 1⟩ else x
def stayB (now trip : Int) (x : Wt) : Bool := !decide (endS x trip ≤ now)
def askL (now trip : Int) (l : List Wt) : List Wt := (l.filter (stayB now trip)).map (askX now trip)
def askN (now trip : Int) (l : List Wt) : List Int := ((l.filter (stayB now trip)).filter (fun x => decide (dueS x trip ≤ now))).map Wt.sq
def askU (now trip : Int) (l : List Wt) : Bool := l.any (fun x => decide (endS x trip ≤ now))
abbrev Asked := Ws × List Int × Bool × Int
def askS (w : Ws) (now trip : Int) : Asked :=
 if lateS w now = 0 then bif inI 1 2000 trip then (⟨now, w.st, w.tp, askL now trip w.l⟩, askN now trip w.l, askU now trip w.l, 0) else (zW, [], false, 2)
 else (zW, [], false, lateS w now)
def askV (r : Asked) : AV := .tup [.agg r.1.a, .fz (rows I1 r.2.1) r.2.1.length, .b r.2.2.1, .i .i64 r.2.2.2]
theorem askV_bel (r : Asked) : (askV r).bel 0 = true := by simp only [askV, AV.bel, belL, Ws.bel, rows_bel I1.bel, Bool.and_self]
theorem askL_s {now trip : Int} {l : List Wt} {k : Nat} {x : Wt} (h : l[k]? = some x) : askL now trip (l.take (k + 1)) = askL now trip (l.take k) ++ (if stayB now trip x then [askX now trip x] else []) := by
 rw [askL, snoc_f h, List.map_append]
 split <;> simp [askL]
theorem askN_s {now trip : Int} {l : List Wt} {k : Nat} {x : Wt} (h : l[k]? = some x) : askN now trip (l.take (k + 1)) = askN now trip (l.take k) ++ (if stayB now trip x then (if decide (dueS x trip ≤ now) then [x.sq] else []) else []) := by
 rw [askN, snoc_f h, List.filter_append, List.map_append]
 split
 · split <;> simp_all [askN]
 · simp [askN]
theorem askU_s {now trip : Int} {l : List Wt} {k : Nat} {x : Wt} (h : l[k]? = some x) : askU now trip (l.take (k + 1)) = (askU now trip (l.take k) || decide (endS x trip ≤ now)) := by
 rw [askU, List.take_add_one, h, List.any_append]
 simp [askU]
theorem cov_nn {ti tp e : Int} {st up : Bool} {h : Hp} {n : Nat} : CovS 0 (.tup [.agg [.i .i64 ti, .b st, .i .i64 tp, .ns], .ns, .b up, .i .i64 e]) h n (askV (⟨ti, st, tp, []⟩, [], up, e)) [] 0 := by
 refine CovS.frzN (l := []) (v' := askV (⟨ti, st, tp, []⟩, [], up, e)) (FzV.tup ⟨FzV.agg ⟨FzV.refl, FzV.refl, FzV.refl, FzV.hit, trivial⟩, FzV.hit, FzV.refl, FzV.refl, trivial⟩) ?_
 exact CovS.ends (Ends.pureE rfl rfl)
theorem cov_qq {ti tp e : Int} {st up : Bool} {h : Hp} {n : Nat} {q : List Wt} {ns : List Int} {b c : Nat} (hk : hasS h (gQ Wt.l 4 q) b) (hk2 : hasS h (gQ I1 1 ns) c) (hbc : b ≠ c) : CovS 0 (.tup [.agg [.i .i64 ti, .b st, .i .i64 tp, (gQ Wt.l 4 q).v b], (gQ I1 1 ns).v c, .b up, .i .i64 e]) h n (askV (⟨ti, st, tp, q⟩, ns, up, e)) [] 0 := by
 refine CovS.frzS (h' := (gQ I1 1 ns).h c) (v' := .tup [.agg (Ws.a ⟨ti, st, tp, q⟩), (gQ I1 1 ns).v c, .b up, .i .i64 e]) (gQ_is (f := Wt.l) Wt.bel Wt.len q) (gQ_fresh q) (gQcap q) hk (FzV.tup ⟨FzV.agg ⟨FzV.refl, FzV.refl, FzV.refl, FzV.hit, trivial⟩, FzV.refl, FzV.refl, FzV.refl, trivial⟩) (fun d kk hc => ⟨fun hdb => ?_, hk2 _ _ hc⟩) ?_
 · subst hdb
   unfold gQ at hc
   split at hc
   · simp [Sh.h, hget] at hc
   · simp only [Sh.h, hget] at hc
     have h1 : c.beq d = false := by
      cases hcd : c.beq d
      · rfl
      · exact absurd (Nat.eq_of_beq_eq_true hcd).symm hbc
     rw [h1] at hc
     cases hc
 · refine CovS.frzS (h' := []) (v' := askV (⟨ti, st, tp, q⟩, ns, up, e)) (gQ_is (f := I1) I1.bel I1.len ns) (gQ_fresh ns) (gIcap ns) (fun _ _ h => h) (FzV.tup ⟨FzV.refl, FzV.hit, FzV.refl, FzV.refl, trivial⟩) (fun c kk hc => by simp [hget] at hc) ?_
   exact CovS.ends (Ends.pureE (askV_bel _) rfl)
theorem chk_ok {at_ tp : Int} {l : List Wt} {last : Int} (h : chk at_ tp last l = true) (ht : at_ ≤ 1099511627776) : ∀ x ∈ l, okX x = true := fun x hx => wantB_ok (chk_sq h x hx) ht
end Go.Proofs.Res
