/- The abstract layer: contracts over frozen values serve as triples, and as memo entries, over live slices of plain cells. -/
import Derived.Test.YtkpiibllomjeaaaAbFzs
import Derived.Test.YtkpiibllomjeaaaAbFast
import Derived.Test.YtkpiibllomjeaaaAbShelf
import Derived.Test.YtkpiibllomjeaaaAbGvs
namespace Go.Ab
set_option linter.unusedVariables false
set_option linter.unusedSimpArgs false
set_option maxRecDepth 100000
theorem VwV.aggL {h : Hp} {rd : List Nat} {l m : List AV} (hl : VwL h rd l m) : VwV h rd (.agg l) (.agg m) := fun D D' φ w u hH hv => by
 cases hv with
 | agg _ cs hlen hh =>
  refine .agg m cs (by rw [← hlen, hl.len]) (fun i b u hb hu => ?_)
  obtain ⟨a, h1, h2⟩ := hl.get hb
  exact h2 D D' φ w u hH (hh i a u h1 hu)
theorem FTL.viewG {P : Program} {f : FuncId} {args argsF : List AV} {h : Hp} {n : Nat} {rd : List Nat} {v : AV}
 (hn : ∀ b k, hget h b = some k → b < n) (hv : VwL h rd args argsF) (hpl : v.pl = true) (hf : FTL P f argsF [] 0 v [] 0) : FTL P f args h n v h n := by
 intro D φ w us hfr hH hA
 let φ1 := φ.frz (only (hget h) rd) w
 have hHo : HR D φ (only (hget h) rd) w := hH.sub fun b k hb => by
  unfold only at hb
  cases hi : inl rd b
  · rw [hi] at hb; simp at hb
  · rw [hi] at hb; simpa using hb
 have hH1 : HR (fun _ => False) φ1 (hget []) w := ⟨⟨fun b k hb => by simp [hget] at hb, fun b1 b2 k1 k2 _ hb => by simp [hget] at hb⟩, fun B vs hB => by
  simp only [φ1, Phi.frz] at hB
  split at hB
  · exact fzW_spec hB
  · exact hH.fz B vs hB, hH.lp, fun b k B vs hb => by simp [hget] at hb⟩
 have hA1 : All2 (fun _ => False) φ1 argsF us := ⟨by rw [← hv.len]; exact hA.1, fun i a u ha hu => by
  obtain ⟨a', h1, h2⟩ := hv.get ha
  exact h2 D _ φ w u hHo (hA.2 i a' u h1 hu)⟩
 refine (hf (fun _ => False) φ1 w us (fun _ h => h.elim) hH1 hA1).mono fun e w' hx => ?_
 obtain ⟨D', φ', u, rfl, hD', hr, hS⟩ := hx
 have hst : ∀ c, c < w.heap.size → w'.heap[c]? = w.heap[c]? := fun c hc => hS.frm.block c hc (fun b k hb => by simp [hget] at hb)
 refine ⟨D, φ, u, rfl, hfr, hr.pl hpl, ?_⟩
 exact Stp.mk' hH rfl rfl (fun _ h => h) (Agree.refl D φ).at_ ⟨fun b k hb => ⟨(hH.at_ b k hb).1, (hH.at_ b k hb).2.mono (fun _ h => h) (Agree.refl _ _) (hH.at_ b k hb).1 (hst _ (hH.at_ b k hb).2.lt)⟩, hH.sep⟩
  ⟨hS.frm.os, hS.frm.tape, hS.frm.output, hS.frm.size, fun c hc _ => hst c hc⟩ (fun b k hb hk => .inr ⟨b, k, hb, hk, rfl⟩)
def viewS (h : Hp) (b o m c : Nat) : Option AV := (hget h b).bind fun q =>
 bif decide (m ≤ c) && (belL 0 (cellsAt q.cells o (m * ((q.cells.length - o) / c))) && decide ((cellsAt q.cells o (m * ((q.cells.length - o) / c))).length = m * ((q.cells.length - o) / c))) then some (.fz (cellsAt q.cells o (m * ((q.cells.length - o) / c))) m) else none
mutual
def viewA (h : Hp) : AV → Option AV
 | .agg l => (viewL h l).bind fun l => some (.agg l)
 | .sl b o m c => viewS h b o m c
 | .sg b o m => viewS h b o m m
 | .ns => some (.fz [] 0)
 | .ze => some (.fz [] 0)
 | v => bif v.bel 0 then some v else none
def viewL (h : Hp) : List AV → Option (List AV)
 | [] => some []
 | v :: r => (viewA h v).bind fun v => (viewL h r).bind fun r => some (v :: r)
end
def keysH (h : Hp) : List Nat := h.map fun x => x.1
theorem keys_in {h : Hp} {b : Nat} {k : Blk} (hb : hget h b = some k) : inl (keysH h) b = true := by
 induction h with
 | nil => simp [hget] at hb
 | cons x h ih =>
  obtain ⟨c, kk⟩ := x
  simp only [hget] at hb
  simp only [keysH, List.map_cons, inl]
  by_cases hc : b = c
  · subst hc; simp
  · rw [beq_ne hc] at hb
    simp only [cond_false] at hb
    have := ih hb
    simp only [keysH] at this
    simp [this]
theorem viewS_l {h : Hp} {b o m c : Nat} {u : AV} (e : viewS h b o m c = some u) : VwV h (keysH h) (.sl b o m c) u := by
 unfold viewS at e
 simp only [Option.bind_eq_some_iff] at e
 obtain ⟨q, hq, e⟩ := e
 generalize (q.cells.length - o) / c = z at e
 cases hd : decide (m ≤ c) && (belL 0 (cellsAt q.cells o (m * z)) && decide ((cellsAt q.cells o (m * z)).length = m * z))
 · rw [hd] at e; cases e
 · rw [hd] at e
   cases e
   simp only [Bool.and_eq_true] at hd
   obtain ⟨h1, h2, h3⟩ := hd
   refine vwK_sub (z := z) (rd' := [b]) ?_ h2 (fun b' hb' => ?_)
   · rw [vwK_s, hq, Option.bind_some, h3, h1]; rfl
   · have : b' = b := by
      simp [inl] at hb'
      exact hb'.symm
     subst this
     exact keys_in hq
theorem viewS_g {h : Hp} {b o m : Nat} {u : AV} (e : viewS h b o m m = some u) : VwV h (keysH h) (.sg b o m) u := by
 unfold viewS at e
 simp only [Option.bind_eq_some_iff] at e
 obtain ⟨q, hq, e⟩ := e
 generalize (q.cells.length - o) / m = z at e
 cases hd : decide (m ≤ m) && (belL 0 (cellsAt q.cells o (m * z)) && decide ((cellsAt q.cells o (m * z)).length = m * z))
 · rw [hd] at e; cases e
 · rw [hd] at e
   cases e
   simp only [Bool.and_eq_true] at hd
   obtain ⟨h1, h2, h3⟩ := hd
   refine vwK_sub (z := z) (rd' := [b]) ?_ h2 (fun b' hb' => ?_)
   · rw [vwK_g, hq, Option.bind_some, h3]
   · have : b' = b := by
      simp [inl] at hb'
      exact hb'.symm
     subst this
     exact keys_in hq
mutual
theorem viewA_ok {h : Hp} : ∀ {v u : AV}, viewA h v = some u → VwV h (keysH h) v u
 | .agg l, u, e => by
  simp only [viewA, Option.bind_eq_some_iff, Option.some.injEq] at e
  obtain ⟨m, hm, rfl⟩ := e
  exact VwV.aggL (viewL_ok hm)
 | .sl b o m c, u, e => viewS_l e
 | .sg b o m, u, e => viewS_g e
 | .ns, u, e => by cases e; exact vwK_sub (z := 1) (rd' := []) (by rw [vwK_n]) rfl (fun b hb => by simp [inl] at hb)
 | .ze, u, e => by cases e; exact vwK_sub (z := 1) (rd' := []) (by rw [vwK_z]) rfl (fun b hb => by simp [inl] at hb)
 | .b x, u, e => by cases e; exact VwV.same rfl
 | .i k x, u, e => by cases e; exact VwV.same rfl
 | .s x, u, e => by cases e; exact VwV.same rfl
 | .np, u, e => by cases e; exact VwV.same rfl
 | .nf, u, e => by cases e; exact VwV.same rfl
 | .ni, u, e => by cases e; exact VwV.same rfl
 | .p b o, u, e => viewP e
 | .fn f l, u, e => viewP e
 | .bm f l, u, e => viewP e
 | .tup l, u, e => viewP e
 | .fz l n, u, e => viewP e
 | .fp l n, u, e => viewP e
 | .en, u, e => viewP e
 | .any, u, e => viewP e
 | .yl L r ts l, u, e => viewP e
 | .k t v, u, e => viewP e
theorem viewL_ok {h : Hp} : ∀ {l m : List AV}, viewL h l = some m → VwL h (keysH h) l m
 | [], m, e => by cases e; exact trivial
 | v :: r, m, e => by
  simp only [viewL, Option.bind_eq_some_iff, Option.some.injEq] at e
  obtain ⟨v', hv, r', hr, rfl⟩ := e
  exact ⟨viewA_ok hv, viewL_ok hr⟩
theorem viewP {h : Hp} {v u : AV} (e : (bif v.bel 0 then some v else none) = some u) : VwV h (keysH h) v u := by
 cases hb : v.bel 0
 · rw [hb] at e; cases e
 · rw [hb] at e; cases e; exact VwV.same hb
end
def lowH (n : Nat) : Hp → Bool
 | [] => true
 | (b, _) :: r => Nat.blt b n && lowH n r
theorem lowH_ok {n : Nat} : ∀ {h : Hp}, lowH n h = true → ∀ b k, hget h b = some k → b < n
 | [], _, b, k, hb => by simp [hget] at hb
 | (c, kk) :: r, h, b, k, hb => by
  simp only [lowH, Bool.and_eq_true] at h
  simp only [hget] at hb
  by_cases hc : b = c
  · subst hc; simpa using h.1
  · rw [beq_ne hc] at hb
    exact lowH_ok h.2 b k (by simpa using hb)
theorem MEnt.ok_view {P : Program} {f : FuncId} {a aF : List AV} {h : Hp} {n : Nat} {v : AV} (hc : callable P f = true) (hv : viewL h a = some aF) (hl : lowH n h = true) (hpl : v.pl = true) (ho : hOK h n n h = true) (hf : FTL P f aF [] 0 v [] 0) : (MEnt.mk f a h n v h n).ok P :=
 ⟨hc, FTL.viewG (lowH_ok hl) (viewL_ok hv) hpl hf, Nat.le_refl _, ho⟩
theorem FTL.giveG {P : Program} {f : FuncId} {args argsF : List AV} {h : Hp} {n : Nat} {v : AV}
 (hv : VwL h (keysH h) args argsF) (hb : v.bel 0 = true) (hw : wrt h (keysH h) = true) (hf : FTL P f argsF [] 0 v [] 0) : FTL P f args h n v [] n := by
 have hon : only (hget h) (keysH h) = hget h := by
  funext b
  unfold only
  cases hi : inl (keysH h) b
  · simp only [cond_false]
    cases hh : hget h b with
    | none => rfl
    | some k => rw [keys_in hh] at hi; cases hi
  · rfl
 intro D φ w us hfr hH hA
 rw [← hon] at hH
 let φ1 := φ.frz (only (hget h) (keysH h)) w
 have hH1 : HR (fun _ => False) φ1 (hget []) w := ⟨⟨fun b k hb => by simp [hget] at hb, fun b1 b2 k1 k2 _ hb => by simp [hget] at hb⟩, fun B vs hB => by
  simp only [φ1, Phi.frz] at hB
  split at hB
  · exact fzW_spec hB
  · exact hH.fz B vs hB, hH.lp, fun b k B vs hb => by simp [hget] at hb⟩
 have hA1 : All2 (fun _ => False) φ1 argsF us := ⟨by rw [← hv.len]; exact hA.1, fun i a u ha hu => by
  obtain ⟨a', h1, h2⟩ := hv.get ha
  exact h2 D _ φ w u hH (hA.2 i a' u h1 hu)⟩
 refine (hf (fun _ => False) φ1 w us (fun _ h => h.elim) hH1 hA1).mono fun e w' hx => ?_
 obtain ⟨D', φ2, u, rfl, hD', hr, hS⟩ := hx
 have ag1 := Phi.frz_agree hH D
 let φ3 : Phi := { φ with fz := φ2.fz, lp := φ2.lp }
 have hst : ∀ c, c < w.heap.size → w'.heap[c]? = w.heap[c]? := fun c hc => hS.frm.block c hc (fun b k hb => by simp [hget] at hb)
 refine ⟨D, φ3, u, rfl, hfr, ?_, ?_⟩
 · have h1 : VRel (fun _ => False) φ2 v u := hr.bel0 hb
   exact VRel.mono' (φ := φ2) (φ' := φ3) (fun _ h => h.elim) (fun _ h => h.elim) (fun _ _ h => h) (fun _ _ h => h) h1
 rw [← hon]
 refine ⟨fun b h => h, ⟨fun b _ => ⟨rfl, rfl, rfl, rfl⟩, fun B vs hB => hS.agree.fz B vs (ag1.fz B vs hB), hS.agree.lp⟩, ⟨⟨fun b k hb => (by cases hb), fun b1 b2 k1 k2 _ hb => (by cases hb)⟩, hS.hr.fz, hS.hr.lp, fun b k B vs hb => (by cases hb)⟩,
  ⟨hS.frm.os, hS.frm.tape, hS.frm.output, hS.frm.size, fun c hc _ => hst c hc⟩, fun b k hb => (by cases hb), fun B vs hB => ?_⟩
 rcases hS.fnew B vs hB with h1 | h1 | ⟨m, km, h1, _⟩
 · simp only [φ1, Phi.frz] at h1
   split at h1
   · rename_i hx
     obtain ⟨b, k, hbk, hB'⟩ := hx
     right; right
     refine ⟨b, k, hbk, ?_, hB'⟩
     simp only [only] at hbk
     cases hi : inl (keysH h) b
     · rw [hi] at hbk; cases hbk
     · rw [hi] at hbk; exact wrt_spec hw hi hbk
   · exact .inl h1
 · exact .inr (.inl h1)
 · simp [hget] at h1
theorem MEnt.ok_give {P : Program} {f : FuncId} {a aF : List AV} {h : Hp} {n : Nat} {v : AV} (hc : callable P f = true) (hv : viewL h a = some aF) (hw : wrt h (keysH h) = true) (hb : v.bel 0 = true) (hf : FTL P f aF [] 0 v [] 0) : (MEnt.mk f a h n v [] n).ok P :=
 ⟨hc, FTL.giveG (viewL_ok hv) hb hw hf, Nat.le_refl _, rfl⟩
end Go.Ab
