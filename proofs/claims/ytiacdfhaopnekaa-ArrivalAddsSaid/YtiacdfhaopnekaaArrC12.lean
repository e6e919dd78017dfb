/- Contracts of chapter 29: Same, New, works, Times; printed by arrc12.py. -/
import Derived.Test.YtiacdfhaopnekaaArrC7
import Derived.Test.YtiacdfhaopnekaaArrK2
namespace Go.Proofs.Arr
open Go.Ab
set_option maxRecDepth 100000
set_option maxHeartbeats 16000000
set_option linter.unusedSimpArgs false
set_option linter.unusedVariables false
def k20 : Ct
  | [], _, n => some (true, { v := .b true, n })
  | _, _, _ => none
theorem s20 : SoundAt Try.prog 20 k20 := fun args h n c E hc ht => by
  unfold k20 at hc
  split at hc
  · cases hc; exact CallOK.pure (by kernel_rfl) rfl rfl w20 _ _
  · cases hc
theorem w18 : FTL Try.prog 18 [] [] 0 (.agg (newT.l .ns)) [] 0 := by
  refine FTL.of_iw Sound.nil mo Try.func18 i18_eq (by simp [i18]) (iw_of_jw ?_)
  dsimp only [i18]
  simp (config := { maxSteps := 400000 }) only [go_sem, Tr.l, newT, zTr, simprocAttr]
  exact Ends.pureE rfl rfl
theorem w19 : FTL Try.prog 19 [] [] 0 (.agg (newT.l .ns)) [] 0 := by
  refine FTL.of_iw Sound.nil mo Try.func19 i19_eq (by simp [i19]) (iw_of_jw ?_)
  dsimp only [i19]
  simp (config := { maxSteps := 400000 }) only [go_sem, Tr.l, newT, zTr, simprocAttr]
  exact Ends.pureE rfl rfl
def k18 : Ct
  | [], _, n => some (true, { v := .agg (newT.l .ns), n })
  | _, _, _ => none
theorem s18 : SoundAt Try.prog 18 k18 := fun args h n c E hc ht => by
  unfold k18 at hc
  split at hc
  · cases hc; exact CallOK.pure (by kernel_rfl) rfl rfl w18 _ _
  · cases hc
theorem s19 : SoundAt Try.prog 19 k18 := fun args h n c E hc ht => by
  unfold k18 at hc
  split at hc
  · cases hc; exact CallOK.pure (by kernel_rfl) rfl rfl w19 _ _
  · cases hc
/-- Equal data. -/
def eqT (t u : Tr) : Bool := t.att == u.att && t.st == u.st && t.past == u.past && t.fst == u.fst && t.lst == u.lst && t.got == u.got && t.plst == u.plst && t.pgot == u.pgot && t.cnt == u.cnt && t.sum == u.sum && t.smo == u.smo && t.thr == u.thr && t.ovr == u.ovr && t.ovs == u.ovs && t.bef == u.bef && t.sta == u.sta
theorem eqT_rfl (t : Tr) : eqT t t = true := by simp [eqT]
theorem eqT_eq {t u : Tr} (h : eqT t u = true) : t = u := by
  simp only [eqT, Bool.and_eq_true, beq_iff_eq] at h
  cases t; cases u
  simp_all
def eqP : List Pt → List Pt → Bool
  | [], [] => true
  | a :: l, b :: m => a.x == b.x && a.y == b.y && eqP l m
  | _, _ => false
theorem eqP_rfl : ∀ l : List Pt, eqP l l = true
  | [] => rfl
  | a :: l => by simp [eqP, eqP_rfl l]
theorem eqP_eq : ∀ {l m : List Pt}, eqP l m = true → l = m
  | [], [], _ => rfl
  | a :: l, b :: m, h => by
    simp only [eqP, Bool.and_eq_true, beq_iff_eq] at h
    obtain ⟨⟨h1, h2⟩, h3⟩ := h
    rw [eqP_eq h3]
    cases a; cases b
    simp_all
  | [], _ :: _, h => by simp [eqP] at h
  | _ :: _, [], h => by simp [eqP] at h
theorem w17 (t : Tr) (s q : Sh) (l : List Pt) (hs : Sh.pts s l) (hq : Sh.pts q l) (hl : l.length ≤ 1000000) : FTL Try.prog 17 [.agg (t.l (s.v 0)), .agg (t.l (q.v 1))] (s.h 0 ++ q.h 1) 2 (.b true) (s.h 0 ++ q.h 1) 2 := by
  refine FTL.of_iw Sound.nil mo Try.func17 i17_eq (by simp [i17]) (iw_of_jw ?_)
  dsimp only [i17]
  have hp := hs.pl
  have hp2 := hq.pl
  have hln := hs.ln
  have hln2 := hq.ln
  have end1 : ∀ (n : Nat) (r : Hp), hasS r s 0 → hasS r q 1 → Go.Ab.Ends 2 (.b true) r n (.b true) (s.h 0 ++ q.h 1) 2 := fun n r h1 h2 => Go.Ab.Ends.R [] (by decide) (by decide) rfl rfl (by rw [HpR_app hp (by decide), HpR_app0 hp2 (by decide)]; exact ⟨h1, h2⟩)
  simp (config := { maxSteps := 400000 }) only [go_sem, Tr.l, hln, hln2, simprocAttr]
  refine Loop.countI (F := ⟨Try.prog, cxT [], [124, 129, 142], 143, 2⟩) Sound.nil mo l.length (fun k => True)
    (fun k => [(2, .p 2 0), (3, .p 3 0), (5, .i .i64 (k : Int))])
    (fun k => (2, { cells := t.l (s.v 0) }) :: (3, { cells := t.l (q.v 1) }) :: (s.h 0 ++ q.h 1)) 4 (by decide) trivial ?_ ?_ (fun k hk _ => ?_)
  · simp (config := { maxSteps := 400000 }) only [go_sem, AV.bel, belL, nblt, simprocAttr]
  · simp (config := { maxSteps := 400000 }) only [go_sem, Tr.l, AV.bel, belL, nblt, hp, hp2, simprocAttr]
  · by_cases hlt : k < l.length
    · have hne : s ≠ .nil := hs.ne (by rintro rfl; simp at hlt)
      have hne2 : q ≠ .nil := hq.ne (by rintro rfl; simp at hlt)
      obtain ⟨hrow, hx, hy⟩ := at_of (hs.cells hne).1
      obtain ⟨hrow2, hx2, hy2⟩ := at_of (hq.cells hne2).1
      have c1 : decide ((k : Int) < (l.length : Int)) = true := decide_eq_true (by omega)
      have c2 : decide (0 ≤ (k : Int) ∧ (k : Int) < (l.length : Int)) = true := decide_eq_true (by omega)
      have r1 := hrow k hlt
      have r2 := hrow2 k hlt
      have hsp := slParts_v (b := 0) hne
      have hsp2 := slParts_v (b := 1) hne2
      have hga : ∀ r, hget (s.h 0 ++ r) 0 = some s.blk := fun r => hget_at hne
      have hga2 : hget (q.h 1) 1 = some q.blk := hget_at0 hne2
      have hw : IntKind.i64.wrap ((k : Int) + 1) = ((k + 1 : Nat) : Int) := by rw [wrapL (by omega) (by omega)]; omega
      simp (config := { maxSteps := 400000 }) only [go_sem, Tr.l, c1, c2, r1, r2, hsp, hsp2, hga, hga2, hw, hln, hln2, hlt, AV.bel, belL, nblt, hp, hp2, simprocAttr]
    · have c1 : decide ((k : Int) < (l.length : Int)) = false := decide_eq_false (by omega)
      simp (config := { maxSteps := 400000 }) only [go_sem, Tr.l, c1, hln, hln2, simprocAttr]
      exact end1 _ _ (by simp [hasS_cons, hasS_hit]) (by simp [hasS_cons, hasS_skip, hasS_hit0])
def k17 : Ct
  | [.agg c, .agg d], h, n => (trV c).bind fun q => (shAt q.2 h).bind fun s => (rdL ptV 2 s).bind fun l => (trV d).bind fun r => (shAt r.2 h).bind fun s' => (rdL ptV 2 s').bind fun m =>
    some (eqT q.1 r.1 && eqP l m && decide (l.length ≤ 1000000) && shD q.2 r.2, { v := .b true, n := n + 2, rd := shR q.2 ++ shR r.2 })
  | _, _, _ => none
theorem s17 : SoundAt Try.prog 17 k17 := fun args h n c E hc ht => by
  unfold k17 at hc
  split at hc
  · simp only [Option.bind_eq_some_iff] at hc
    obtain ⟨q, hq, s, hs, l, hl, r, hr, s', hs', m, hm, he⟩ := hc
    obtain ⟨t, v⟩ := q
    obtain ⟨u, w⟩ := r
    cases he
    simp only [Bool.and_eq_true, decide_eq_true_eq] at ht
    obtain ⟨⟨⟨h1, h2⟩, h3⟩, h4⟩ := ht
    obtain rfl := eqT_eq h1
    obtain rfl := eqP_eq h2
    have hp := pts_rd hl
    have hp2 := pts_rd hm
    rw [trV_eq hq, trV_eq hr]
    have := CallOK.sh2 (n := n) (A := fun a b => [.agg (t.l (s.v a)), .agg (t.l (s'.v b))]) (by kernel_rfl) (by simp [belL, AV.bel, Tr.l_bel]) hs hs' hp.pl hp2.pl h4 (fun ψ => by simp [renL, AV.ren, Tr.l_ren]) (fun h0 i i' j => by subst h0; rfl) (fun h0 i j j' => by subst h0; rfl) rfl (w17 t s s' l hp hp2 h3)
    rwa [← (shAt_inv hs).1, ← (shAt_inv hs').1] at this
  · cases hc
/-- Packets of a draft. -/
structure Pk where
  s : Int
  g : Int
instance : Inhabited Pk := ⟨⟨0, 0⟩⟩
def Pk.l (p : Pk) : List AV := [.i .i8 p.s, .i .u8 p.g]
def pkV : List AV → Option Pk
  | [.i .i8 x, .i .u8 y] => some ⟨x, y⟩
  | _ => none
theorem pkV_eq (c : List AV) (a : Pk) (h : pkV c = some a) : c = a.l := by
  unfold pkV at h
  split at h
  · cases h; rfl
  · cases h
theorem Pk.len (p : Pk) : p.l.length = 2 := rfl
theorem Pk.bel0 (p : Pk) : belL 0 p.l = true := rfl
def Pk.ok (p : Pk) : Bool := inI (-128) 127 p.s && inI 0 255 p.g
abbrev Sh.pks (s : Sh) (l : List Pk) : Prop := s.is Pk.l 2 l
theorem rd_pks {s : Sh} {l : List Pk} (h : Sh.pks s l) : rdL pkV 2 s = some l := rdL_is Pk.len (fun _ => rfl) h
theorem pks_rd {s : Sh} {l : List Pk} (h : rdL pkV 2 s = some l) : Sh.pks s l := rdL_inv pkV_eq h
structure Dr where
  f : Int
  e : Int
  la : Int
def Dr.ok (d : Dr) : Bool := inI 0 65535 d.f && inI 0 255 d.e && inI 0 255 d.la
def Dr.l (d : Dr) (v : AV) : List AV := [.i .u16 d.f, .i .u8 d.e, .i .u8 d.la, v]
def drV (l : List AV) : Option (Dr × AV) := match l with
  | [.i .u16 a, .i .u8 b, .i .u8 c, v] => some (⟨a, b, c⟩, v)
  | _ => none
theorem drV_eq {l : List AV} {r : Dr × AV} (h : drV l = some r) : l = r.1.l r.2 := by
  unfold drV at h
  split at h
  · cases h; rfl
  · cases h
theorem Dr.l_ren (d : Dr) (s : Sh) (ψ : Nat → Nat) (i : Nat) : renL ψ (d.l (s.v i)) = d.l (s.v (ψ i)) := by simp [Dr.l, renL, AV.ren, v_ren]
theorem Dr.l_bel (d : Dr) (s : Sh) {i m : Nat} (h : i < m) : belL m (d.l (s.v i)) = true := by simp [Dr.l, belL, AV.bel, v_bel h]
/-- When the packets were sent, and when they came. -/
def sN (d : Dr) (l : List Pk) : Nat → Int
  | 0 => 1000 + d.f
  | k + 1 => max 0 (sN d l k + d.e % 40 + (l.getD k default).s)
def gN (d : Dr) (l : List Pk) : Nat → Int
  | 0 => 2000 + d.f
  | k + 1 => gN d l k + d.e % 40 + d.la % 20 + (l.getD k default).g
def sL (d : Dr) (l : List Pk) (n : Nat) : List Int := (List.range n).map fun i => sN d l (i + 1)
def gL (d : Dr) (l : List Pk) (n : Nat) : List Int := (List.range n).map fun i => gN d l (i + 1)
theorem sL_len (d : Dr) (l : List Pk) (n : Nat) : (sL d l n).length = n := by simp [sL]
theorem gL_len (d : Dr) (l : List Pk) (n : Nat) : (gL d l n).length = n := by simp [gL]
theorem sL_succ (d : Dr) (l : List Pk) (n : Nat) : sL d l (n + 1) = sL d l n ++ [sN d l (n + 1)] := by simp [sL, List.range_succ]
theorem gL_succ (d : Dr) (l : List Pk) (n : Nat) : gL d l (n + 1) = gL d l n ++ [gN d l (n + 1)] := by simp [gL, List.range_succ]
/-- Integers put together one by one. -/
def intQ (l : List Int) : Sh := if l.length = 0 then .nil else .sg { cells := rows int1 l, gr := some 1 } 0 l.length
abbrev Sh.ints (s : Sh) (l : List Int) : Prop := s.is int1 1 l
theorem intQ_ints (l : List Int) : Sh.ints (intQ l) l := by
  unfold intQ
  split
  · rename_i h
    have : l = [] := List.eq_nil_of_length_eq_zero h
    subst this; exact ⟨rfl, rfl, rfl⟩
  · exact ⟨rows_bel int1_bel, rfl, by show cellsAt _ 0 _ = _; unfold cellsAt; rw [List.drop_zero, ← rows_len (f := int1) (z := 1) int1_len, List.take_length]⟩
theorem intQ_fresh (l : List Int) : (intQ l).fresh = true := by unfold intQ; split <;> rfl
theorem pk_rng {d : Dr} {l : List Pk} (hl : l.all Pk.ok = true) (hd : d.ok = true) : ∀ k, k ≤ l.length → (0 ≤ sN d l k ∧ sN d l k ≤ 66535 + 166 * k) ∧ (2000 ≤ gN d l k ∧ gN d l k ≤ 67535 + 313 * k)
  | 0, _ => by
    simp only [Dr.ok, Bool.and_eq_true, inI_iff] at hd
    simp only [sN, gN]; omega
  | k + 1, hk => by
    have ih := pk_rng hl hd k (by omega)
    simp only [Dr.ok, Bool.and_eq_true, inI_iff] at hd
    have hp : (l.getD k default).ok = true := by
      rw [List.getD_eq_getElem?_getD, List.getElem?_eq_getElem (show k < l.length by omega)]
      exact List.all_eq_true.1 hl _ (List.getElem_mem _)
    simp only [Pk.ok, Bool.and_eq_true, inI_iff] at hp
    simp only [sN, gN]
    omega
theorem wrap_u8 {n : Int} (h : 0 ≤ n) (h' : n ≤ 255) : IntKind.u8.wrap n = n := by rw [wrapU8]; omega
theorem w21 (d : Dr) (s : Sh) (l : List Pk) (hs : Sh.pks s l) (hl : l.all Pk.ok = true) (hd : d.ok = true) : FTL Try.prog 21 [.agg (d.l (s.v 0))] (s.h 0) 1 (.tup [(intQ (sL d l (min l.length 60))).v 1, (intQ (gL d l (min l.length 60))).v 2]) (s.h 0 ++ ((intQ (sL d l (min l.length 60))).h 1 ++ (intQ (gL d l (min l.length 60))).h 2)) 3 := by
  refine FTL.of_iw Sound.nil mo Try.func21 i21_eq (by simp [i21]) (iw_of_jw ?_)
  dsimp only [i21]
  have hp := hs.pl
  have hln := hs.ln
  have hR := pk_rng hl hd
  simp only [Dr.ok, Bool.and_eq_true, inI_iff] at hd
  have q1 : IntKind.i64.wrap d.f = d.f := wrapL (by omega) (by omega)
  have q2 : IntKind.i64.wrap (1000 + d.f) = 1000 + d.f := wrapL (by omega) (by omega)
  have q3 : IntKind.i64.wrap (2000 + d.f) = 2000 + d.f := wrapL (by omega) (by omega)
  have q4 : d.e.tmod 40 = d.e % 40 := Int.tmod_eq_emod_of_nonneg (by omega)
  have q5 : IntKind.i64.wrap (d.e % 40) = d.e % 40 := wrapL (by omega) (by omega)
  have q6 : d.la.tmod 20 = d.la % 20 := Int.tmod_eq_emod_of_nonneg (by omega)
  have q7 : IntKind.i64.wrap (d.la % 20) = d.la % 20 := wrapL (by omega) (by omega)
  obtain ⟨m, hm⟩ : ∃ m, min l.length 60 = m := ⟨_, rfl⟩
  rw [hm]
  have fin : ∀ (n : Nat) (r : Hp), hasS r s 0 → hasS r (intQ (sL d l m)) 7 → hasS r (intQ (gL d l m)) 8 → Go.Ab.Ends 1 (.tup [(intQ (sL d l m)).v 7, (intQ (gL d l m)).v 8]) r n (.tup [(intQ (sL d l m)).v 1, (intQ (gL d l m)).v 2]) (s.h 0 ++ ((intQ (sL d l m)).h 1 ++ (intQ (gL d l m)).h 2)) 3 := fun n r h1 h2 h3 => Go.Ab.Ends.R [(1, 7), (2, 8)] (by decide) (by decide) (by simp [AV.ren, renL, v_ren, rn]) (by simp [AV.bel, belL, v_bel]) (by
    rw [HpR_app hp (by decide), HpR_app (intQ_ints _).pl (by decide), HpR_app0 (intQ_ints _).pl (by decide)]
    exact ⟨h1, h2, h3⟩)
  generalize hU : (AV.tup [(intQ (sL d l m)).v 1, (intQ (gL d l m)).v 2]) = U at *
  generalize hHH : s.h 0 ++ ((intQ (sL d l m)).h 1 ++ (intQ (gL d l m)).h 2) = HH at *
  simp (config := { maxSteps := 400000 }) only [go_sem, Dr.l, q1, q2, q3, simprocAttr]
  refine Loop.stepR (F := ⟨Try.prog, cxT [], [25], 72, 1⟩) Sound.nil mo (X := Nat) (fun k => k ≤ m) (fun k => m - k)
    (fun k => [(1, .p 1 0), (4, (intQ (sL d l k)).v 7), (5, (intQ (gL d l k)).v 8), (6, .i .i64 (sN d l k)), (7, .i .i64 (gN d l k)), (8, .i .i64 (k : Int))])
    (fun k => (1, { cells := d.l (s.v 0) }) :: ((intQ (sL d l k)).h 7 ++ ((intQ (gL d l k)).h 8 ++ s.h 0))) 9 0 (fun k => k + 1) [] (fun _ => [(7, 10), (8, 12)]) (by decide) (by decide) (fun _ => by decide) (Nat.zero_le _) ?_ ?_ (fun k hk => ?_)
  · simp (config := { maxSteps := 400000 }) only [go_sem, sN, gN, AV.ren, renL, AV.bel, belL, nblt, simprocAttr]
    exact ⟨rfl, rfl⟩
  · have h1 : intQ (sL d l 0) = .nil := rfl
    have h2 : intQ (gL d l 0) = .nil := rfl
    simp (config := { maxSteps := 400000 }) only [go_sem, Dr.l, AV.bel, belL, nblt, hp, h1, h2, shh_n, Blk.ren, renL, AV.ren, simprocAttr]
  · by_cases hlt : k < m
    · have hkl : k < l.length := by omega
      have hk60 : k < 60 := by omega
      have hne : s ≠ .nil := hs.ne (by rintro rfl; simp at hkl)
      have c1 : decide ((k : Int) < (l.length : Int)) = true := decide_eq_true (by omega)
      have c60 : decide ((k : Int) < 60) = true := decide_eq_true (by omega)
      have c2 : decide (0 ≤ (k : Int) ∧ (k : Int) < (l.length : Int)) = true := decide_eq_true (by omega)
      obtain ⟨hcells, hpl⟩ := hs.cells hne
      have hgk : l[k]? = some (l.getD k default) := by rw [List.getD_eq_getElem?_getD, List.getElem?_eq_getElem hkl]; rfl
      have x0 := row_get (j := 0) (v := .i .i8 (l.getD k default).s) Pk.len hcells hgk rfl
      have x1 := row_get (j := 1) (v := .i .u8 (l.getD k default).g) Pk.len hcells hgk rfl
      rw [Nat.add_zero] at x0
      have hok : (l.getD k default).ok = true := by
        rw [List.getD_eq_getElem?_getD, List.getElem?_eq_getElem hkl]
        exact List.all_eq_true.1 hl _ (List.getElem_mem _)
      simp only [Pk.ok, Bool.and_eq_true, inI_iff] at hok
      have hsp := slParts_v (b := 0) hne
      have hga0 : hget (s.h 0) 0 = some s.blk := hget_at0 hne
      have hw : IntKind.i64.wrap ((k : Int) + 1) = ((k + 1 : Nat) : Int) := by rw [wrapL (by omega) (by omega)]; omega
      obtain ⟨r1, r2⟩ := hR k (by omega)
      have eS : sN d l (k + 1) = max 0 (sN d l k + d.e % 40 + (l.getD k default).s) := rfl
      have eG : gN d l (k + 1) = gN d l k + d.e % 40 + d.la % 20 + (l.getD k default).g := rfl
      generalize l.getD k default = pk at *
      have w1 : IntKind.u8.wrap (d.e % 40) = d.e % 40 := wrap_u8 (by omega) (by omega)
      have w2 : IntKind.u8.wrap (d.la % 20) = d.la % 20 := wrap_u8 (by omega) (by omega)
      have w3 : IntKind.i64.wrap pk.s = pk.s := wrapL (by omega) (by omega)
      have w4 : IntKind.i64.wrap pk.g = pk.g := wrapL (by omega) (by omega)
      have v1 : IntKind.i64.wrap (sN d l k + d.e % 40) = sN d l k + d.e % 40 := wrapL (by omega) (by omega)
      have v2 : IntKind.i64.wrap (sN d l k + d.e % 40 + pk.s) = sN d l k + d.e % 40 + pk.s := wrapL (by omega) (by omega)
      have v3 : IntKind.i64.wrap (gN d l k + d.e % 40) = gN d l k + d.e % 40 := wrapL (by omega) (by omega)
      have v4 : IntKind.i64.wrap (gN d l k + d.e % 40 + d.la % 20) = gN d l k + d.e % 40 + d.la % 20 := wrapL (by omega) (by omega)
      have v5 : IntKind.i64.wrap (gN d l k + d.e % 40 + d.la % 20 + pk.g) = gN d l k + d.e % 40 + d.la % 20 + pk.g := wrapL (by omega) (by omega)
      have hsk : m - (k + 1) < m - k := by omega
      have hq1 : intQ (sL d l (k + 1)) = .sg { cells := rows int1 (sL d l k) ++ [.i .i64 (sN d l (k + 1))], gr := some 1 } 0 (k + 1) := by
        rw [intQ, sL_len, if_neg (by omega), sL_succ, rows_append]; rfl
      have hq2 : intQ (gL d l (k + 1)) = .sg { cells := rows int1 (gL d l k) ++ [.i .i64 (gN d l (k + 1))], gr := some 1 } 0 (k + 1) := by
        rw [intQ, gL_len, if_neg (by omega), gL_succ, rows_append]; rfl
      have hb1 := fun (m : Nat) (x : List Int) => belL_mono0 (m := m) (rows int1 x) (rows_bel int1_bel)
      have hb2 := fun (ψ : Nat → Nat) (x : List Int) => renL_fix0 (ψ := ψ) (rows int1 x) (rows_bel int1_bel)
      have hrn : ∀ (ψ : Nat → Nat) (x : List Int) (v : Int), renL ψ (rows int1 x ++ [.i .i64 v]) = rows int1 x ++ [.i .i64 v] := fun ψ x v => renL_fix0 _ (by rw [belL_append, rows_bel int1_bel]; rfl)
      by_cases hk0 : k = 0
      · have h1 : intQ (sL d l k) = .nil := by rw [hk0]; rfl
        have h2 : intQ (gL d l k) = .nil := by rw [hk0]; rfl
        have h3 : rows int1 (sL d l k) = [] := by rw [hk0]; rfl
        have h4 : rows int1 (gL d l k) = [] := by rw [hk0]; rfl
        have hq1z : intQ (sL d l (k + 1)) = .sg { cells := [.i .i64 (sN d l (k + 1))], gr := some 1 } 0 1 := by rw [hq1, h3, hk0]; rfl
        have hq2z : intQ (gL d l (k + 1)) = .sg { cells := [.i .i64 (gN d l (k + 1))], gr := some 1 } 0 1 := by rw [hq2, h4, hk0]; rfl
        have gm : decide (8 * 1 ≤ growMax) = true := by decide
        have gm2 : decide (8 ≤ growMax) = true := by decide
        rw [hq1z, hq2z, h1, h2, eS, eG]
        simp (config := { maxSteps := 400000 }) only [go_sem, Dr.l, c1, c60, c2, x0, x1, hsp, hga0, hw, q4, q5, q6, q7, w1, w2, w3, w4, v1, v2, v3, v4, v5, hln, gm, gm2, hlt, hsk, shv_n, shv_sg, shh_n, shh_sg, AV.ren, renL, AV.bel, belL, nblt, Blk.ren, hp, hga0, simprocAttr]
        omega
      · have h1 : intQ (sL d l k) = .sg { cells := rows int1 (sL d l k), gr := some 1 } 0 k := by rw [intQ, sL_len, if_neg hk0]
        have h2 : intQ (gL d l k) = .sg { cells := rows int1 (gL d l k), gr := some 1 } 0 k := by rw [intQ, gL_len, if_neg hk0]
        have gm : decide (8 * (k + 1) ≤ growMax) = true := decide_eq_true (by simp only [growMax]; omega)
        have l1 : (rows int1 (sL d l k)).length = k * 1 := by rw [rows_len int1_len, sL_len]
        have l2 : (rows int1 (gL d l k)).length = k * 1 := by rw [rows_len int1_len, gL_len]
        rw [hq1, hq2, h1, h2, eS, eG]
        simp (config := { maxSteps := 400000 }) only [go_sem, Dr.l, c1, c60, c2, x0, x1, hsp, hga0, hw, q4, q5, q6, q7, w1, w2, w3, w4, v1, v2, v3, v4, v5, hln, gm, l1, l2, hlt, hsk, shv_n, shv_sg, shh_n, shh_sg, AV.ren, renL, AV.bel, belL, nblt, Blk.ren, hp, hga0, hb1, hb2, belL_append, simprocAttr]
        exact ⟨by omega, by rw [hrn], by rw [hrn]⟩
    · have hkm : k = m := by omega
      subst hkm
      by_cases hc : k < l.length
      · have c1 : decide ((k : Int) < (l.length : Int)) = true := decide_eq_true (by omega)
        have c60 : decide ((k : Int) < 60) = false := decide_eq_false (by omega)
        simp (config := { maxSteps := 400000 }) only [go_sem, Dr.l, c1, c60, hln, simprocAttr]
        exact fin _ _ (by simp [hasS_cons, hasS_skip, hasS_hit0]) (by simp [hasS_cons, hasS_hit]) (by simp [hasS_cons, hasS_skip, hasS_hit])
      · have c1 : decide ((k : Int) < (l.length : Int)) = false := decide_eq_false (by omega)
        simp (config := { maxSteps := 400000 }) only [go_sem, Dr.l, c1, hln, simprocAttr]
        exact fin _ _ (by simp [hasS_cons, hasS_skip, hasS_hit0]) (by simp [hasS_cons, hasS_hit]) (by simp [hasS_cons, hasS_skip, hasS_hit])
end Go.Proofs.Arr
