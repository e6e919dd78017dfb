/- Texts laid as one: JitL3 JitL3b. -/
import Derived.Test.YtcpgamgkbbckoaaJitP1
import Derived.Test.YtcpgamgkbbckoaaJitKT
import Derived.Test.YtcpgamgkbbckoaaJitM8
import Derived.Test.YtcpgamgkbbckoaaJitI3
section
/- JitterPuts: the walk. -/
namespace Go.Proofs.Jit
open Go.Ab
set_option maxRecDepth 100000
set_option maxHeartbeats 4000000
set_option linter.unusedSimpArgs false
set_option linter.unusedVariables false
/-! small packets stay so -/
theorem pks_small (ck : Int) (s : Sm) : ∀ i, ∀ p ∈ pks ck s i, bmF p = true
 | 0 => fun p hp => by cases hp
 | i + 1 => fun p hp => by
  simp only [pks] at hp
  split at hp
  · simp only [inP, List.mem_append] at hp
    rcases hp with hp | hp
    · exact pks_small ck s i p hp
    · obtain ⟨j, hj⟩ := List.getElem?_of_mem hp
      have hlt : j < _ := (List.getElem?_eq_some_iff.1 hj).1
      rw [mapN_len] at hlt
      rw [mapN_get hlt] at hj
      cases hj
      rfl
  · exact pks_small ck s i p hp
theorem bmF_fin {p : Md} (h : bmF p = true) : p.fin = true := by
 simp only [bmF, Md.fin, Bool.and_eq_true, decide_eq_true_eq, List.all_eq_true] at h ⊢
 exact ⟨⟨⟨by omega, by omega⟩, fun x hx => by have := h.2.2.1 x hx; omega⟩, by omega⟩
theorem bmM_fin {b : Bm} {p : Md} (h : bmF p = true) (hp : p.pl.length ≤ 1000000) : (bmM b p).fin = true := by
 simp only [bmF, Bool.and_eq_true, decide_eq_true_eq, List.all_eq_true] at h
 obtain ⟨h1, h2, h3, h4⟩ := h
 have hget : ∀ i, ((p.xs.getD i (0, [])).2).length ≤ 9223372036854775807 := fun i => by
  rw [List.getD_eq_getElem?_getD]
  cases hx : p.xs[i]? with
  | none => simp
  | some x => have := h3 x (List.mem_of_getElem? hx); rw [Option.getD_some]; omega
 have h3 : ∀ x ∈ p.xs, x.2.length ≤ 9223372036854775807 := fun x hx => by have := h3 x hx; omega
 simp only [Md.fin, bmM, Bool.and_eq_true, decide_eq_true_eq, List.all_eq_true]
 refine ⟨⟨⟨decide_eq_true ?_, decide_eq_true ?_⟩, ?_⟩, decide_eq_true ?_⟩
 · split
   · simp; omega
   · omega
 · unfold bmX
   repeat' split
   all_goals (try simp only [List.length_append, List.length_set, List.length_singleton])
   all_goals omega
 · intro x hx
   unfold bmX at hx
   split at hx
   · rcases List.mem_append.1 hx with hx | hx
     · exact h3 x hx
     · simp at hx; subst hx; simp
   · split at hx
     · exact h3 x hx
     · split at hx
       · rcases List.mem_or_eq_of_mem_set hx with hx | rfl
         · exact h3 x hx
         · exact hget _
       · split at hx
         · rcases List.mem_or_eq_of_mem_set hx with hx | rfl
           · exact h3 x hx
           · have := fillD_len (p.xs.getD (mIx b p.xs) (0, [])).2
             have := hget (mIx b p.xs)
             dsimp only
             omega
         · exact h3 x hx
 · split
   · have := fillP_len (1188 + (b.at_ % 4).toNat) p.pl
     have : (b.at_ % 4).toNat ≤ 3 := by omega
     omega
   · omega
def mdN (c : List AV) : Option Md := md9 (c.map nrm)
theorem mdN_k {c : List AV} {p : Md} (h : mdN c = some p) : Wka (.agg c) (.agg p.l) := by
 rw [← md9_eq h]; exact Wka.agg (WkaL.nrm c)
def k14n : Ct
 | [.agg b, .agg c], _, n => (bm3 b).bind fun b => (mdN c).bind fun p => some (belL 0 c && (b.okB && bmF p), { v := .agg (bmM b p).l, n })
 | _, _, _ => none
theorem s14n : SoundAt Try.prog 14 k14n := fun args h n c E hc ht => by
 unfold k14n at hc
 split at hc
 · rename_i b c
   simp only [Option.bind_eq_some_iff] at hc
   obtain ⟨b, hb, p, hp, he⟩ := hc
   cases he
   rw [bm3_eq hb]
   simp only [bmF, Bool.and_eq_true, decide_eq_true_eq, List.all_eq_true] at ht
   exact CallOK.pure (by kernel_rfl) (by simp only [belL, AV.bel, ht.1, Bm.a, Bool.and_self]) (by simp only [AV.bel, Md.bel]) (FTL.wka (xs := [.agg b.a, .agg c]) (ys := [.agg b.a, .agg p.l]) ⟨Wka.refl _, mdN_k hp, trivial⟩ (w14 b ht.2.1 p ht.2.2.1 ht.2.2.2.1 ht.2.2.2.2.1 ht.2.2.2.2.2)) _ _
 · cases hc
def k15n : Ct
 | [.agg c, .i .i64 now, .agg q], _, n => (bfA c).bind fun b => (mdN q).bind fun p => some (belL 0 q && (decide (b.l.length ≤ 9223372036854775807) && (finB b.l && (b.rg && p.fin))), { v := bfV (putS b now p), n })
 | _, _, _ => none
theorem s15n : SoundAt Try.prog 15 k15n := fun args h n c E hc ht => by
 unfold k15n at hc
 split at hc
 · rename_i c now q
   simp only [Option.bind_eq_some_iff] at hc
   obtain ⟨b, hd, p, hp, he⟩ := hc
   cases he
   simp only [Bool.and_eq_true, decide_eq_true_eq] at ht
   rw [bfA_eq hd]
   exact CallOK.pure (by kernel_rfl) (by simp only [belL, AV.bel, Bf.bel, ht.1, Bool.and_self]) (bfV_bel _) (FTL.wka (xs := [.agg b.a, .i .i64 now, .agg q]) (ys := [.agg b.a, .i .i64 now, .agg p.l]) ⟨Wka.refl _, Wka.refl _, mdN_k hp, trivial⟩ (w15 b _ p ht.2.1 ht.2.2.1 ht.2.2.2.1 ht.2.2.2.2)) _ _
 · cases hc
def k16n : Ct
 | [.agg c, .i .i64 now, .agg q], _, n => (bfA c).bind fun b => (mdN q).bind fun p => some (belL 0 q && decide (b.l.length ≤ 9223372036854775807), { v := bfV (putS b now p), n })
 | _, _, _ => none
theorem s16n : SoundAt Try.prog 16 k16n := fun args h n c E hc ht => by
 unfold k16n at hc
 split at hc
 · rename_i c now q
   simp only [Option.bind_eq_some_iff] at hc
   obtain ⟨b, hd, p, hp, he⟩ := hc
   cases he
   simp only [Bool.and_eq_true, decide_eq_true_eq] at ht
   rw [bfA_eq hd]
   exact CallOK.pure (by kernel_rfl) (by simp only [belL, AV.bel, Bf.bel, ht.1, Bool.and_self]) (bfV_bel _) (FTL.wka (xs := [.agg b.a, .i .i64 now, .agg q]) (ys := [.agg b.a, .i .i64 now, .agg p.l]) ⟨Wka.refl _, Wka.refl _, mdN_k hp, trivial⟩ (w16 b _ p ht.2)) _ _
 · cases hc
noncomputable def T3 : List (Nat × Ct) := [(9, k9), (10, k10), (11, k11), (12, k12), (13, k13), (14, k14n), (15, k15n), (16, k16n), (17, k17), (18, k18), (19, k18)]
theorem hT3 : Sound Try.prog (cxT T3) := Sound.cons s9 (Sound.cons s10 (Sound.cons s11 (Sound.cons s12 (Sound.cons s13 (Sound.cons s14n (Sound.cons s15n (Sound.cons s16n (Sound.cons s17 (Sound.cons s18 (Sound.cons s19 Sound.nil))))))))))
def GdB (b : Bf) : Prop := FinL b.l ∧ b.rg = true ∧ b.l.length ≤ 9223372036854775807
theorem fin_sm {p : Md} (h : p.fin = true) : (decide (p.cs.length ≤ 9223372036854775807) && decide (p.xs.length ≤ 9223372036854775807)) = true := by
 simp only [Md.fin, Bool.and_eq_true] at h
 simp only [h.1.1.1, h.1.1.2, Bool.and_self]
theorem insL_len1 {l : List Hd} {k : Nat} {x : Hd} : (insL l k x).length = l.length + 1 := by
 simp only [insL, List.length_append, List.length_take, List.length_drop, List.length_singleton]; omega
theorem putAt_len {b : Bf} {now : Int} {p : Md} {k : Nat} {st : Int} : (putAt b now p k st).l.length = b.l.length + 1 := by
 unfold putAt
 cases b.sd <;> simp only [cond_true, cond_false, insL_len1]
theorem putS_len (b : Bf) (now : Int) (p : Md) : (putS b now p).1.l.length ≤ 65 := by
 unfold putS
 split
 · rename_i h0
   have hl := good_len (lateB_0 h0).1
   cases mdB p
   · exact Nat.zero_le _
   · cases b.sd
     · simp only [cond_true, cond_false, putAt_len]; omega
     · simp only [cond_true]
       cases (decide (lead p.sq b.nx < 0) || dupB b.l (pos b.nx (lead p.sq b.nx) b.l) p.sq)
       · cases (decide (lead p.sq b.nx > 511) || (decide (stampS b p < 0) || decide (stampS b p > 1152921504606846976)))
         · cases decide (64 ≤ b.l.length)
           · simp only [cond_false, putAt_len]; omega
           · exact Nat.zero_le _
         · exact Nat.zero_le _
       · exact Nat.zero_le _
 · exact Nat.zero_le _
abbrev cts3 : List Nat := [46, 61, 77, 101, 129, 138, 158]
theorem inner3 (b : Bf) (hb : GdB b) (M : List AV) (hMb : ∀ j, belL j M = true) (hMl : M.length = 30) (hM : ∀ k, k < 3 → ∃ (m : Int) (c : List AV) (q : Md), List.take 10 (List.drop (k * 10) M) = .i .i64 m :: c ∧ mdN c = some q ∧ q.fin = true ∧ (∀ j, belL j c = true) ∧ c.length = 9 ∧ oneAll c = true) (A B C D : List AV) (hA : ∀ j, belL j A = true) (hB : ∀ j, belL j B = true) (hC : ∀ j, belL j C = true) (hD : ∀ j, belL j D = true) (F : List AV) (hF : ∀ j, belL j F = true) (i now : Int) {K : Kont} {e : Env} {h : Hp} {n : Nat}
 (he : EnvIn 7 e [(3, .i .i64 now), (6, .p 0 0), (10, .p 3 0), (11, .p 4 0), (13, .p 5 0), (16, .p 6 0), (59, .agg F), (60, .i .i64 i), (99, .agg M), (100, .i .i64 ((0 : Nat) : Int))])
 (hh : HpIn 7 h [(0, { cells := A }), (3, { cells := B }), (4, { cells := C }), (5, { cells := D }), (6, { cells := b.a })])
 (hK : ∀ e', eget e' 3 = some (.i .i64 now) → eget e' 6 = some (.p 0 0) → eget e' 10 = some (.p 3 0) → eget e' 11 = some (.p 4 0) → eget e' 13 = some (.p 5 0) → eget e' 59 = some (.agg F) → eget e' 60 = some (.i .i64 i) → K (.exit 2) e' [(0, { cells := A }), (3, { cells := B }), (4, { cells := C }), (5, { cells := D }), (6, { cells := b.a })] 7) :
 Ab.Loop Try.prog cts3 161 0 i3l19 K e h n := by
 obtain ⟨hf, hg, hl⟩ := hb
 have hba := bfA_a b
 have hff := finB_iff.2 hf
 have hlA : ∀ b : Bf, b.a.length = 11 := fun b => rfl
 have htA : ∀ b : Bf, List.take 11 b.a = b.a := fun b => List.take_of_length_le (by rw [hlA]; omega)
 have hoA : ∀ b : Bf, oneAll b.a = true := fun b => rfl
 have hbb : ∀ j, belL j b.a = true := fun j => Bf.bel' b j
 have hll : decide (b.l.length ≤ 9223372036854775807) = true := decide_eq_true hl
 refine Loop.countI (F := ⟨Try.prog, cxT T3, cts3, 161, 0⟩) hT3 mo 3 (fun k => True)
  (fun k => [(3, .i .i64 now), (6, .p 0 0), (10, .p 3 0), (11, .p 4 0), (13, .p 5 0), (16, .p 6 0), (59, .agg F), (60, .i .i64 i), (99, .agg M), (100, .i .i64 (k : Int))])
  (fun k => [(0, { cells := A }), (3, { cells := B }), (4, { cells := C }), (5, { cells := D }), (6, { cells := b.a })]) 7 (by decide) trivial he hh (fun k hk _ => ?_)
 dsimp only [T3]
 by_cases hlt : k < 3
 · obtain ⟨m, c, q, hm, hql, hq, hqb, hq9, hqo⟩ := hM k hlt
   have hqb0 := hqb 0
   have c1 : decide ((k : Int) < 3) = true := decide_eq_true (by omega)
   have c2 : decide (0 ≤ (k : Int) ∧ (k : Int) < 3) = true := decide_eq_true (by omega)
   have c3 : decide (k * 10 + 10 ≤ M.length) = true := decide_eq_true (by omega)
   have hw : IntKind.i64.wrap ((k : Int) + 1) = ((k + 1 : Nat) : Int) := by rw [wrapL (by omega) (by omega)]; omega
   have hk15 : ∀ (h : Hp) n, k15n [.agg b.a, .i .i64 m, .agg c] h n = some (true, { v := .tup [.agg (putS b m q).1.a, .i .i64 (putS b m q).2], n }) := fun h n => by
    simp only [k15n, hba, hql, Option.bind_some, hqb0, hll, hff, hg, hq, Bool.and_self, bfV]
   have hk16 : ∀ (h : Hp) n, k16n [.agg b.a, .i .i64 m, .agg c] h n = some (true, { v := .tup [.agg (putS b m q).1.a, .i .i64 (putS b m q).2], n }) := fun h n => by
    simp only [k16n, hba, hql, Option.bind_some, hqb0, hll, Bool.and_self, bfV]
   have q1 := putS_fin (now := m) hf hq
   have hsm : smH (putS b m q).1.l = true := List.all_eq_true.2 fun x hx => fin_sm (q1 x hx)
   have l1 : decide ((putS b m q).1.l.length ≤ 9223372036854775807) = true := decide_eq_true (by have := putS_len b m q; omega)
   have hk17 : ∀ (h : Hp) n, k17 [.agg (putS b m q).1.a, .agg (putS b m q).1.a] h n = some (true, { v := .b true, n }) := fun h n => by
    simp only [k17, bfA_a, Option.bind_some, if_true, hsm, l1, Bool.and_self]
   generalize (putS b m q).1 = X at *
   generalize (putS b m q).2 = E at *
   have e2 : (E != E) = false := by simp
   have hqt : List.take 9 c = c := List.take_of_length_le (by omega)
   simp (maxSteps := 400000) only [go_sem, c1, c2, c3, hm, hk15, hk16, hk17, e2, hw, hlA, htA, hoA, hlt, List.drop_zero, hqb, hq9, hqt, hqo, hA, hB, hC, hD, hF, hMb, hbb, AV.bel, belL, nblt, simprocAttr]
 · obtain rfl : k = 3 := by omega
   have c1 : decide (((3 : Nat) : Int) < 3) = false := rfl
   simp (maxSteps := 400000) only [go_sem, c1, simprocAttr]
   exact hK _ rfl rfl rfl rfl rfl rfl rfl
def okC (c : List AV) : Prop := ∃ q, mdN c = some q ∧ q.fin = true ∧ (∀ j, belL j c = true) ∧ c.length = 9 ∧ oneAll c = true
theorem cells3 {m0 m1 m2 : Int} {p q : List AV} (hp : okC p) (hq : okC q) : ∀ k, k < 3 → ∃ (m : Int) (c : List AV) (r : Md), List.take 10 (List.drop (k * 10) ((.i .i64 m0 :: p) ++ ((.i .i64 m1 :: p) ++ (.i .i64 m2 :: q)))) = .i .i64 m :: c ∧ mdN c = some r ∧ r.fin = true ∧ (∀ j, belL j c = true) ∧ c.length = 9 ∧ oneAll c = true := fun k hk => by
 have hp9 : p.length = 9 := by obtain ⟨_, _, _, _, h, _⟩ := hp; exact h
 have hq9 : q.length = 9 := by obtain ⟨_, _, _, _, h, _⟩ := hq; exact h
 have t : ∀ (x : AV) (l r : List AV), l.length = 9 → List.take 10 ((x :: l) ++ r) = x :: l := fun x l r h => by rw [List.take_append_of_le_length (by simp; omega), List.take_of_length_le (by simp; omega)]
 have dr : ∀ (x : AV) (l r : List AV), l.length = 9 → List.drop 10 ((x :: l) ++ r) = r := fun x l r h => by rw [List.drop_append_of_le_length (by simp; omega), List.drop_of_length_le (by simp; omega), List.nil_append]
 rcases (by omega : k = 0 ∨ k = 1 ∨ k = 2) with rfl | rfl | rfl
 · obtain ⟨r, h⟩ := hp
   exact ⟨m0, p, r, by rw [Nat.zero_mul, List.drop_zero, t _ _ _ hp9], h⟩
 · obtain ⟨r, h⟩ := hp
   exact ⟨m1, p, r, by rw [Nat.one_mul, dr _ _ _ hp9, t _ _ _ hp9], h⟩
 · obtain ⟨r, h⟩ := hq
   exact ⟨m2, q, r, by rw [show 2 * 10 = 10 + 10 from rfl, ← List.drop_drop, dr _ _ _ hp9, dr _ _ _ hp9]; exact List.take_of_length_le (by simp; omega), h⟩
theorem outer3 (now : Int) (d : Dj) (ev : Ev) (y : Bm) (p : Md) (C X : AV) (hCX : mdN [.b p.ma, .i .i64 p.ty, .i .i64 p.sq, .i .i64 p.tm, .i .i64 p.ss, C, X, .i .i64 p.pd, .s p.pl] = some p) (hCb : ∀ j, C.bel j = true ∧ X.bel j = true) (hCo : C.one = true ∧ X.one = true) (hy : y.okB = true) (hp : bmF p = true) (hpp : p.pl.length ≤ 1000000) (A : List AV) (hA : ∀ j, belL j A = true) (hAl : A.length = 44) (hA4 : ∀ k, k < 4 → ∃ b, List.take 11 (List.drop (k * 11) A) = b.a ∧ GdB b) {K : Kont} {e : Env} {h : Hp} {n : Nat}
 (he : EnvIn 6 e [(3, .i .i64 now), (6, .p 0 0), (10, .p 3 0), (11, .p 4 0), (13, .p 5 0), (59, .agg A), (60, .i .i64 ((0 : Nat) : Int))]) (hh : HpIn 6 h [(0, { cells := d.l }), (3, { cells := ev.l }), (4, { cells := y.a }), (5, { cells := [.b p.ma, .i .i64 p.ty, .i .i64 p.sq, .i .i64 p.tm, .i .i64 p.ss, C, X, .i .i64 p.pd, .s p.pl] })])
 (hK : ∀ e', eget e' 3 = some (.i .i64 now) → eget e' 6 = some (.p 0 0) → K (.exit 0) e' [(0, { cells := d.l }), (3, { cells := ev.l }), (4, { cells := y.a }), (5, { cells := [.b p.ma, .i .i64 p.ty, .i .i64 p.sq, .i .i64 p.tm, .i .i64 p.ss, C, X, .i .i64 p.pd, .s p.pl] })] 6) : Ab.Loop Try.prog cts3 161 0 i3l21 K e h n := by
 have hlA : ∀ b : Bf, b.a.length = 11 := fun b => rfl
 have htA : ∀ b : Bf, List.take 11 b.a = b.a := fun b => List.take_of_length_le (by rw [hlA]; omega)
 have hoA : ∀ b : Bf, oneAll b.a = true := fun b => rfl
 have hA1 : ∀ b : Bf, b.a[1]? = some (.i .i64 b.ti) := fun b => rfl
 have hpf := bmF_fin hp
 have hdl : ∀ j, belL j d.l = true := fun j => belL_mono0 _ d.bel
 have hel : ∀ j, belL j ev.l = true := fun j => rfl
 have hyl : ∀ j, belL j y.a = true := fun j => rfl
 have hCb1 : ∀ j, C.bel j = true := fun j => (hCb j).1
 have hXb1 : ∀ j, X.bel j = true := fun j => (hCb j).2
 have hyt : List.take 3 y.a = y.a := rfl
 have hy3 : y.a.length = 3 := rfl
 have hbm : bm3 y.a = some y := rfl
 have h14 : ∀ (h : Hp) n, k14n [.agg y.a, .agg [.b p.ma, .i .i64 p.ty, .i .i64 p.sq, .i .i64 p.tm, .i .i64 p.ss, C, X, .i .i64 p.pd, .s p.pl]] h n = some (true, { v := .agg (bmM y p).l, n }) := fun h n => by simp only [k14n, hbm, hCX, Option.bind_some, belL, AV.bel, hCb1, hXb1, hy, hp, Bool.and_self]
 have hqf : (bmM y p).fin = true := bmM_fin hp hpp
 have hq9 : (bmM y p).l.length = 9 := Md.len _
 have hqb : ∀ j, belL j (bmM y p).l = true := fun j => mdlB j _
 have ok1 : okC [.b p.ma, .i .i64 p.ty, .i .i64 p.sq, .i .i64 p.tm, .i .i64 p.ss, C, X, .i .i64 p.pd, .s p.pl] := ⟨p, hCX, hpf, fun j => by simp only [belL, AV.bel, hCb1, hXb1, Bool.and_self], rfl, by simp only [oneAll, hCo.1, hCo.2]; rfl⟩
 have ok2 : okC (bmM y p).l := ⟨bmM y p, md9_l _, hqf, hqb, hq9, rfl⟩
 have hc3 := fun m0 m1 m2 => @cells3 m0 m1 m2 _ _ ok1 ok2
 have b1 := fun j => (ok1 : okC _).elim fun _ h => h.2.2.1 j
 clear ok1 ok2
 generalize bmM y p = q at *
 refine Loop.countI (F := ⟨Try.prog, cxT T3, cts3, 161, 0⟩) hT3 mo 4 (fun k => True)
  (fun k => [(3, .i .i64 now), (6, .p 0 0), (10, .p 3 0), (11, .p 4 0), (13, .p 5 0), (59, .agg A), (60, .i .i64 (k : Int))])
  (fun k => [(0, { cells := d.l }), (3, { cells := ev.l }), (4, { cells := y.a }), (5, { cells := [.b p.ma, .i .i64 p.ty, .i .i64 p.sq, .i .i64 p.tm, .i .i64 p.ss, C, X, .i .i64 p.pd, .s p.pl] })]) 6 (by decide) trivial he hh (fun k hk _ => ?_)
 dsimp only [T3]
 by_cases hlt : k < 4
 · obtain ⟨b, hr, hb⟩ := hA4 k hlt
   have c1 : decide ((k : Int) < 4) = true := decide_eq_true (by omega)
   have c2 : decide (0 ≤ (k : Int) ∧ (k : Int) < 4) = true := decide_eq_true (by omega)
   have hw : IntKind.i64.wrap ((k : Int) + 1) = ((k + 1 : Nat) : Int) := by rw [wrapL (by omega) (by omega)]; omega
   have hba := bfA_a b
   have hll : decide (b.l.length ≤ 9223372036854775807) = true := decide_eq_true hb.2.2
   have hff := finB_iff.2 hb.1
   have hg := hb.2.1
   have h12 : ∀ (h : Hp) n, k12 [.agg b.a] h n = some (true, { v := .i .i64 (if goodB b then 0 else 260), n }) := fun h n => by simp only [k12, hba, Option.bind_some, hll, hff, hg, Bool.and_self]
   have h13 : ∀ (h : Hp) n, k13 [.agg b.a] h n = some (true, { v := .b (goodB b), n }) := fun h n => by simp only [k13, hba, Option.bind_some, hll]
   have hbb : ∀ j, belL j b.a = true := fun j => Bf.bel' b j
   have hA1b := hA1 b
   have cA : decide (k * 11 + 11 ≤ A.length) = true := decide_eq_true (by omega)
   have inn := fun (m0 m1 m2 : Int) (K : Kont) (e : Env) (h : Hp) (n : Nat) => @inner3 b hb _ (fun j => by simp only [List.cons_append, belL_append, belL, AV.bel, hCb1, hXb1, hqb, Bool.and_self]) (by simp only [List.length_append, List.length_cons, hq9, List.length_nil]) (hc3 m0 m1 m2) d.l ev.l y.a _ hdl hel hyl b1 A hA (k : Int) now K e h n
   obtain ⟨wt, pt, pk⟩ := ev
   obtain ⟨ma, pty, sq, tm, pss, cs, xs, pd, pl⟩ := p
   obtain ⟨ma2, pty2, sq2, tm2, pss2, cs2, xs2, pd2, pl2⟩ := q
   simp only [Ev.l, Md.l, List.cons_append, List.nil_append] at hel inn hK h14 ⊢
   cases hgo : goodB b
   · simp only [hgo, Bool.false_eq_true, if_false] at h12 h13
     simp (maxSteps := 400000) only [go_sem, c1, c2, hr, h12, h13, h14, hlA, htA, hoA, hA1b, List.drop_zero, cA, hyt, hy3, simprocAttr]
     refine inn now (IntKind.i64.wrap (b.ti + IntKind.i64.wrap wt)) (IntKind.i64.wrap (b.ti + IntKind.i64.wrap wt)) _ _ _ _ ?_ ?_ (fun e' g3 g6 g10 g11 g13 g59 g60 => ?_)
     · simp (maxSteps := 400000) only [go_sem, hA, hCb1, hXb1, csB, xsB, mdlB, AV.bel, belL, nblt, simprocAttr]
     · simp (maxSteps := 400000) only [go_sem, hbb, hdl, hyl, hCb1, hXb1, csB, xsB, AV.bel, belL, nblt, simprocAttr]
     · simp (maxSteps := 400000) only [go_sem, g3, g6, g10, g11, g13, g59, g60, hw, hlt, hA, hdl, hyl, hCb1, hXb1, csB, xsB, AV.bel, belL, nblt, simprocAttr]
   · simp only [hgo, if_true] at h12 h13
     simp (maxSteps := 400000) only [go_sem, c1, c2, hr, h12, h13, h14, hlA, htA, hoA, hA1b, List.drop_zero, cA, hyt, hy3, simprocAttr]
     refine inn now (IntKind.i64.wrap (b.ti + IntKind.i64.wrap wt)) (IntKind.i64.wrap (b.ti + IntKind.i64.wrap wt)) _ _ _ _ ?_ ?_ (fun e' g3 g6 g10 g11 g13 g59 g60 => ?_)
     · simp (maxSteps := 400000) only [go_sem, hA, hCb1, hXb1, csB, xsB, mdlB, AV.bel, belL, nblt, simprocAttr]
     · simp (maxSteps := 400000) only [go_sem, hbb, hdl, hyl, hCb1, hXb1, csB, xsB, AV.bel, belL, nblt, simprocAttr]
     · simp (maxSteps := 400000) only [go_sem, g3, g6, g10, g11, g13, g59, g60, hw, hlt, hA, hdl, hyl, hCb1, hXb1, csB, xsB, AV.bel, belL, nblt, simprocAttr]
 · obtain rfl : k = 4 := by omega
   have c1 : decide (((4 : Nat) : Int) < 4) = false := rfl
   simp (maxSteps := 400000) only [go_sem, c1, simprocAttr]
   exact hK _ rfl rfl
theorem new3 (d : Dj) (N : List AV) (hN : ∃ a b : Int, N = [.i .i64 a, .i .i64 b]) {K : Kont} {e : Env} {h : Hp} {n : Nat}
 (he : EnvIn 0 e [(136, .agg N), (137, .i .i64 ((0 : Nat) : Int))]) (hh : HpIn 0 h []) (hK : ∀ e', K (.exit 4) e' [] 0) : Ab.Loop Try.prog cts3 161 0 i3l30 K e h n := by
 obtain ⟨a, b, rfl⟩ := hN
 have hlA : ∀ b : Bf, b.a.length = 11 := fun b => rfl
 have htA : ∀ b : Bf, List.take 11 b.a = b.a := fun b => List.take_of_length_le (by rw [hlA]; omega)
 have hoA : ∀ b : Bf, oneAll b.a = true := fun b => rfl
 refine Loop.countI (F := ⟨Try.prog, cxT T3, cts3, 161, 0⟩) hT3 mo 2 (fun k => True)
  (fun k => [(136, .agg [.i .i64 a, .i .i64 b]), (137, .i .i64 (k : Int))])
  (fun k => []) 0 (by decide) trivial he hh (fun k hk _ => ?_)
 dsimp only [T3]
 by_cases hlt : k < 2
 · obtain ⟨m, hm⟩ : ∃ m, ([.i .i64 a, .i .i64 b] : List AV)[k]? = some (.i .i64 m) := by
    rcases (by omega : k = 0 ∨ k = 1) with rfl | rfl <;> exact ⟨_, rfl⟩
   have hm1 : ([.i .i64 a, .i .i64 b] : List AV)[k * 1]? = some (.i .i64 m) := by rw [Nat.mul_one]; exact hm
   have c1 : decide ((k : Int) < 2) = true := decide_eq_true (by omega)
   have c2 : decide (0 ≤ (k : Int) ∧ (k : Int) < 2) = true := decide_eq_true (by omega)
   have hw : IntKind.i64.wrap ((k : Int) + 1) = ((k + 1 : Nat) : Int) := by rw [wrapL (by omega) (by omega)]; omega
   have h18 : ∀ (h : Hp) n, k18 [.i .i64 m] h n = some (true, { v := .tup [.agg (newS m).1.a, .i .i64 (newS m).2], n }) := fun h n => rfl
   have hl0 : (newS m).1.l = [] := by
    unfold newS
    cases inI 1 96 m <;> rfl
   have hk17 : ∀ (h : Hp) n, k17 [.agg (newS m).1.a, .agg (newS m).1.a] h n = some (true, { v := .b true, n }) := fun h n => by
    simp only [k17, bfA_a, Option.bind_some, if_true, hl0]
    rfl
   generalize (newS m).1 = X at *
   generalize (newS m).2 = E at *
   have e2 : (E != E) = false := by simp
   have hNb : belL 0 ([.i .i64 a, .i .i64 b] : List AV) = true := rfl
   generalize ([.i .i64 a, .i .i64 b] : List AV) = N at *
   simp (maxSteps := 400000) only [go_sem, c1, c2, hm, hm1, h18, hk17, e2, hw, hlA, htA, hoA, hlt, List.drop_zero, hNb, AV.bel, belL, nblt, simprocAttr]
 · obtain rfl : k = 2 := by omega
   have c1 : decide (((2 : Nat) : Int) < 2) = false := rfl
   simp (maxSteps := 400000) only [go_sem, c1, simprocAttr]
   exact hK _
end Go.Proofs.Jit
end
section
/- JitterPuts: the walk's end. -/
namespace Go.Proofs.Jit
open Go.Ab
set_option maxRecDepth 100000
set_option maxHeartbeats 4000000
set_option linter.unusedSimpArgs false
set_option linter.unusedVariables false
theorem few_gd {b : Bf} (h : FinL b.l) (hg : b.rg = true) : GdB (fewS b) := ⟨fun x hx => h x (List.mem_of_mem_take hx), hg, by
 show (b.l.take 66).length ≤ 9223372036854775807
 rw [List.length_take]; omega⟩
theorem bufS_gd (d : Dj) : GdB (bufS d) := ⟨bufS_fin d, rn_rg (bufS_rn d), by have := (bufS_inv d).2; omega⟩
theorem bendS_gd {x : Bx} {b : Bf} (hx : r64 x.n = true) (hb : GdB b) (hl : b.l.length ≤ 1000000) : GdB (bendS x b) := ⟨bendL_fin x hb.1, bendS_rg hx hb.2.1, by
 have := bendL_len x b.l
 show (bendL x b.l).length ≤ 9223372036854775807
 omega⟩
theorem pks_pl (ck : Int) (s : Sm) : ∀ i, ∀ p ∈ pks ck s i, p.pl.length ≤ 1000000
 | 0 => fun p hp => by cases hp
 | i + 1 => fun p hp => by
  simp only [pks] at hp
  split at hp
  · simp only [inP, List.mem_append] at hp
    rcases hp with hp | hp
    · exact pks_pl ck s i p hp
    · obtain ⟨j, hj⟩ := List.getElem?_of_mem hp
      have hlt : j < _ := (List.getElem?_eq_some_iff.1 hj).1
      rw [mapN_len] at hlt
      rw [mapN_get hlt] at hj
      cases hj
      exact Nat.le_of_ble_eq_true rfl
  · exact pks_pl ck s i p hp
theorem w3 (h20 : SoundAt Try.prog 20 k20) (d : Dj) (x0 x1 : Bx) (raw : Bf) (now : Int) (ev : Ev) (y : Bm) (hd : DjOK d = true) (h0 : x0.okB = true) (h1 : x1.okB = true) (r0 : r64 x0.n = true) (r1 : r64 x1.n = true) (hrf : FinL raw.l) (hrg : raw.rg = true) (hr : raw.l.length ≤ 9223372036854775807) (hev : 0 ≤ ev.pk ∧ ev.pk ≤ 255) (hy : y.okB = true) :
 FTL Try.prog 3 [.agg d.l, .agg (x0.a ++ x1.a), .agg raw.a, .i .i64 now, .agg ev.l, .agg y.a] [] 0 (.b true) [] 0 := by
 have hT : Sound Try.prog (cxT ((20, k20) :: T3)) := Sound.cons h20 hT3
 have hk11 : ∀ (h : Hp) n, k11 [.agg d.l, .agg (x0.a ++ x1.a), .agg raw.a] h n = some (true, { v := .agg ((bufS d).a ++ ((bendS x0 (bufS d)).a ++ ((bendS x1 (bendS x0 (bufS d))).a ++ (fewS raw).a))), n }) := fun h n => by
  have d2 : decide (raw.l.length ≤ 9223372036854775807) = true := decide_eq_true hr
  show (dj5 d.l).bind (fun d => (bx3 x0.a).bind fun x0 => (bx3 x1.a).bind fun x1 => (bfA raw.a).bind fun raw => _) = _
  simp only [dj5_l, bx3_a, bfA_a, Option.bind_some, hd, h0, h1, d2, Bool.and_self]
 have g0 := bufS_gd d
 have l0 : (bufS d).l.length ≤ 1000 := by have := (bufS_inv d).2; omega
 have g1 := bendS_gd r0 g0 (by omega)
 have l1 : (bendS x0 (bufS d)).l.length ≤ 1000000 := by have := bendL_len x0 (bufS d).l; show (bendL x0 (bufS d).l).length ≤ _; omega
 have g2 := bendS_gd r1 g1 l1
 have g3 := few_gd hrf hrg
 generalize bendS x1 (bendS x0 (bufS d)) = B2 at *
 generalize bendS x0 (bufS d) = B1 at *
 generalize bufS d = B0 at *
 generalize fewS raw = B3 at *
 have hAb : ∀ j, belL j (B0.a ++ (B1.a ++ (B2.a ++ B3.a))) = true := fun j => by simp only [belL_append, Bf.bel', Bool.and_self]
 have hAl : (B0.a ++ (B1.a ++ (B2.a ++ B3.a))).length = 44 := rfl
 have hA4 : ∀ k, k < 4 → ∃ b, List.take 11 (List.drop (k * 11) (B0.a ++ (B1.a ++ (B2.a ++ B3.a)))) = b.a ∧ GdB b := fun k hk => by
  rcases (by omega : k = 0 ∨ k = 1 ∨ k = 2 ∨ k = 3) with rfl | rfl | rfl | rfl
  · exact ⟨B0, rfl, g0⟩
  · exact ⟨B1, rfl, g1⟩
  · exact ⟨B2, rfl, g2⟩
  · exact ⟨B3, rfl, g3⟩
 generalize B0.a ++ (B1.a ++ (B2.a ++ B3.a)) = A at *
 have out := fun (p : Md) (C X : AV) hCX hCb hCo (hp : bmF p = true) (hpp : p.pl.length ≤ 1000000) (K : Kont) (e : Env) (h : Hp) (n : Nat) => @outer3 now d ev y p C X hCX hCb hCo hy hp hpp A hAb hAl hA4 K e h n
 have nw := fun (N : List AV) hN (K : Kont) (e : Env) (h : Hp) (n : Nat) => @new3 d N hN K e h n
 have hok := hd
 simp only [DjOK, SmOK, Bool.and_eq_true, decide_eq_true_eq, List.all_eq_true] at hok
 obtain ⟨d1, ⟨d2, d3, d4, d5⟩, d6, d7⟩ := hok
 have hd1 := inI_t d1
 have hd2 := inI_t d2
 have hd3 := inI_t d3
 have h10 : ∀ (h : Hp) n, k10 [.agg d.l] h n = some (true, { v := .i .i64 (startS d), n }) := fun h n => by simp only [k10, dj5_l, Option.bind_some, d1]
 have hst : inI 1 96 (startS d) = true := inI_of (by unfold startS; omega)
 have hsm : SmOK d.s = true := by
  simp only [SmOK, Bool.and_eq_true, decide_eq_true_eq, List.all_eq_true]
  exact ⟨d2, d3, d4, d5⟩
 have h9 : ∀ (h : Hp) n, k9 [.agg d.s.l, .i .i64 (startS d)] h n = some (true, { v := .fz (rows Md.l (pksS (startS d) d.s)) (pksS (startS d) d.s).length, n }) := fun h n => by simp only [k9, sm3_l, Option.bind_some, hsm, hst, Bool.and_self]
 have hps := pks_small (startS d) d.s (min d.s.fr.length 12)
 have hpp := pks_pl (startS d) d.s (min d.s.fr.length 12)
 change ∀ p ∈ pksS (startS d) d.s, bmF p = true at hps
 change ∀ p ∈ pksS (startS d) d.s, p.pl.length ≤ 1000000 at hpp
 have hLlen : (pksS (startS d) d.s).length ≤ 1000000 := by have := pks_len (startS d) d.s (min d.s.fr.length 12); unfold pksS; omega
 generalize pksS (startS d) d.s = L at *
 generalize startS d = ck at *
 have w1 : IntKind.i64.wrap d.s.sq = d.s.sq := wrapL (by omega) (by omega)
 have w2 : IntKind.i64.wrap d.s.tm = d.s.tm := wrapL (by omega) (by omega)
 have w3 : IntKind.i64.wrap ev.pk = ev.pk := wrapL (by omega) (by omega)
 have w4 : IntKind.i64.wrap d.ck = d.ck := wrapL (by omega) (by omega)
 have hdl : d.l.length = 5 := rfl
 obtain ⟨e0, e1, e2, e3, e4, e5, e6, e7, e8, e9, e10⟩ := raw
 obtain ⟨u0, u1, u2⟩ := x0
 obtain ⟨v0, v1, v2⟩ := x1
 obtain ⟨wt, pt, pk⟩ := ev
 obtain ⟨ck0, ⟨sq, tm, fr⟩, evs⟩ := d
 obtain ⟨y0, y1, y2⟩ := y
 dsimp only at w1 w2 w3 w4
 simp only [Bf.a, Bx.a, Dj.l, Sm.l, Ev.l, Bm.a, List.cons_append, List.nil_append] at hk11 h9 h10 out ⊢
 by_cases hz : L.length = 0
 · have c0 : decide ((L.length : Int) > 0) = false := decide_eq_false (by omega)
   refine FTL.of_iw hT mo Try.func3 i3_eq (by simp [i3]) (iw_of_jw ?_)
   dsimp only [i3, T3]
   simp (maxSteps := 400000) only [go_sem, hk11, h9, h10, w1, w2, c0, simprocAttr]
   refine out ⟨true, 0, sq, tm, 0, [], [], 0, []⟩ .ns .ns rfl (fun j => ⟨rfl, rfl⟩) ⟨rfl, rfl⟩ rfl (Nat.zero_le _) _ _ _ _ ?_ ?_ (fun e' g3 g6 => ?_)
   · simp (maxSteps := 400000) only [go_sem, hAb, AV.bel, belL, nblt, simprocAttr]
   · simp (maxSteps := 400000) only [go_sem, u8B, evB, AV.bel, belL, nblt, simprocAttr]
   · simp (maxSteps := 400000) only [go_sem, g3, g6, w4, simprocAttr]
     refine nw [.i .i64 now, .i .i64 ck0] ⟨now, ck0, rfl⟩ _ _ _ _ ?_ ?_ (fun e' => ?_)
     · simp (maxSteps := 400000) only [go_sem, AV.bel, belL, nblt, simprocAttr]
     · simp (maxSteps := 400000) only [go_sem, simprocAttr]
     · simp (maxSteps := 400000) only [go_sem, k20, simprocAttr]
       exact Ends.pureE rfl rfl
 · have c0 : decide ((L.length : Int) > 0) = true := decide_eq_true (by omega)
   have hpk := hev
   dsimp only at hpk
   have m1 : pk.tmod (L.length : Int) = pk % (L.length : Int) := Int.tmod_eq_emod_of_nonneg hpk.1
   have hlp : 0 < (L.length : Int) := by omega
   have hm2 := Int.emod_nonneg pk (by omega : (L.length : Int) ≠ 0)
   have hm3 := Int.emod_lt_of_pos pk hlp
   obtain ⟨k, hk⟩ : ∃ k : Nat, pk % (L.length : Int) = (k : Int) := ⟨(pk % (L.length : Int)).toNat, by omega⟩
   rw [hk] at hm3
   obtain ⟨p, hp⟩ : ∃ p, L[k]? = some p := ⟨_, List.getElem?_eq_getElem (by omega)⟩
   have c1 : decide (0 ≤ (k : Int) ∧ (k : Int) < (L.length : Int)) = true := decide_eq_true (by omega)
   have c2 : ((L.length : Int) != 0) = true := by rw [bne_iff_ne]; omega
   have hr : List.take 9 (List.drop (k * 9) (rows Md.l L)) = p.l := rows_at Md.len hp
   have hpm := List.mem_of_getElem? hp
   have hps := hps p hpm
   have hpp := hpp p hpm
   have hCX := md9_l p
   obtain ⟨ma, pty, psq, ptm, pss, cs, xs, pd, pl⟩ := p
   simp only [Md.l] at hr
   refine FTL.of_iw hT mo Try.func3 i3_eq (by simp [i3]) (iw_of_jw ?_)
   dsimp only [i3, T3]
   simp (maxSteps := 400000) only [go_sem, hk11, h9, h10, w1, w2, w3, w4, c0, m1, hk, c1, c2, hr, simprocAttr]
   refine out ⟨ma, pty, psq, ptm, pss, cs, xs, pd, pl⟩ (.fz (rows int1 cs) cs.length) (.fz (rows xtR xs) xs.length) hCX (fun j => ⟨csB j cs, xsB j xs⟩) ⟨rfl, rfl⟩ hps hpp _ _ _ _ ?_ ?_ (fun e' g3 g6 => ?_)
   · simp (maxSteps := 400000) only [go_sem, hAb, AV.bel, belL, nblt, simprocAttr]
   · simp (maxSteps := 400000) only [go_sem, u8B, evB, csB, xsB, AV.bel, belL, nblt, simprocAttr]
   · simp (maxSteps := 400000) only [go_sem, g3, g6, w4, simprocAttr]
     refine nw [.i .i64 now, .i .i64 ck0] ⟨now, ck0, rfl⟩ _ _ _ _ ?_ ?_ (fun e' => ?_)
     · simp (maxSteps := 400000) only [go_sem, AV.bel, belL, nblt, simprocAttr]
     · simp (maxSteps := 400000) only [go_sem, simprocAttr]
     · simp (maxSteps := 400000) only [go_sem, k20, simprocAttr]
       exact Ends.pureE rfl rfl
end Go.Proofs.Jit
end
