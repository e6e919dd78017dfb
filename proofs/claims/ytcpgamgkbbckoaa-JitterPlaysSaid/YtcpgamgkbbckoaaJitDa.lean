/- Texts laid as one: JitD1 JitD2 JitD3. -/
import Derived.Test.YtcpgamgkbbckoaaJitCf
section
/- Drafts: streams, events; Start. -/
namespace Go.Proofs.Jit
open Go.Ab
set_option maxRecDepth 100000
set_option maxHeartbeats 4000000
set_option linter.unusedSimpArgs false
set_option linter.unusedVariables false
def u8R (x : Int) : List AV := [.i .u8 x]
theorem u8R_len : ∀ x, (u8R x).length = 1 := fun _ => rfl
theorem u8R_bel : ∀ x, belL 0 (u8R x) = true := fun _ => rfl
def u8V : List AV → Option Int
 | [.i .u8 x] => some x
 | _ => none
theorem u8V_eq (c : List AV) (a : Int) (h : u8V c = some a) : c = u8R a := by
 unfold u8V at h
 split at h
 · cases h; rfl
 · cases h
theorem u8V_r (a : Int) : u8V (u8R a) = some a := rfl
structure Ev where
 wt : Int
 pt : Bool
 pk : Int
def Ev.l (x : Ev) : List AV := [.i .u16 x.wt, .b x.pt, .i .u8 x.pk]
theorem Ev.len : ∀ x : Ev, x.l.length = 3 := fun _ => rfl
theorem Ev.bel : ∀ x : Ev, belL 0 x.l = true := fun _ => rfl
def ev3 : List AV → Option Ev
 | [.i .u16 w, .b p, .i .u8 k] => some ⟨w, p, k⟩
 | _ => none
theorem ev3_eq (c : List AV) (a : Ev) (h : ev3 c = some a) : c = a.l := by
 unfold ev3 at h
 split at h
 · cases h; rfl
 · cases h
theorem ev3_l (a : Ev) : ev3 a.l = some a := rfl
structure Sm where
 sq : Int
 tm : Int
 fr : List Int
def Sm.l (s : Sm) : List AV := [.i .u16 s.sq, .i .u32 s.tm, .fz (rows u8R s.fr) s.fr.length]
structure Dj where
 ck : Int
 s : Sm
 ev : List Ev
def Dj.l (d : Dj) : List AV := [.i .u8 d.ck, .i .u16 d.s.sq, .i .u32 d.s.tm, .fz (rows u8R d.s.fr) d.s.fr.length, .fz (rows Ev.l d.ev) d.ev.length]
theorem u8B (j : Nat) (l : List Int) : belL j (rows u8R l) = true := belL_mono0 _ (rows_bel u8R_bel)
theorem evB (j : Nat) (l : List Ev) : belL j (rows Ev.l l) = true := belL_mono0 _ (rows_bel Ev.bel)
theorem Dj.bel (d : Dj) : belL 0 d.l = true := by simp only [Dj.l, belL, AV.bel, u8B, evB, Bool.and_self]
theorem Sm.bel (s : Sm) : belL 0 s.l = true := by simp only [Sm.l, belL, AV.bel, u8B, Bool.and_self]
def sm3 : List AV → Option Sm
 | [.i .u16 a, .i .u32 b, .fz L m] => (unrows 1 u8V m L).bind fun l => some ⟨a, b, l⟩
 | _ => none
theorem sm3_l (s : Sm) : sm3 s.l = some s := by
 obtain ⟨a, b, l⟩ := s
 simp only [sm3, Sm.l, unrows_rows u8R_len u8V_r l, Option.bind_some]
theorem sm3_eq {c : List AV} {s : Sm} (h : sm3 c = some s) : c = s.l := by
 unfold sm3 at h
 split at h
 · simp only [Option.bind_eq_some_iff, Option.some.injEq] at h
   obtain ⟨l, hl, rfl⟩ := h
   obtain ⟨rfl, hm⟩ := unrows_eq (f := u8R) u8V_eq hl
   subst hm; rfl
 · cases h
def dj5 : List AV → Option Dj
 | [.i .u8 c, .i .u16 a, .i .u32 b, .fz L m, .fz M k] => (unrows 1 u8V m L).bind fun l => (unrows 3 ev3 k M).bind fun e => some ⟨c, ⟨a, b, l⟩, e⟩
 | _ => none
theorem dj5_l (d : Dj) : dj5 d.l = some d := by
 obtain ⟨c, ⟨a, b, l⟩, e⟩ := d
 simp only [dj5, Dj.l, unrows_rows u8R_len u8V_r l, unrows_rows Ev.len ev3_l e, Option.bind_some]
theorem dj5_eq {c : List AV} {d : Dj} (h : dj5 c = some d) : c = d.l := by
 unfold dj5 at h
 split at h
 · simp only [Option.bind_eq_some_iff, Option.some.injEq] at h
   obtain ⟨l, hl, e, he, rfl⟩ := h
   obtain ⟨rfl, hm⟩ := unrows_eq (f := u8R) u8V_eq hl
   obtain ⟨rfl, hk⟩ := unrows_eq (f := Ev.l) ev3_eq he
   subst hm; subst hk; rfl
 · cases h
/-! Start -/
def startS (d : Dj) : Int := 1 + d.ck % 96
theorem w10 (d : Dj) (hc : 0 ≤ d.ck ∧ d.ck ≤ 255) : FTL Try.prog 10 [.agg d.l] [] 0 (.i .i64 (startS d)) [] 0 := by
 obtain ⟨ck, ⟨a, b, l⟩, e⟩ := d
 dsimp only at hc
 have m1 : ck.tmod 96 = ck % 96 := Int.tmod_eq_emod_of_nonneg (by omega)
 have m2 : IntKind.u8.wrap (ck % 96) = ck % 96 := by rw [wrapU8]; omega
 have m3 : IntKind.i64.wrap (ck % 96) = ck % 96 := wrapL (by omega) (by omega)
 have m4 : IntKind.i64.wrap (1 + ck % 96) = 1 + ck % 96 := wrapL (by omega) (by omega)
 simp only [Dj.l, startS]
 refine FTL.of_iw Sound.nil mo Try.func10 i10_eq (by simp [i10]) (iw_of_jw ?_)
 dsimp only [i10]
 simp (maxSteps := 400000) only [go_sem, m1, m2, m3, m4, simprocAttr]
 exact Ends.pureE rfl rfl
def k10 : Ct
 | [.agg c], _, n => (dj5 c).bind fun d => some (inI 0 255 d.ck, { v := .i .i64 (startS d), n })
 | _, _, _ => none
theorem s10 : SoundAt Try.prog 10 k10 := fun args h n c E hc ht => by
 unfold k10 at hc
 split at hc
 · simp only [Option.bind_eq_some_iff] at hc
   obtain ⟨d, hd, he⟩ := hc
   cases he
   rw [dj5_eq hd]
   exact CallOK.pure (by kernel_rfl) (by simp only [belL, AV.bel, Dj.bel, Bool.and_self]) rfl (w10 d (inI_t ht)) _ _
 · cases hc
end Go.Proofs.Jit
end
section
/- Streams' packets. -/
namespace Go.Proofs.Jit
open Go.Ab
set_option maxRecDepth 100000
set_option maxHeartbeats 4000000
set_option linter.unusedSimpArgs false
set_option linter.unusedVariables false
def frames (x : Int) : Nat := (1 + x % 4).toNat
def pkM (ck tm : Int) (i k n : Nat) (q : Int) : Md := ⟨(k : Int) == (n : Int) - 1, 96, q, (tm + 20 * ck * (i : Int)) % 4294967296, 1, [], [], 0, [UInt8.ofNat (97 + (i : Int)).toNat, UInt8.ofNat (48 + (k : Int)).toNat]⟩
def pkL (p : Md) : List AV := [.b p.ma, .i .i64 p.ty, .i .i64 p.sq, .i .i64 p.tm, .i .i64 p.ss, .ns, .ns, .i .i64 p.pd, .s p.pl]
theorem pkL_len : ∀ p, (pkL p).length = 9 := fun _ => rfl
theorem pkL_bel : ∀ p, belL 0 (pkL p) = true := fun _ => rfl
theorem pkB (j : Nat) (l : List Md) : belL j (rows pkL l) = true := belL_mono0 _ (rows_bel pkL_bel)
theorem pkR (ψ : Nat → Nat) (l : List Md) : renL ψ (rows pkL l) = rows pkL l := renL_fix0 _ (rows_bel pkL_bel)
theorem gPk (q : List Md) : (gQ pkL 9 q).plain = true := (gQ_is (f := pkL) pkL_bel pkL_len q).pl
theorem gPcap (q : List Md) : (gQ pkL 9 q).capOK := by unfold gQ; split <;> trivial
abbrev hD9 (s : Sm) (q : List Md) : Hp := (gQ pkL 9 q).h 1 ++ [(0, { cells := s.l })]
def inP (ck tm sq : Int) (i n : Nat) (q : List Md) (k : Nat) : List Md := q ++ mapN (fun j => pkM ck tm i j n ((sq + ((q.length + j : Nat) : Int)) % 65536)) k
theorem inP_s {ck tm sq : Int} {i n : Nat} {q : List Md} {k : Nat} : inP ck tm sq i n q (k + 1) = inP ck tm sq i n q k ++ [pkM ck tm i k n ((sq + ((q.length + k : Nat) : Int)) % 65536)] := by
 simp only [inP, mapN_s, List.append_assoc]
theorem inP_len {ck tm sq : Int} {i n : Nat} {q : List Md} {k : Nat} : (inP ck tm sq i n q k).length = q.length + k := by
 simp only [inP, List.length_append, mapN_len]
theorem loop9i (s : Sm) (ck : Int) (i n : Nat) (q : List Md) (hs : 0 ≤ s.sq ∧ s.sq ≤ 65535) (ht : 0 ≤ s.tm ∧ s.tm ≤ 4294967295) (hc : 1 ≤ ck ∧ ck ≤ 96) (hi : i < 12) (hn : n ≤ 4) (hq : q.length ≤ 100) {K : Kont} {e : Env} {h : Hp} {m : Nat}
 (he : EnvR 2 [] e [(1, .i .i64 ck), (2, .p 0 0), (5, (gQ pkL 9 q).v 1), (6, .i .i64 ((s.sq + (q.length : Int)) % 65536)), (7, .i .i64 (i : Int)), (8, .i .i64 (n : Int)), (9, .i .i64 0)])
 (hh : HpR 2 [] h (hD9 s q))
 (hK : ∀ e', eget e' 1 = some (.i .i64 ck) → eget e' 2 = some (.p 0 0) → eget e' 5 = some ((gQ pkL 9 (inP ck s.tm s.sq i n q n)).v 1) → eget e' 6 = some (.i .i64 ((s.sq + ((q.length + n : Nat) : Int)) % 65536)) → eget e' 7 = some (.i .i64 (i : Int)) → K (.exit 2) e' (hD9 s (inP ck s.tm s.sq i n q n)) 2) :
 Ab.Loop Try.prog [21, 34] 67 0 i9l11 K e h m := by
 obtain ⟨sq, tm, fr⟩ := s
 dsimp only at hs ht hK
 have hLb : ∀ j, belL j (rows u8R fr) = true := fun j => u8B j fr
 have hLr : ∀ ψ, renL ψ (rows u8R fr) = rows u8R fr := fun ψ => renL_fix0 _ (rows_bel u8R_bel)
 have hq0 : inP ck tm sq i n q 0 = q := by simp [inP, mapN_z]
 simp only [hD9, Sm.l] at hh hK
 rw [← hq0] at he hh
 refine Loop.stepR (F := ⟨Try.prog, cxT [], [21, 34], 67, 0⟩) Sound.nil mo (X := Nat) (fun k => k ≤ n) (fun k => n - k)
  (fun k => [(1, .i .i64 ck), (2, .p 0 0), (5, (gQ pkL 9 (inP ck tm sq i n q k)).v 1), (6, .i .i64 ((sq + ((q.length + k : Nat) : Int)) % 65536)), (7, .i .i64 (i : Int)), (8, .i .i64 (n : Int)), (9, .i .i64 (k : Int))])
  (fun k => (gQ pkL 9 (inP ck tm sq i n q k)).h 1 ++ [(0, { cells := [.i .u16 sq, .i .u32 tm, .fz (rows u8R fr) fr.length] })]) 2 0 (fun k => k + 1) []
  (fun k => [(1, 4)]) (by decide) (by decide) (fun k => by decide) (Nat.zero_le _) (by rw [hq0] at he; simpa [hq0] using he) hh (fun k hk => ?_)
 have hil := inP_len (ck := ck) (tm := tm) (sq := sq) (i := i) (n := n) (q := q) (k := k)
 by_cases hlt : k < n
 · have c1 : decide ((k : Int) < (n : Int)) = true := decide_eq_true (by omega)
   have hw : IntKind.i64.wrap ((k : Int) + 1) = ((k + 1 : Nat) : Int) := by rw [wrapL (by omega) (by omega)]; omega
   have hsk : n - (k + 1) < n - k := by omega
   have w1 : IntKind.i64.wrap ((n : Int) - 1) = (n : Int) - 1 := wrapL (by omega) (by omega)
   have w2 : IntKind.i64.wrap tm = tm := wrapL (by omega) (by omega)
   have w3 : IntKind.i64.wrap (20 * ck) = 20 * ck := wrapL (by omega) (by omega)
   have hci : 0 ≤ 20 * ck * (i : Int) ∧ 20 * ck * (i : Int) ≤ 1920 * 12 := ⟨Int.mul_nonneg (by omega) (by omega), Int.mul_le_mul (by omega) (by omega) (by omega) (by omega)⟩
   have w4 : IntKind.i64.wrap (20 * ck * (i : Int)) = 20 * ck * (i : Int) := wrapL (by omega) (by omega)
   have w5 : IntKind.i64.wrap (tm + 20 * ck * (i : Int)) = tm + 20 * ck * (i : Int) := wrapL (by omega) (by omega)
   have m1 : (tm + 20 * ck * (i : Int)).tmod 4294967296 = (tm + 20 * ck * (i : Int)) % 4294967296 := Int.tmod_eq_emod_of_nonneg (by omega)
   have m2 : IntKind.i64.wrap ((tm + 20 * ck * (i : Int)) % 4294967296) = (tm + 20 * ck * (i : Int)) % 4294967296 := wrapL (by omega) (by omega)
   have w6 : IntKind.i64.wrap (97 + (i : Int)) = 97 + (i : Int) := wrapL (by omega) (by omega)
   have w7 : IntKind.u8.wrap (97 + (i : Int)) = 97 + (i : Int) := by rw [wrapU8]; omega
   have w8 : IntKind.i64.wrap (48 + (k : Int)) = 48 + (k : Int) := wrapL (by omega) (by omega)
   have w9 : IntKind.u8.wrap (48 + (k : Int)) = 48 + (k : Int) := by rw [wrapU8]; omega
   have hqq : 0 ≤ (sq + ((q.length + k : Nat) : Int)) % 65536 ∧ (sq + ((q.length + k : Nat) : Int)) % 65536 < 65536 := by omega
   have w10 : IntKind.i64.wrap ((sq + ((q.length + k : Nat) : Int)) % 65536 + 1) = (sq + ((q.length + k : Nat) : Int)) % 65536 + 1 := wrapL (by omega) (by omega)
   have m3 : ((sq + ((q.length + k : Nat) : Int)) % 65536 + 1).tmod 65536 = (sq + ((q.length + (k + 1) : Nat) : Int)) % 65536 := by rw [Int.tmod_eq_emod_of_nonneg (by omega)]; omega
   have m4 : IntKind.i64.wrap ((sq + ((q.length + (k + 1) : Nat) : Int)) % 65536) = (sq + ((q.length + (k + 1) : Nat) : Int)) % 65536 := wrapL (by omega) (by omega)
   rw [inP_s]
   generalize hQ : (sq + ((q.length + k : Nat) : Int)) % 65536 = Q at *
   generalize hQ' : (sq + ((q.length + (k + 1) : Nat) : Int)) % 65536 = Q' at *
   generalize inP ck tm sq i n q k = q1 at *
   have gm : decide (112 * (q1.length + 1) ≤ growMax) = true := decide_eq_true (by simp only [growMax]; omega)
   have zR : (rows pkL q1).length = q1.length * 9 := rows_len pkL_len
   have pk := gPk q1
   have pk' := gPk (q1 ++ [pkM ck tm i k n Q])
   rw [gQ_snoc] at pk' ⊢
   simp only [pkL, pkM] at pk' ⊢
   simp (maxSteps := 400000) only [go_sem, c1, hw, w1, w2, w3, w4, w5, w6, w7, w8, w9, w10, m1, m2, m3, m4, gm, zR, pk, pk', hsk, hlt, bytesOf, AV.bel, belL, nblt, Blk.ren, renL, AV.ren, pkB, pkR, hLb, hLr, Nat.add_zero, simprocAttr]
   exact hlt
 · have c1 : decide ((k : Int) < (n : Int)) = false := decide_eq_false (by omega)
   obtain rfl : k = n := by omega
   generalize inP ck tm sq i k q k = q1 at *
   have pk := gPk q1
   simp (maxSteps := 400000) only [go_sem, c1, pk, simprocAttr]
   exact hK _ rfl rfl rfl rfl rfl
def pks (ck : Int) (s : Sm) : Nat → List Md
 | 0 => []
 | i + 1 => match s.fr[i]? with
  | some x => inP ck s.tm s.sq i (frames x) (pks ck s i) (frames x)
  | none => pks ck s i
theorem frames_rng {x : Int} (h : 0 ≤ x) : 1 ≤ frames x ∧ frames x ≤ 4 ∧ (frames x : Int) = 1 + x % 4 := by
 unfold frames; omega
theorem frames_le (x : Int) : frames x ≤ 4 := by unfold frames; omega
theorem pks_len (ck : Int) (s : Sm) : ∀ i, (pks ck s i).length ≤ 4 * i
 | 0 => by simp [pks]
 | i + 1 => by
  have h := pks_len ck s i
  simp only [pks]
  split
  · rename_i x _
    have := frames_le x
    rw [inP_len]; omega
  · omega
def pksS (ck : Int) (s : Sm) : List Md := pks ck s (min s.fr.length 12)
theorem loop9o (s : Sm) (ck : Int) (hs : 0 ≤ s.sq ∧ s.sq ≤ 65535) (ht : 0 ≤ s.tm ∧ s.tm ≤ 4294967295) (hc : 1 ≤ ck ∧ ck ≤ 96) (hf : ∀ x ∈ s.fr, 0 ≤ x ∧ x ≤ 255) (hl : s.fr.length ≤ 9223372036854775807) {K : Kont} {e : Env} {h : Hp} {m : Nat}
 (he : EnvR 2 [] e [(1, .i .i64 ck), (2, .p 0 0), (5, (gQ pkL 9 []).v 1), (6, .i .i64 ((s.sq + ((([] : List Md).length : Nat) : Int)) % 65536)), (7, .i .i64 0)])
 (hh : HpR 2 [] h (hD9 s []))
 (hK : ∀ e', eget e' 5 = some ((gQ pkL 9 (pksS ck s)).v 1) → K (.exit 0) e' (hD9 s (pksS ck s)) 2) :
 Ab.Loop Try.prog [21, 34] 67 0 i9l13 K e h m := by
 have hLb : ∀ j, belL j (rows u8R s.fr) = true := fun j => u8B j s.fr
 have hLr : ∀ ψ, renL ψ (rows u8R s.fr) = rows u8R s.fr := fun ψ => renL_fix0 _ (rows_bel u8R_bel)
 have hM : min s.fr.length 12 ≤ s.fr.length ∧ min s.fr.length 12 ≤ 12 := by omega
 have hMM : ∀ i, i < min s.fr.length 12 ↔ (i < s.fr.length ∧ i < 12) := fun i => by omega
 have hPK : pksS ck s = pks ck s (min s.fr.length 12) := rfl
 rw [hPK] at hK
 generalize min s.fr.length 12 = M at *
 clear hPK
 refine Loop.stepR (F := ⟨Try.prog, cxT [], [21, 34], 67, 0⟩) Sound.nil mo (X := Nat) (fun i => i ≤ M) (fun i => M - i)
  (fun i => [(1, .i .i64 ck), (2, .p 0 0), (5, (gQ pkL 9 (pks ck s i)).v 1), (6, .i .i64 ((s.sq + ((pks ck s i).length : Int)) % 65536)), (7, .i .i64 (i : Int))])
  (fun i => hD9 s (pks ck s i)) 2 0 (fun i => i + 1) []
  (fun i => []) (by decide) (by decide) (fun i => by decide) (Nat.zero_le _) he hh (fun i hi => ?_)
 have hql := pks_len ck s i
 have pk := gPk (pks ck s i)
 have hsm := Sm.bel s
 by_cases hlt : i < M
 · obtain ⟨h1, h2⟩ := (hMM i).1 hlt
   have c1 : decide ((i : Int) < (s.fr.length : Int)) = true := decide_eq_true (by omega)
   have c2 : decide ((i : Int) < 12) = true := decide_eq_true (by omega)
   have c3 : decide (0 ≤ (i : Int) ∧ (i : Int) < (s.fr.length : Int)) = true := decide_eq_true (by omega)
   obtain ⟨x, hx⟩ : ∃ x, s.fr[i]? = some x := ⟨_, List.getElem?_eq_getElem h1⟩
   have hr : (rows u8R s.fr)[i * 1]? = some (.i .u8 x) := rows_get (f := u8R) (z := 1) (j := 0) (v := .i .u8 x) u8R_len hx rfl
   have hxr := hf x (List.mem_of_getElem? hx)
   have hfr := frames_rng hxr.1
   have m1 : x.tmod 4 = x % 4 := Int.tmod_eq_emod_of_nonneg hxr.1
   have m2 : IntKind.u8.wrap (x % 4) = x % 4 := by rw [wrapU8]; omega
   have m3 : IntKind.i64.wrap (x % 4) = x % 4 := wrapL (by omega) (by omega)
   have m4 : IntKind.i64.wrap (1 + x % 4) = (frames x : Int) := by rw [hfr.2.2]; exact wrapL (by omega) (by omega)
   have hw : IntKind.i64.wrap ((i : Int) + 1) = ((i + 1 : Nat) : Int) := by rw [wrapL (by omega) (by omega)]; omega
   have hsk : M - (i + 1) < M - i := by omega
   have hnx : pks ck s (i + 1) = inP ck s.tm s.sq i (frames x) (pks ck s i) (frames x) := by simp only [pks, hx]
   have lp := fun (K : Kont) (e : Env) (h : Hp) (m : Nat) => @loop9i s ck i (frames x) (pks ck s i) hs ht hc h2 hfr.2.1 (by omega) K e h m
   rw [hnx]
   have hlen2 := inP_len (ck := ck) (tm := s.tm) (sq := s.sq) (i := i) (n := frames x) (q := pks ck s i) (k := frames x)
   rw [hlen2]
   generalize inP ck s.tm s.sq i (frames x) (pks ck s i) (frames x) = q2 at *
   generalize pks ck s i = q at *
   have pk2 := gPk q2
   obtain ⟨sq, tm, fr⟩ := s
   simp only [Sm.l, hD9] at lp ⊢
   dsimp only at *
   simp (maxSteps := 400000) only [go_sem, c1, c2, c3, hr, m1, m2, m3, m4, pk, Nat.add_zero, simprocAttr]
   refine lp _ _ _ _ ?_ ?_ (fun e' g1 g2 g5 g6 g7 => ?_)
   · simp (maxSteps := 400000) only [go_sem, pk, AV.bel, belL, nblt, AV.ren, renL, simprocAttr]
   · simp (maxSteps := 400000) only [go_sem, pk, hLb, hLr, AV.bel, belL, nblt, Blk.ren, AV.ren, renL, simprocAttr]
   · simp (maxSteps := 400000) only [go_sem, g1, g2, g5, g6, g7, hw, hsk, pk2, hLb, hLr, AV.bel, belL, nblt, Blk.ren, AV.ren, renL, simprocAttr]
     exact hlt
 · obtain rfl : i = M := by omega
   have hno : ¬ (i < s.fr.length ∧ i < 12) := fun hh => hlt ((hMM i).2 hh)
   generalize pks ck s i = q at *
   obtain ⟨sq, tm, fr⟩ := s
   simp only [Sm.l, hD9] at hK ⊢
   dsimp only at *
   by_cases h1 : i < fr.length
   · have c1 : decide ((i : Int) < (fr.length : Int)) = true := decide_eq_true (by omega)
     have c2 : decide ((i : Int) < 12) = false := decide_eq_false (by omega)
     simp (maxSteps := 400000) only [go_sem, c1, c2, pk, simprocAttr]
     exact hK _ rfl
   · have c1 : decide ((i : Int) < (fr.length : Int)) = false := decide_eq_false (by omega)
     simp (maxSteps := 400000) only [go_sem, c1, pk, simprocAttr]
     exact hK _ rfl
end Go.Proofs.Jit
end
section
/- Packets: the contract. -/
namespace Go.Proofs.Jit
open Go.Ab
set_option maxRecDepth 100000
set_option maxHeartbeats 4000000
set_option linter.unusedSimpArgs false
set_option linter.unusedVariables false
def bare (l : List Md) : Bool := l.all fun p => p.cs.isEmpty && p.xs.isEmpty
theorem wka_pk : ∀ {l : List Md}, bare l = true → WkaL (rows pkL l) (rows Md.l l)
 | [], _ => trivial
 | p :: l, h => by
  simp only [bare, List.all_cons, Bool.and_eq_true, List.isEmpty_iff] at h
  obtain ⟨⟨h1, h2⟩, h3⟩ := h
  have ih := wka_pk (l := l) h3
  have e1 : rows pkL (p :: l) = pkL p ++ rows pkL l := rfl
  have e2 : rows Md.l (p :: l) = Md.l p ++ rows Md.l l := rfl
  rw [e1, e2]
  refine WkaL.app ?_ ih
  obtain ⟨ma, ty, sq, tm, ss, cs, xs, pd, pl⟩ := p
  dsimp only at h1 h2
  subst h1; subst h2
  exact ⟨Wka.refl _, Wka.refl _, Wka.refl _, Wka.refl _, Wka.refl _, Wka.ns, Wka.ns, Wka.refl _, Wka.refl _, trivial⟩
theorem mapN_all {α : Type} {g : Nat → α} {f : α → Bool} (h : ∀ i, f (g i) = true) : ∀ k, (mapN g k).all f = true
 | 0 => rfl
 | k + 1 => by rw [mapN_s, List.all_append, mapN_all h k]; simp [h]
theorem pks_bare (ck : Int) (s : Sm) : ∀ i, bare (pks ck s i) = true
 | 0 => rfl
 | i + 1 => by
  have ih := pks_bare ck s i
  simp only [pks]
  split
  · simp only [bare, inP, List.all_append, Bool.and_eq_true] at ih ⊢
    exact ⟨ih, mapN_all (fun j => rfl) _⟩
  · exact ih
def SmOK (s : Sm) : Bool := inI 0 65535 s.sq && (inI 0 4294967295 s.tm && (s.fr.all (inI 0 255) && decide (s.fr.length ≤ 9223372036854775807)))
theorem w9 (s : Sm) (ck : Int) (hs : SmOK s = true) (hc : inI 1 96 ck = true) : FTL Try.prog 9 [.agg s.l, .i .i64 ck] [] 0 (.fz (rows Md.l (pksS ck s)) (pksS ck s).length) [] 0 := by
 simp only [SmOK, Bool.and_eq_true, decide_eq_true_eq, List.all_eq_true] at hs
 obtain ⟨h1, h2, h3, h4⟩ := hs
 have h1 := inI_t h1
 have h2 := inI_t h2
 have hc := inI_t hc
 have hw : FTL Try.prog 9 [.agg s.l, .i .i64 ck] [] 0 (.fz (rows pkL (pksS ck s)) (pksS ck s).length) [] 0 := by
  have lp := fun (K : Kont) (e : Env) (h : Hp) (m : Nat) => @loop9o s ck h1 h2 hc (fun x hx => inI_t (h3 x hx)) h4 K e h m
  have pk := gPk (pksS ck s)
  generalize hQ : pksS ck s = Q at *
  have hLb : ∀ j, belL j (rows u8R s.fr) = true := fun j => u8B j s.fr
  have hLr : ∀ ψ, renL ψ (rows u8R s.fr) = rows u8R s.fr := fun ψ => renL_fix0 _ (rows_bel u8R_bel)
  clear hQ
  obtain ⟨sq, tm, fr⟩ := s
  simp only [Sm.l, hD9] at lp ⊢
  dsimp only at *
  have w1 : IntKind.i64.wrap sq = sq := wrapL (by omega) (by omega)
  have m1 : sq % 65536 = sq := by omega
  refine FTL.of_cov (cx := cxT []) Sound.nil mo Try.func9 i9_eq (by simp [i9]) (iw_of_jw ?_)
  dsimp only [i9]
  simp (maxSteps := 400000) only [go_sem, w1, simprocAttr]
  refine lp _ _ _ _ ?_ ?_ (fun e' g5 => ?_)
  · simp (maxSteps := 400000) only [go_sem, gQ_nil, fv_n, List.length_nil, m1, AV.bel, belL, nblt, AV.ren, renL, simprocAttr]
    try (simp; omega)
  · simp (maxSteps := 400000) only [go_sem, gQ_nil, fh_n, hLb, hLr, AV.bel, belL, nblt, Blk.ren, AV.ren, renL, simprocAttr]
  · simp (maxSteps := 400000) only [go_sem, g5, pk, simprocAttr]
    refine CovS.frzS (h' := []) (v' := .fz (rows pkL Q) Q.length) (gQ_is (f := pkL) pkL_bel pkL_len Q) (gQ_fresh Q) (gPcap Q) (by rw [hasS_hit]; trivial) FzV.hit (fun c kk hc => by simp [hget] at hc) ?_
    exact CovS.ends (Ends.pureE (by simp only [AV.bel, pkB]) rfl)
 exact hw.vmono (Wka.fz (wka_pk (pks_bare ck s _)))
def k9 : Ct
 | [.agg c, .i .i64 ck], _, n => (sm3 c).bind fun s => some (SmOK s && inI 1 96 ck, { v := .fz (rows Md.l (pksS ck s)) (pksS ck s).length, n })
 | _, _, _ => none
theorem s9 : SoundAt Try.prog 9 k9 := fun args h n c E hc ht => by
 unfold k9 at hc
 split at hc
 · simp only [Option.bind_eq_some_iff] at hc
   obtain ⟨s, hd, he⟩ := hc
   cases he
   rw [sm3_eq hd]
   simp only [Bool.and_eq_true] at ht
   exact CallOK.pure (by kernel_rfl) (by simp only [belL, AV.bel, Sm.bel, Bool.and_self]) (by simp only [AV.bel, mrB]) (w9 s _ ht.1 ht.2) _ _
 · cases hc
end Go.Proofs.Jit
end
