/- JitterEven: the walk. -/
import Derived.Test.YtcpgamgkbbckoaaJitKa
import Derived.Test.YtcpgamgkbbckoaaJitP2
import Derived.Test.YtcpgamgkbbckoaaJitI7
namespace Go.Proofs.Jit
open Go.Ab
set_option maxRecDepth 100000
set_option maxHeartbeats 4000000
set_option linter.unusedSimpArgs false
set_option linter.unusedVariables false
section
variable (ck first sq tm : Int)
def evTm (i : Nat) : Int := (tm + 20 * ck * (i : Int)) % 4294967296
def evQ (i : Nat) : Int := (sq + (i : Int)) % 65536
def evN (i : Nat) : Int := first + 20 * (i : Int)
def evSt (i : Nat) : Int := 1099511627776 + tm + 20 * ck * (i : Int)
def evTr : Int := first * ck - (1099511627776 + tm)
def evS : Nat → Bf
 | 0 => evZ ck
 | i + 1 => evA ck (evN first i + 10) (evQ sq (i + 1)) (evSt ck tm i) (evTr ck first tm)
end
section
variable {ck first sq tm : Int} (hc : 1 ≤ ck ∧ ck ≤ 96) (hf : 0 ≤ first ∧ first ≤ 65535) (hq : 0 ≤ sq ∧ sq ≤ 65535) (ht : 0 ≤ tm ∧ tm ≤ 4294967295)
include hc hf in
theorem ev_rng {i : Nat} (hi : i ≤ 12) : (0 ≤ 20 * ck * (i : Int) ∧ 20 * ck * (i : Int) ≤ 23040) ∧ (0 ≤ first * ck ∧ first * ck ≤ 6291360) ∧ evN first i * ck - evSt ck tm i = evTr ck first tm := by
 refine ⟨⟨Int.mul_nonneg (by omega) (by omega), ?_⟩, ⟨Int.mul_nonneg hf.1 (by omega), ?_⟩, ?_⟩
 · exact Int.le_trans (Int.mul_le_mul (by omega : 20 * ck ≤ 1920) (by omega : (i : Int) ≤ 12) (by omega) (by omega)) (by decide)
 · exact Int.le_trans (Int.mul_le_mul hf.2 hc.2 (by omega) (by omega)) (by decide)
 · have e : (first + 20 * (i : Int)) * ck = first * ck + 20 * ck * (i : Int) := by rw [Int.add_mul, Int.mul_assoc, Int.mul_comm (i : Int) ck, ← Int.mul_assoc]
   simp only [evN, evSt, evTr, e]
   omega
include hc hf ht in
theorem ev_x {i : Nat} (hi : i < 12) : goodB (evX ck (evN first i) (evQ sq i) (evTm ck tm i) (evSt ck tm i) (evTr ck first tm)) = true ∧ evSt ck tm i + evTr ck first tm = evN first i * ck := by
 obtain ⟨h1, h2, h3⟩ := ev_rng hc hf (tm := tm) (i := i) (by omega)
 refine ⟨evX_good hc ?_ ?_ ?_ ?_ ?_ ?_, by omega⟩
 all_goals simp only [evN, evQ, evTm, evSt, evTr]
 all_goals omega
include hc hf hq ht in
theorem ev_put {i : Nat} (hi : i < 12) : putS (evS ck first sq tm i) (evN first i) (pkE (evQ sq i) (evTm ck tm i)) = (evX ck (evN first i) (evQ sq i) (evTm ck tm i) (evSt ck tm i) (evTr ck first tm), 0) := by
 obtain ⟨h1, h2, h3⟩ := ev_rng hc hf (tm := tm) (i := i) (by omega)
 cases i with
 | zero =>
  have e1 : evN first 0 = first := by simp only [evN]; omega
  have e2 : evQ sq 0 = sq := by simp only [evQ]; omega
  have e3 : evTm ck tm 0 = tm := by simp [evTm]; omega
  have e4 : evSt ck tm 0 = 1099511627776 + tm := by simp [evSt]
  rw [e1, e2, e3, e4]
  exact put_first hc ⟨hf.1, by omega⟩ hq ht
 | succ i =>
  have e : 20 * ck * ((i + 1 : Nat) : Int) = 20 * ck * (i : Int) + 20 * ck := by rw [Int.natCast_add, Int.mul_add]; omega
  have e4 : evSt ck tm (i + 1) = evSt ck tm i + 20 * ck := by simp only [evSt, e]; omega
  rw [e4]
  show putS (evA ck (evN first i + 10) (evQ sq (i + 1)) (evSt ck tm i) (evTr ck first tm)) _ _ = _
  obtain ⟨g1, g2, g3⟩ := ev_rng hc hf (tm := tm) (i := i) (by omega)
  rw [e4] at h3
  refine put_next hc ?_ ?_ ?_ ?_ ?_ ?_ ?_ h3
  all_goals simp only [evN, evQ, evTm, evSt, evTr, e] at *
  all_goals omega
include hc hf ht in
theorem ev_take {i : Nat} (hi : i < 12) : tkS (evX ck (evN first i) (evQ sq i) (evTm ck tm i) (evSt ck tm i) (evTr ck first tm)) (evN first i + 10) = (evS ck first sq tm (i + 1), [pkE (evQ sq i) (evTm ck tm i)], 0) := by
 obtain ⟨g1, g2⟩ := ev_x hc hf ht (sq := sq) hi
 rw [take_one hc ⟨by simp only [evN]; omega, by simp only [evN]; omega⟩ g1 g2]
 have : (evQ sq i + 1) % 65536 = evQ sq (i + 1) := by simp only [evQ]; omega
 rw [this]
 rfl
include hc hf ht in
theorem ev_due {i : Nat} (hi : i < 12) : dueE (evX ck (evN first i) (evQ sq i) (evTm ck tm i) (evSt ck tm i) (evTr ck first tm)) = (evN first i + 10, 0) := by
 obtain ⟨g1, g2⟩ := ev_x hc hf ht (sq := sq) hi
 exact (due_one hc ⟨by simp only [evN]; omega, by simp only [evN]; omega⟩ g1 g2).2
end
theorem evS_ok {ck first sq tm : Int} (hc : 1 ≤ ck ∧ ck ≤ 96) (hf : 0 ≤ first ∧ first ≤ 65535) (hq : 0 ≤ sq ∧ sq ≤ 65535) (ht : 0 ≤ tm ∧ tm ≤ 4294967295) {i : Nat} (hi : i ≤ 12) : okBf (evS ck first sq tm i) = true := by
 obtain ⟨h1, h2, _⟩ := ev_rng hc hf (tm := tm) hi
 cases i with
 | zero => rfl
 | succ i =>
  obtain ⟨h1, h2, _⟩ := ev_rng hc hf (tm := tm) (i := i) (by omega)
  have : (evS ck first sq tm (i + 1)).rg = true := by
   simp only [evS, evA, Bf.rg, Bool.and_eq_true]
   refine ⟨inI_of ?_, inI_of ?_, inI_of ?_, inI_of ?_, by decide, by decide⟩
   all_goals simp only [evN, evQ, evTm, evSt, evTr]
   all_goals omega
  simp only [okBf, this]
  rfl
theorem evX_ok {ck now q t S T : Int} (h1 : 0 ≤ q ∧ q ≤ 65535) (h2 : 0 ≤ S ∧ S ≤ 1152921504606846976) (h3 : -1152921504606846976 ≤ T ∧ T ≤ 1152921504606846976) : okBf (evX ck now q t S T) = true := by
 have : (evX ck now q t S T).rg = true := by
  simp only [evX, Bf.rg, Bool.and_eq_true]
  exact ⟨inI_of (by omega), inI_of (by omega), inI_of (by omega), inI_of (by omega), by decide, by decide⟩
 simp only [okBf, this]
 rfl
noncomputable def T7 : List (Nat × Ct) := [(10, k10), (15, k15n), (18, k18), (20, k20), (23, k23), (25, k25L), (26, k26), (27, k27)]
theorem hT7 (h20 : SoundAt Try.prog 20 k20) : Sound Try.prog (cxT T7) := Sound.cons s10 (Sound.cons s15n (Sound.cons s18 (Sound.cons h20 (Sound.cons s23 (Sound.cons s25L (Sound.cons s26 (Sound.cons s27 Sound.nil)))))))
abbrev cts7 : List Nat := [15, 24, 36, 81, 98]
theorem loop7 (h20 : SoundAt Try.prog 20 k20) (ck0 sq tm : Int) (fr : List Int) (evs : List Ev) (ck first : Int) (hc : 1 ≤ ck ∧ ck ≤ 96) (hf : 0 ≤ first ∧ first ≤ 65535) (hq : 0 ≤ sq ∧ sq ≤ 65535) (ht : 0 ≤ tm ∧ tm ≤ 4294967295) (m : Nat) (hm : m ≤ 12) {K : Kont} {e : Env} {h : Hp} {n : Nat}
 (he : EnvIn 2 e [(1, .i .u16 first), (2, .p 0 0), (5, .i .i64 ck), (6, .p 1 0), (34, .i .i64 (m : Int)), (35, .i .i64 ((0 : Nat) : Int))])
 (hh : HpIn 2 h [(0, { cells := [.i .u8 ck0, .i .u16 sq, .i .u32 tm, .fz (rows u8R fr) fr.length, .fz (rows Ev.l evs) evs.length] }), (1, { cells := (evZ ck).a })])
 (hK : ∀ e', eget e' 6 = some (.p 1 0) → K (.exit 0) e' [(0, { cells := [.i .u8 ck0, .i .u16 sq, .i .u32 tm, .fz (rows u8R fr) fr.length, .fz (rows Ev.l evs) evs.length] }), (1, { cells := (evS ck first sq tm m).a })] 2) : Ab.Loop Try.prog cts7 104 0 i7l20 K e h n := by
 have hlA : ∀ b : Bf, b.a.length = 11 := fun b => rfl
 have htA : ∀ b : Bf, List.take 11 b.a = b.a := fun b => List.take_of_length_le (by rw [hlA]; omega)
 have hoA : ∀ b : Bf, oneAll b.a = true := fun b => rfl
 have hbA : ∀ (b : Bf) j, belL j b.a = true := fun b j => Bf.bel' b j
 have hdA : ∀ b : Bf, List.drop 11 b.a = [] := fun b => List.drop_of_length_le (by rw [hlA]; omega)
 refine Loop.countI (F := ⟨Try.prog, cxT T7, cts7, 104, 0⟩) (hT7 h20) mo m (fun k => True)
  (fun k => [(1, .i .u16 first), (2, .p 0 0), (5, .i .i64 ck), (6, .p 1 0), (34, .i .i64 (m : Int)), (35, .i .i64 (k : Int))])
  (fun k => [(0, { cells := [.i .u8 ck0, .i .u16 sq, .i .u32 tm, .fz (rows u8R fr) fr.length, .fz (rows Ev.l evs) evs.length] }), (1, { cells := (evS ck first sq tm k).a })]) 2 (by decide) trivial he hh (fun k hk _ => ?_)
 dsimp only [T7]
 by_cases hlt : k < m
 · have hk12 : k < 12 := by omega
   have c1 : decide ((k : Int) < (m : Int)) = true := decide_eq_true (by omega)
   have hw : IntKind.i64.wrap ((k : Int) + 1) = ((k + 1 : Nat) : Int) := by rw [wrapL (by omega) (by omega)]; omega
   obtain ⟨r1, r2, r3⟩ := ev_rng hc hf (tm := tm) (i := k) (by omega)
   have w1 : IntKind.i64.wrap sq = sq := wrapL (by omega) (by omega)
   have w2 : IntKind.i64.wrap tm = tm := wrapL (by omega) (by omega)
   have w3 : IntKind.i64.wrap first = first := wrapL (by omega) (by omega)
   have w4 : IntKind.i64.wrap (sq + (k : Int)) = sq + (k : Int) := wrapL (by omega) (by omega)
   have w5 : (sq + (k : Int)).tmod 65536 = evQ sq k := Int.tmod_eq_emod_of_nonneg (by omega)
   have w6 : IntKind.i64.wrap (20 * ck) = 20 * ck := wrapL (by omega) (by omega)
   have w7 : IntKind.i64.wrap (20 * ck * (k : Int)) = 20 * ck * (k : Int) := wrapL (by omega) (by omega)
   have w8 : IntKind.i64.wrap (tm + 20 * ck * (k : Int)) = tm + 20 * ck * (k : Int) := wrapL (by omega) (by omega)
   have w9 : (tm + 20 * ck * (k : Int)).tmod 4294967296 = evTm ck tm k := Int.tmod_eq_emod_of_nonneg (by omega)
   have q1 : 0 ≤ evQ sq k ∧ evQ sq k ≤ 65535 := by simp only [evQ]; omega
   have q2 : 0 ≤ evTm ck tm k ∧ evTm ck tm k ≤ 4294967295 := by simp only [evTm]; omega
   have w10 : IntKind.i64.wrap (evQ sq k) = evQ sq k := wrapL (by omega) (by omega)
   have w11 : IntKind.i64.wrap (evTm ck tm k) = evTm ck tm k := wrapL (by omega) (by omega)
   have w12 : IntKind.i64.wrap (20 * (k : Int)) = 20 * (k : Int) := wrapL (by omega) (by omega)
   have w13 : IntKind.i64.wrap (first + 20 * (k : Int)) = evN first k := wrapL (by omega) (by omega)
   have w14 : IntKind.i64.wrap (evN first k + 10) = evN first k + 10 := by simp only [evN]; exact wrapL (by omega) (by omega)
   have hput := ev_put hc hf hq ht hk12
   have htk := ev_take hc hf ht (sq := sq) hk12
   have hdu := ev_due hc hf ht (sq := sq) hk12
   have okS := evS_ok hc hf hq ht (i := k) (by omega)
   have okX : okBf (evX ck (evN first k) (evQ sq k) (evTm ck tm k) (evSt ck tm k) (evTr ck first tm)) = true := evX_ok q1 (by simp only [evSt]; omega) (by simp only [evTr]; omega)
   obtain ⟨s1, s2, s3⟩ := okBf_t okS
   obtain ⟨x1, x2, x3⟩ := okBf_t okX
   have hpm : mdN [.b true, .i .i64 0, .i .i64 (evQ sq k), .i .i64 (evTm ck tm k), .i .i64 0, .ns, .ns, .i .i64 0, .s []] = some (pkE (evQ sq k) (evTm ck tm k)) := rfl
   have hpf : (pkE (evQ sq k) (evTm ck tm k)).fin = true := rfl
   have h15 : ∀ (h : Hp) n, k15n [.agg (evS ck first sq tm k).a, .i .i64 (evN first k), .agg [.b true, .i .i64 0, .i .i64 (evQ sq k), .i .i64 (evTm ck tm k), .i .i64 0, .ns, .ns, .i .i64 0, .s []]] h n = some (true, { v := .tup [.agg (evX ck (evN first k) (evQ sq k) (evTm ck tm k) (evSt ck tm k) (evTr ck first tm)).a, .i .i64 0], n }) := fun h n => by
    have s1 := decide_eq_true s1
    simp only [k15n, bfA_a, hpm, Option.bind_some, s1, s2, s3, hpf, hput, bfV]
    rfl
   have h27 : ∀ (h : Hp) n, k27 [.agg (evX ck (evN first k) (evQ sq k) (evTm ck tm k) (evSt ck tm k) (evTr ck first tm)).a, .i .i64 (evN first k + 10)] h n = some (true, { v := .b true, n }) := fun h n => by
    simp only [k27, bfA_a, Option.bind_some, okX, hdu, beq_self_eq_true, Bool.and_self]
   have h23 : ∀ (h : Hp) n, k23 [.agg (evX ck (evN first k) (evQ sq k) (evTm ck tm k) (evSt ck tm k) (evTr ck first tm)).a, .i .i64 (evN first k + 10)] h n = some (true, { v := .tup [.agg (evS ck first sq tm (k + 1)).a, .fz (pkE (evQ sq k) (evTm ck tm k)).l 1, .i .i64 0], n }) := fun h n => by
    have x1 := decide_eq_true x1
    have hr : rows Md.l [pkE (evQ sq k) (evTm ck tm k)] = (pkE (evQ sq k) (evTm ck tm k)).l := by simp [rows]
    simp only [k23, bfA_a, Option.bind_some, x1, x2, x3, htk, tkA, hr]
    rfl
   have h25 : ∀ (h : Hp) n, hget h 4 = some { cells := [.b true, .i .i64 0, .i .i64 (evQ sq k), .i .i64 (evTm ck tm k), .i .i64 0, .ns, .ns, .i .i64 0, .s []] } → k25L [.fz (pkE (evQ sq k) (evTm ck tm k)).l 1, .sl 4 0 1 1] h n = some (true, { v := .b true, n, rd := [4] }) := fun h n h4 => by
    simp only [k25L, h4, Option.bind_some, md9_l, hpm, if_true]
    rfl
   have hji : (evX ck (evN first k) (evQ sq k) (evTm ck tm k) (evSt ck tm k) (evTr ck first tm)).a[8]? = some (.i .i64 0) := rfl
   generalize evX ck (evN first k) (evQ sq k) (evTm ck tm k) (evSt ck tm k) (evTr ck first tm) = X at *
   generalize evS ck first sq tm k = S0 at *
   generalize evS ck first sq tm (k + 1) = S1 at *
   generalize evN first k = NW at *
   generalize evQ sq k = Q at *
   generalize evTm ck tm k = TM at *
   simp (maxSteps := 400000) only [go_sem, c1, hw, w1, w2, w3, w4, w5, w6, w7, w8, w9, w10, w11, w12, w13, w14, k26, h15, h27, h23, h25, hlA, htA, hoA, hbA, hdA, hlt, hji, List.drop_zero, List.take_zero, u8B, evB, AV.bel, belL, nblt, simprocAttr]
 · obtain rfl : k = m := by omega
   have c1 : decide ((k : Int) < (k : Int)) = false := decide_eq_false (by omega)
   simp (maxSteps := 400000) only [go_sem, c1, simprocAttr]
   exact hK _ rfl
theorem w7 (h20 : SoundAt Try.prog 20 k20) (d : Dj) (first : Int) (hd : DjOK d = true) (hf : 0 ≤ first ∧ first ≤ 65535) : FTL Try.prog 7 [.agg d.l, .i .u16 first] [] 0 (.b true) [] 0 := by
 have hT := hT7 h20
 have hok := hd
 simp only [DjOK, SmOK, Bool.and_eq_true, decide_eq_true_eq, List.all_eq_true] at hok
 obtain ⟨d1, ⟨d2, d3, d4, d5⟩, d6, d7⟩ := hok
 have hd1 := inI_t d1
 have hd2 := inI_t d2
 have hd3 := inI_t d3
 have h10 : ∀ (h : Hp) n, k10 [.agg d.l] h n = some (true, { v := .i .i64 (startS d), n }) := fun h n => by simp only [k10, dj5_l, Option.bind_some, d1]
 have hst : 1 ≤ startS d ∧ startS d ≤ 96 := by unfold startS; omega
 have h18 : ∀ (h : Hp) n, k18 [.i .i64 (startS d)] h n = some (true, { v := .tup [.agg (evZ (startS d)).a, .i .i64 0], n }) := fun h n => by
  have : inI 1 96 (startS d) = true := inI_of hst
  simp only [k18, newS, this, cond_true, bfV]
  rfl
 have out := fun (ck0 sq tm : Int) fr evs hc hq ht (m : Nat) hm (K : Kont) (e : Env) (h : Hp) (n : Nat) => @loop7 h20 ck0 sq tm fr evs (startS d) first hc hf hq ht m hm K e h n
 generalize startS d = ck at *
 obtain ⟨ck0, ⟨sq, tm, fr⟩, evs⟩ := d
 dsimp only at hd1 hd2 hd3 d5
 simp only [Dj.l] at h10 ⊢
 have hm : ∃ m : Nat, (if (12 : Int) < (fr.length : Int) then (12 : Int) else (fr.length : Int)) = (m : Int) ∧ m ≤ 12 ∧ m ≤ fr.length := by
  split
  · exact ⟨12, rfl, Nat.le_refl _, by omega⟩
  · exact ⟨fr.length, rfl, by omega, Nat.le_refl _⟩
 have hlA : ∀ b : Bf, b.a.length = 11 := fun b => rfl
 have htA : ∀ b : Bf, List.take 11 b.a = b.a := fun b => List.take_of_length_le (by rw [hlA]; omega)
 have hoA : ∀ b : Bf, oneAll b.a = true := fun b => rfl
 have hbA : ∀ (b : Bf) j, belL j b.a = true := fun b j => Bf.bel' b j
 obtain ⟨m, hm1, hm2, hm3⟩ := hm
 have hmin : min (fr.length : Int) 12 = (m : Int) := by omega
 refine FTL.of_iw hT mo Try.func7 i7_eq (by simp [i7]) (iw_of_jw ?_)
 dsimp only [i7, T7]
 have c1 : decide (0 ≤ (m : Int) ∧ (m : Int) ≤ (fr.length : Int)) = true := decide_eq_true (by omega)
 simp (maxSteps := 400000) only [go_sem, k20, h10, h18, hlA, htA, hoA, List.drop_zero, hmin, c1, simprocAttr]
 refine out ck0 sq tm fr evs hst hd2 hd3 m hm2 _ _ _ _ ?_ ?_ (fun e' g6 => ?_)
 · simp (maxSteps := 400000) only [go_sem, AV.bel, belL, nblt, simprocAttr]
 · simp (maxSteps := 400000) only [go_sem, u8B, evB, hbA, AV.bel, belL, nblt, simprocAttr]
 · have hlo : (evS ck first sq tm m).a[9]? = some (.i .i64 0) := by cases m <;> rfl
   generalize evS ck first sq tm m = S at *
   simp (maxSteps := 400000) only [go_sem, g6, hlo, simprocAttr]
   exact Ends.pureE rfl rfl
end Go.Proofs.Jit
