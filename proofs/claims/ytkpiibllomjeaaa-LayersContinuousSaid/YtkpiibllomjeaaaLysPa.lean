/- Texts laid as one: LysP1 LysP2. -/
import Derived.Test.YtkpiibllomjeaaaLysQa
import Derived.Test.YtkpiibllomjeaaaLysDb
section
/- Plain facts on the descriptor of chapter 40: reading and writing are inverse. -/
namespace Go.Proofs.Lys
open Go.Ab
set_option maxRecDepth 100000
set_option linter.unusedSimpArgs false
set_option linter.unusedVariables false
theorem Sh.ext' {s t : Sh} (h1 : s.st = t.st) (h2 : s.ky = t.ky) (h3 : s.sy = t.sy) (h4 : s.la = t.la) (h5 : s.id = t.id) (h6 : s.ba = t.ba) (h7 : s.te = t.te) (h8 : s.sp = t.sp) : s = t := by
 cases s; cases t; simp_all
theorem bits_back : ∀ a b c d : Bool, ((UInt8.ofNat (bits4 a b c d).toNat).toNat / 64 % 2 == 1) = a ∧ ((UInt8.ofNat (bits4 a b c d).toNat).toNat / 32 % 2 == 1) = b ∧ ((UInt8.ofNat (bits4 a b c d).toNat).toNat / 16 % 2 == 1) = c ∧ ((UInt8.ofNat (bits4 a b c d).toNat).toNat / 8 % 2 == 1) = d ∧ (UInt8.ofNat (bits4 a b c d).toNat).toNat / 128 = 1 ∧ (UInt8.ofNat (bits4 a b c d).toNat).toNat % 8 = 0 := by decide +kernel
theorem dec_enc {s : Sh} (hg : s.good = true) (r : List UInt8) : dec (s.enc ++ r) = (s, r, 0) := by
 have hg' := hg
 rw [Sh.good_iff] at hg
 obtain ⟨h1, h2, h3, h4, h5, h6, h7, h8, -⟩ := hg
 obtain ⟨q1, q2, q3, q4, q5, q6⟩ := bits_back s.st s.ky s.sy s.la
 have u1 : ∀ n : Nat, (UInt8.ofNat n).toNat = n % 256 := fun n => by simp
 have e : shOf (UInt8.ofNat (bits4 s.st s.ky s.sy s.la).toNat) (UInt8.ofNat (128 + s.id / 256).toNat) (UInt8.ofNat (s.id % 256).toNat) (UInt8.ofNat s.ba.toNat) (UInt8.ofNat (64 * s.te + 16 * s.sp).toNat) = s := by
  refine Sh.ext' ?_ ?_ ?_ ?_ ?_ ?_ ?_ ?_
  · refine Eq.trans ?_ q1; simp only [shOf]; rw [Bool.eq_iff_iff]; simp only [beq_iff_eq]; omega
  · refine Eq.trans ?_ q2; simp only [shOf]; rw [Bool.eq_iff_iff]; simp only [beq_iff_eq]; omega
  · refine Eq.trans ?_ q3; simp only [shOf]; rw [Bool.eq_iff_iff]; simp only [beq_iff_eq]; omega
  · refine Eq.trans ?_ q4; simp only [shOf]; rw [Bool.eq_iff_iff]; simp only [beq_iff_eq]; omega
  · simp only [shOf, u1]; omega
  · simp only [shOf, u1]; omega
  · simp only [shOf, u1]; omega
  · simp only [shOf, u1]; omega
 have hf : fine (UInt8.ofNat (bits4 s.st s.ky s.sy s.la).toNat) (UInt8.ofNat (128 + s.id / 256).toNat) (UInt8.ofNat (s.id % 256).toNat) (UInt8.ofNat s.ba.toNat) (UInt8.ofNat (64 * s.te + 16 * s.sp).toNat) = true := by
  simp only [fine, e, hg', Bool.and_true, Bool.and_eq_true, decide_eq_true_eq]
  refine ⟨⟨q5, q6⟩, ?_, ?_⟩
  · rw [u1]; omega
  · rw [u1]; omega
 simp only [Sh.enc, List.cons_append, List.nil_append, dec]
 rw [if_pos hf, e]
theorem put_enc {s : Sh} (hg : s.good = true) (r : List UInt8) {i b : Int} (h : inR i b = true) : putS (s.enc ++ r) i b = ({ s with id := i, ba := b : Sh }.enc ++ r, 0) := by
 simp only [putS, dec_enc hg, h, if_true]
 rfl
end Go.Proofs.Lys
end
section
/- Chapter 41, plain: valid switches stay valid; films' packets are valid. -/
namespace Go.Proofs.Lys
open Go.Ab
set_option maxRecDepth 100000
set_option linter.unusedSimpArgs false
set_option linter.unusedVariables false
structure Gd (s : Sw) : Prop where
 n : 1 ≤ s.l.length ∧ s.l.length ≤ 3
 ap : apS s.l = true
 ou : 0 ≤ s.ou ∧ s.ou ≤ 4294967295
 st : 1 ≤ s.st ∧ s.st ≤ 90000
 nw : -1 ≤ s.nw ∧ s.nw ≤ s.l.length - 1
 wa : -1 ≤ s.wa ∧ s.wa ≤ s.l.length - 1
 ca : 0 ≤ s.ca ∧ s.ca ≤ 3
 ai : 0 ≤ s.ai ∧ s.ai ≤ 3
 tp : 0 ≤ s.tp ∧ s.tp ≤ 65535
 fr : 0 ≤ s.fr ∧ s.fr ≤ 32767
 sq : 0 ≤ s.sq ∧ s.sq ≤ 65535
 tm : 0 ≤ s.tm ∧ s.tm ≤ 4294967295
 id : 0 ≤ s.id ∧ s.id ≤ 32767
 ba : 0 ≤ s.ba ∧ s.ba ≤ 255
 ss : 0 ≤ s.ss ∧ s.ss ≤ 65535
 sT : 0 ≤ s.sT ∧ s.sT ≤ 4294967295
 si : 0 ≤ s.si ∧ s.si ≤ 32767
 sb : 0 ≤ s.sb ∧ s.sb ≤ 255
 off : s.nw < 0 → s.ca = 0 ∧ s.tp = 0 ∧ s.fr = 0 ∧ s.kp = false ∧ s.sq = 0 ∧ s.tm = 0 ∧ s.id = 0 ∧ s.ba = 0
theorem gd_iff {s : Sw} : goodW s = true ↔ Gd s := by
 constructor
 · intro h
   simp only [goodW, numB, inI, Bool.and_eq_true, decide_eq_true_eq, Bool.or_eq_true, Bool.not_eq_true', decide_eq_false_iff_not, beq_iff_eq] at h
   obtain ⟨⟨h1, h2, h3, h4, h5, h6⟩, ⟨h7, h8, ⟨h9, h10, h11, h12⟩, ⟨h13, h14, h15, h16⟩, h17, -, h18, -⟩, h19⟩ := h
   refine ⟨by omega, h2, h3, h4, h5, h6, h7, h8, h17, h18, h9, h10, h11, h12, h13, h14, h15, h16, fun hn => ?_⟩
   rcases h19 with h | h
   · exact absurd hn h
   · exact ⟨h.1, h.2.1, h.2.2.1, h.2.2.2.1, h.2.2.2.2.1, h.2.2.2.2.2.1, h.2.2.2.2.2.2.1, h.2.2.2.2.2.2.2⟩
 · intro h
   obtain ⟨h1, h2, h3, h4, h5, h6, h7, h8, h17, h18, h9, h10, h11, h12, h13, h14, h15, h16, h19⟩ := h
   simp only [goodW, numB, inI, Bool.and_eq_true, decide_eq_true_eq, Bool.or_eq_true, Bool.not_eq_true', decide_eq_false_iff_not, beq_iff_eq]
   refine ⟨⟨by omega, h2, h3, h4, h5, h6⟩, ⟨h7, h8, ⟨h9, h10, h11, h12⟩, ⟨h13, h14, h15, h16⟩, h17, by omega, h18, by omega⟩, ?_⟩
   by_cases hn : s.nw < 0
   · exact .inr (h19 hn)
   · exact .inl hn
theorem capT_rng {s : Sw} {x : Sh} (h1 : 0 ≤ s.ca ∧ s.ca ≤ 3) (h2 : 0 ≤ s.ai ∧ s.ai ≤ 3) (h3 : x.te ≤ 3) : 0 ≤ capT s x ∧ capT s x ≤ 3 := by
 obtain ⟨e, e1, e2⟩ := capS_rng (s := s) (x := x) (by simp only [inI, Bool.and_eq_true, decide_eq_true_eq]; exact h1) (by simp only [inI, Bool.and_eq_true, decide_eq_true_eq]; exact h2)
 unfold capT
 rw [e]
 cases hb : (x.sy && (x.te == capS s x + 1 && decide (x.te ≤ s.ai)))
 · simp only [cond_false]; omega
 · simp only [cond_true]
   simp only [Bool.and_eq_true, beq_iff_eq] at hb
   omega
theorem take_gd {s : Sw} {k : Int} {p : Md} {x : Sh} (h : Gd s) (hk : 0 ≤ k ∧ k ≤ s.l.length - 1) (hx : x.good = true) : Gd (takeS s k p x) := by
 rw [Sh.good_iff] at hx
 unfold takeS
 cases takeB s k x
 · exact h
 · exact ⟨h.n, h.ap, h.ou, h.st, ⟨by show -1 ≤ k; omega, hk.2⟩, h.wa, by show (0 : Int) ≤ 0 ∧ (0 : Int) ≤ 3; omega, h.ai, by simp only [cond_true]; omega, by simp only [cond_true]; omega, by simp only [cond_true]; omega, by simp only [cond_true]; omega, by simp only [cond_true]; omega, by simp only [cond_true]; omega, h.ss, h.sT, h.si, h.sb, fun hn => absurd (show k < 0 from hn) (by omega)⟩
theorem adv_gd {s : Sw} {k : Int} {p : Md} (h : Gd s) (hk : 0 ≤ k) (hp : 0 ≤ p.sq ∧ p.sq ≤ 65535) : Gd (advS s k p) ∧ (advB s k p = true → 0 ≤ (advS s k p).nw) := by
 unfold advS
 cases ha : advB s k p
 · exact ⟨h, fun h => by cases h⟩
 · have hn : k = s.nw := by simp only [advB, Bool.and_eq_true, beq_iff_eq] at ha; exact ha.1
   exact ⟨⟨h.n, h.ap, h.ou, h.st, h.nw, h.wa, h.ca, h.ai, hp, h.fr, h.sq, h.tm, h.id, h.ba, h.ss, h.sT, h.si, h.sb, fun hh => absurd (show s.nw < 0 from hh) (by omega)⟩, fun _ => by show 0 ≤ s.nw; omega⟩
theorem frame_gd {s : Sw} {x : Sh} (h : Gd s) (hn : 0 ≤ s.nw) (hx : x.good = true) : Gd (frameS s x) := by
 rw [Sh.good_iff] at hx
 have hc := capT_rng h.ca h.ai hx.2.2.2.2.2.1
 unfold frameS
 cases (x.id == s.fr)
 · simp only [cond_false]
   refine ⟨h.n, h.ap, h.ou, h.st, h.nw, h.wa, hc, h.ai, h.tp, ⟨hx.1, hx.2.1⟩, h.sq, h.tm, ?_, h.ba, h.ss, h.sT, h.si, h.sb, fun hh => absurd (show s.nw < 0 from hh) (by omega)⟩
   show 0 ≤ (bif decide (x.te ≤ capT s x) then s.id else (s.id + -1) % 32768) ∧ (bif decide (x.te ≤ capT s x) then s.id else (s.id + -1) % 32768) ≤ 32767
   cases decide (x.te ≤ capT s x)
   · simp only [cond_false]; omega
   · exact h.id
 · exact h
theorem frame_nw (s : Sw) (x : Sh) : (frameS s x).nw = s.nw := by unfold frameS; cases (x.id == s.fr) <;> rfl
theorem drop_gd {s : Sw} {x : Sh} (h : Gd s) (hn : 0 ≤ s.nw) : Gd (dropS s x) := by
 unfold dropS
 cases dropB s x
 · exact h
 · exact ⟨h.n, h.ap, h.ou, h.st, h.nw, h.wa, h.ca, h.ai, h.tp, h.fr, by simp only [cond_true]; omega, h.tm, h.id, h.ba, h.ss, h.sT, h.si, h.sb, fun hh => absurd (show s.nw < 0 from hh) (by omega)⟩
theorem send_gd {s : Sw} {p : Md} {x : Sh} (h : Gd s) : Gd (sendS s p x) :=
 ⟨h.n, h.ap, h.ou, h.st, h.nw, h.wa, h.ca, h.ai, h.tp, h.fr, h.sq, h.tm, h.id, h.ba, by simp only [sendS]; omega, by simp only [sendS]; omega, by simp only [sendS]; omega, by simp only [sendS]; omega, h.off⟩
theorem told_gd {s : Sw} {k : Int} {p : Md} {x : Sh} (h : Gd s) (hk : 0 ≤ k ∧ k ≤ s.l.length - 1) (hp : 0 ≤ p.sq ∧ p.sq ≤ 65535) (hx : x.good = true) : Gd (toldL s k p x).1 := by
 have h1 := take_gd (p := p) h hk hx
 unfold toldL
 cases ha : advB (takeS s k p x) k p
 · exact h1
 · obtain ⟨h2, h2n⟩ := adv_gd h1 hk.1 hp
   have hn := h2n ha
   have h3 := frame_gd h2 hn hx
   have hn3 : 0 ≤ (frameS (advS (takeS s k p x) k p) x).nw := by rw [frame_nw]; exact hn
   cases dropB (frameS (advS (takeS s k p x) k p) x) x
   · exact send_gd h3
   · exact drop_gd h3 hn3
theorem want_gd {s : Sw} {la ai : Int} (h : Gd s) (hl : -1 ≤ la ∧ la ≤ s.l.length - 1) (ha : 0 ≤ ai ∧ ai ≤ 3) : wantS s la ai = (bif decide (la < 0) then offS s ai else { s with wa := la, ai := ai }, 0) ∧ Gd (wantS s la ai).1 := by
 have e : wantS s la ai = (bif decide (la < 0) then offS s ai else { s with wa := la, ai := ai }, 0) := by
  have h1 := gd_iff.2 h
  have h2 : inI (-1) ((s.l.length : Int) - 1) la = true := by simp only [inI, Bool.and_eq_true, decide_eq_true_eq]; exact hl
  have h3 : inI 0 3 ai = true := by simp only [inI, Bool.and_eq_true, decide_eq_true_eq]; exact ha
  simp only [wantS, h1, h2, h3, Bool.and_self, cond_true]
 refine ⟨e, ?_⟩
 rw [e]
 cases hb : decide (la < 0)
 · have := of_decide_eq_false hb
   exact ⟨h.n, h.ap, h.ou, h.st, h.nw, hl, h.ca, ha, h.tp, h.fr, h.sq, h.tm, h.id, h.ba, h.ss, h.sT, h.si, h.sb, h.off⟩
 · have hn := h.n
   exact ⟨h.n, h.ap, h.ou, h.st, ⟨by show (-1 : Int) ≤ -1; omega, by show (-1 : Int) ≤ (s.l.length : Int) - 1; omega⟩, ⟨by show (-1 : Int) ≤ -1; omega, by show (-1 : Int) ≤ (s.l.length : Int) - 1; omega⟩, by show (0 : Int) ≤ 0 ∧ (0 : Int) ≤ 3; omega, ha, by show (0 : Int) ≤ 0 ∧ (0 : Int) ≤ 65535; omega, by show (0 : Int) ≤ 0 ∧ (0 : Int) ≤ 32767; omega, by show (0 : Int) ≤ 0 ∧ (0 : Int) ≤ 65535; omega, by show (0 : Int) ≤ 0 ∧ (0 : Int) ≤ 4294967295; omega, by show (0 : Int) ≤ 0 ∧ (0 : Int) ≤ 32767; omega, by show (0 : Int) ≤ 0 ∧ (0 : Int) ≤ 255; omega, h.ss, h.sT, h.si, h.sb, fun _ => ⟨rfl, rfl, rfl, rfl, rfl, rfl, rfl, rfl⟩⟩
/-! films -/
def vpk (ss : Int) (p : Md) : Prop := mdB p = true ∧ p.ss = ss ∧ p.cs = [] ∧ p.xs = [] ∧ p.fin = true ∧ ∃ (x : Sh) (a b : UInt8), x.good = true ∧ p.pl = x.enc ++ [a, b]
theorem vpk_dec {ss : Int} {p : Md} (h : vpk ss p) : ∃ (x : Sh) (a b : UInt8), x.good = true ∧ dec p.pl = (x, [a, b], 0) := by
 obtain ⟨_, _, _, _, _, x, a, b, hx, hp⟩ := h
 exact ⟨x, a, b, hx, by rw [hp]; exact dec_enc hx _⟩
theorem vpk_ok {ss : Int} {p : Md} (h : vpk ss p) : pkOK p = true := by
 obtain ⟨_, _, _, _, hf, x, a, b, hx, hp⟩ := h
 simp only [pkOK, hf, Bool.true_and, decide_eq_true_eq]
 rw [hp]; simp [Sh.enc]
theorem pkF_v {f : Fl} {ss : Int} {i : Nat} {x : Sh} {n : Nat} {sq : Int} {j : Nat} (hs : 0 ≤ ss ∧ ss ≤ 4294967295) (hx : ∀ st la, (Sh.mk st x.ky x.sy la x.id x.ba x.te x.sp).good = true) : vpk ss (pkF f ss i x n sq j) := by
 refine ⟨?_, rfl, rfl, rfl, ?_, ⟨(j : Int) == 0, x.ky, x.sy, (j : Int) == (n : Int) - 1, x.id, x.ba, x.te, x.sp⟩, _, _, hx _ _, rfl⟩
 · simp only [mdB, mdPre, pkF, inZ, Bool.and_eq_true, decide_eq_true_eq, List.all_nil, allN, List.length_nil]
   simp
   exact ⟨⟨decide_eq_true (by omega), decide_eq_true (by omega)⟩, ⟨decide_eq_true (by omega), decide_eq_true (by omega)⟩, decide_eq_true (by omega), decide_eq_true (by omega)⟩
 · simp only [Md.fin, pkF, Bool.and_eq_true, decide_eq_true_eq, List.all_nil, List.length_nil, and_true]
   simp [Sh.enc]
theorem mapN_mem {α : Type} {g : Nat → α} : ∀ {k : Nat} {a : α}, a ∈ mapN g k → ∃ j, j < k ∧ a = g j
 | 0, a, h => by simp [mapN_z] at h
 | k + 1, a, h => by
  rw [mapN_s, List.mem_append] at h
  rcases h with h | h
  · obtain ⟨j, hj, e⟩ := mapN_mem h; exact ⟨j, by omega, e⟩
  · simp at h; exact ⟨k, by omega, h⟩
theorem fSt_v {f : Fl} (hf : f.ok = true) {ss : Int} (hs : 0 ≤ ss ∧ ss ≤ 4294967295) : ∀ i, ∀ p ∈ (fSt f ss i).q, vpk ss p
 | 0, p, hp => by simp [fSt] at hp
 | i + 1, p, hp => by
  simp only [fSt, fNx, inF, List.mem_append] at hp
  rcases hp with hp | hp
  · exact fSt_v hf hs i p hp
  · obtain ⟨j, _, rfl⟩ := mapN_mem hp
    have hr := fSt_rng hf ss i
    exact pkF_v hs (fun st la => fSh_good hf i hr.1 hr.2.1 (kd_rng hf i).1 st la)
structure PlV (p : Pl) : Prop where
 i : PlI p
 gd : Gd p.s
 l : p.s.l = [10, 20, 30]
 ou : p.s.ou = 5
 q0 : ∀ m ∈ p.q0, vpk 10 m
 q1 : ∀ m ∈ p.q1, vpk 20 m
 q2 : ∀ m ∈ p.q2, vpk 30 m
theorem fresh_gd {d : Dr} (hd : d.ok = true) : Gd (freshS d) ∧ (freshS d).l = [10, 20, 30] ∧ (freshS d).ou = 5 := by
 simp only [Dr.ok, Bool.and_eq_true] at hd
 obtain ⟨-, -, -, h0, h1, h2, h3, h4, -⟩ := hd
 have h0 := inI_t h0
 have h1 := inI_t h1
 have h2 := inI_t h2
 have h3 := inI_t h3
 have h4 := inI_t h4
 have hap : apS [10, 20, 30] = true := by decide
 have hg : goodW ⟨[10, 20, 30], 5, 1 + d.st, -1, -1, 0, 0, 0, 0, false, 0, 0, 0, 0, d.a0, d.a1 * 65537, d.a2 % 32768, d.a3 % 256⟩ = true := by
  rw [gd_iff]
  refine ⟨⟨by simp, by simp⟩, hap, ?_, ?_, ?_, ?_, ?_, ?_, ?_, ?_, ?_, ?_, ?_, ?_, ?_, ?_, ?_, ?_, fun _ => ⟨rfl, rfl, rfl, rfl, rfl, rfl, rfl, rfl⟩⟩ <;> simp only [List.length_cons, List.length_nil] <;> omega
 have e : freshS d = ⟨[10, 20, 30], 5, 1 + d.st, -1, -1, 0, 0, 0, 0, false, 0, 0, 0, 0, d.a0, d.a1 * 65537, d.a2 % 32768, d.a3 % 256⟩ := by
  simp only [freshS, newS, hg, cond_true]
 rw [e]
 exact ⟨gd_iff.1 hg, rfl, rfl⟩
theorem begin_v {d : Dr} (hd : d.ok = true) : PlV (beginS d) := by
 obtain ⟨g1, g2, g3⟩ := fresh_gd hd
 have hi := beginS_i hd
 simp only [Dr.ok, Bool.and_eq_true] at hd
 obtain ⟨o0, o1, o2, -⟩ := hd
 exact ⟨hi, g1, g2, g3, fSt_v o0 (by omega) _, fSt_v o1 (by omega) _, fSt_v o2 (by omega) _⟩
theorem PlV.next {p : Pl} (h : PlV p) (a : Ac) : PlV (nextS p a).1 ∧ (nextS p a).1.s = p.s ∧ ((nextS p a).2.2 = true → ∃ ss, (ss = 10 ∨ ss = 20 ∨ ss = 30) ∧ vpk ss (nextS p a).2.1) := by
 have hi := (h.i.next a).1
 have up : ∀ k, (p.up k).s = p.s ∧ (p.up k).q0 = p.q0 ∧ (p.up k).q1 = p.q1 ∧ (p.up k).q2 = p.q2 := fun k => by
  unfold Pl.up; cases (k == 0) <;> cases (k == 1) <;> exact ⟨rfl, rfl, rfl, rfl⟩
 have hq : ∀ (k : Int) (i : Nat), i < (p.q k).length → ∃ ss, (ss = 10 ∨ ss = 20 ∨ ss = 30) ∧ vpk ss ((p.q k).getD i zMd) := fun k i hl => by
  rw [List.getD_eq_getElem?_getD, List.getElem?_eq_getElem hl]
  have hm := List.getElem_mem hl
  revert hm
  generalize (p.q k)[i] = m
  unfold Pl.q
  intro hm
  cases e0 : (k == 0)
  · rw [e0] at hm
    cases e1 : (k == 1)
    · rw [e1] at hm; exact ⟨30, .inr (.inr rfl), h.q2 _ hm⟩
    · rw [e1] at hm; exact ⟨20, .inr (.inl rfl), h.q1 _ hm⟩
  · rw [e0] at hm; exact ⟨10, .inl rfl, h.q0 _ hm⟩
 have ho := h.i.ok
 have hb : ∀ k, 0 ≤ p.n k ∧ p.n k ≤ ((p.q k).length : Int) := fun k => by
  simp only [Pl.ok, inI, Bool.and_eq_true, decide_eq_true_eq] at ho
  unfold Pl.n Pl.q
  cases (k == 0)
  · cases (k == 1)
    · exact ho.2.2.1
    · exact ho.2.1.1
  · exact ho.1.1
 revert hi
 unfold nextS nextK
 generalize a.wh % 8 % 3 = k
 have hk := hb k
 cases h1 : (a.wh % 8 == 6 && decide (p.n k > 0))
 · cases h2 : (decide (a.wh % 8 < 6) && decide (p.n k < ((p.q k).length : Int)))
   · intro hi; exact ⟨h, rfl, fun e => by cases e⟩
   · intro hi
     simp only [Bool.and_eq_true, decide_eq_true_eq] at h2
     obtain ⟨u1, u2, u3, u4⟩ := up k
     simp only [cond_true, cond_false] at hi ⊢
     exact ⟨⟨hi, by rw [u1]; exact h.gd, by rw [u1]; exact h.l, by rw [u1]; exact h.ou, by rw [u2]; exact h.q0, by rw [u3]; exact h.q1, by rw [u4]; exact h.q2⟩, u1, fun _ => hq k _ (by omega)⟩
 · intro hi
   simp only [Bool.and_eq_true, decide_eq_true_eq] at h1
   have e1 := Int.emod_nonneg a.at_ (b := p.n k) (by omega)
   have e2 := Int.emod_lt_of_pos a.at_ (b := p.n k) (by omega)
   exact ⟨h, rfl, fun _ => hq k _ (by omega)⟩
theorem push_v {s : Sw} {p : Md} {ss : Int} (h : Gd s) (hl : s.l = [10, 20, 30]) (hs : ss = 10 ∨ ss = 20 ∨ ss = 30) (hp : vpk ss p) : ∃ k : Int, (0 ≤ k ∧ k ≤ s.l.length - 1) ∧ k = (ss - 10) / 10 ∧ pushS s p = ((toldL s k p (dec p.pl).1).1, (toldL s k p (dec p.pl).1).2, 0) ∧ (dec p.pl).1.good = true ∧ Gd (toldL s k p (dec p.pl).1).1 := by
 obtain ⟨x, a, b, hx, hd⟩ := vpk_dec hp
 have hm := hp.1
 have hss := hp.2.1
 have hsq : 0 ≤ p.sq ∧ p.sq ≤ 65535 := inI_t (md_cs hm).2.2
 have hg := gd_iff.2 h
 have hix : ixS s.l p.ss = (ss - 10) / 10 := by
  rw [hl, hss]
  rcases hs with rfl | rfl | rfl <;> rfl
 have hk : 0 ≤ (ss - 10) / 10 ∧ (ss - 10) / 10 ≤ (s.l.length : Int) - 1 := by
  rw [hl]; simp only [List.length_cons, List.length_nil]; omega
 refine ⟨(ss - 10) / 10, hk, rfl, ?_, by rw [hd]; exact hx, told_gd h hk hsq (by rw [hd]; exact hx)⟩
 have hneg : decide ((ss - 10) / 10 < 0) = false := decide_eq_false (by omega)
 unfold pushS
 rw [hg, hm, hix, hneg, hd]
 rfl
theorem PlV.sw {p : Pl} (h : PlV p) {s : Sw} (hg : Gd s) (hl : s.l = [10, 20, 30]) (ho : s.ou = 5) : PlV { p with s } := ⟨h.i.sw (by rw [hl]; decide), hg, hl, ho, h.q0, h.q1, h.q2⟩
theorem toldL_ou (s : Sw) (k : Int) (p : Md) (x : Sh) : (toldL s k p x).1.ou = s.ou := by
 have h1 : (takeS s k p x).ou = s.ou := by unfold takeS; cases takeB s k x <;> rfl
 unfold toldL
 cases advB (takeS s k p x) k p
 · exact h1
 · have h2 : ∀ s : Sw, (advS s k p).ou = s.ou := fun s => by unfold advS; cases advB s k p <;> rfl
   have h3 : ∀ s : Sw, (frameS s x).ou = s.ou := fun s => by unfold frameS; cases (x.id == s.fr) <;> rfl
   have h4 : ∀ s : Sw, (dropS s x).ou = s.ou := fun s => by unfold dropS; cases dropB s x <;> rfl
   cases dropB (frameS (advS (takeS s k p x) k p) x) x
   · show (sendS _ p x).ou = _
     simp only [sendS, h3, h2, h1]
   · show (dropS _ x).ou = _
     simp only [h4, h3, h2, h1]
theorem wish_rng {a : Ac} (h : a.ok = true) : (-1 ≤ (wishS a).1 ∧ (wishS a).1 ≤ 2) ∧ 0 ≤ (wishS a).2 ∧ (wishS a).2 ≤ 3 := by
 simp only [Ac.ok, Bool.and_eq_true] at h
 have h1 := inI_t h.2.2.1
 have h2 := inI_t h.2.2.2
 simp only [wishS]; omega
theorem want_v {s : Sw} {la ai : Int} (h : Gd s) (hl : s.l = [10, 20, 30]) (ho : s.ou = 5) (h1 : -1 ≤ la ∧ la ≤ 2) (h2 : 0 ≤ ai ∧ ai ≤ 3) : (wantS s la ai).2 = 0 ∧ Gd (wantS s la ai).1 ∧ (wantS s la ai).1.l = [10, 20, 30] ∧ (wantS s la ai).1.ou = 5 := by
 obtain ⟨e, g⟩ := want_gd (la := la) (ai := ai) h (by rw [hl]; simp only [List.length_cons, List.length_nil]; omega) h2
 refine ⟨by rw [e], g, ?_, ?_⟩
 · rw [e]; cases decide (la < 0) <;> exact hl
 · rw [e]; cases decide (la < 0) <;> exact ho
theorem PlV.step {p : Pl} (h : PlV p) {a : Ac} (ha : a.ok = true) : PlV (stepP p a) := by
 obtain ⟨h1, h2, h3⟩ := h.next a
 unfold stepP
 cases hb : (nextS p a).2.2
 · cases (a.wh % 8 == 7)
   · exact h1
   · obtain ⟨w1, w2⟩ := wish_rng ha
     obtain ⟨_, g1, g2, g3⟩ := want_v h1.gd h1.l h1.ou w1 w2
     exact h1.sw g1 g2 g3
 · obtain ⟨ss, hs, hv⟩ := h3 hb
   obtain ⟨k, hk, _, e, _, g⟩ := push_v h1.gd h1.l hs hv
   simp only [cond_true]
   rw [e]
   exact h1.sw g (by rw [toldL_l]; exact h1.l) (by rw [toldL_ou]; exact h1.ou)
theorem PlV.N {p : Pl} (h : PlV p) {ac : List Ac} (ha : ∀ a ∈ ac, a.ok = true) : ∀ i, PlV (plN p ac i)
 | 0 => h
 | i + 1 => by
  have ih := PlV.N h ha i
  unfold plN
  split
  · rename_i a hx; exact ih.step (ha a (List.mem_of_getElem? hx))
  · exact ih
end Go.Proofs.Lys
end
