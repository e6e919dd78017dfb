/- Texts laid as one: LysP4 LysP5 LysP6. -/
import Derived.Test.YtkpiibllomjeaaaLysPa
import Derived.Test.YtkpiibllomjeaaaLysKb
import Derived.Test.YtkpiibllomjeaaaLysQ3
import Derived.Test.YtkpiibllomjeaaaLysP3
section
/- Chapter 41, plain: the packets of a film follow each other. -/
namespace Go.Proofs.Lys
open Go.Ab
set_option maxRecDepth 100000
set_option linter.unusedSimpArgs false
set_option linter.unusedVariables false
def adjM (m m' : Md) : Prop := ∃ x x' r r', dec m.pl = (x, r, 0) ∧ dec m'.pl = (x', r', 0) ∧ m'.sq = (m.sq + 1) % 65536 ∧
 ((x'.st = false ∧ x'.id = x.id ∧ x'.ba = x.ba) ∨ (x'.st = true ∧ x'.id = (x.id + 1) % 32768 ∧ x'.ba = if x'.te = 0 then (x.ba + 1) % 256 else x.ba))
def Ch (q : List Md) : Prop := ∀ j m m', q[j]? = some m → q[j + 1]? = some m' → adjM m m'
def sp0 (q : List Md) : Prop := ∀ m ∈ q, (dec m.pl).1.sp = 0
theorem Ch.snoc {q : List Md} {m : Md} (h : Ch q) (ha : ∀ l, q[q.length - 1]? = some l → adjM l m) : Ch (q ++ [m]) := fun j a b h1 h2 => by
 rcases Nat.lt_or_ge (j + 1) q.length with hl | hl
 · rw [List.getElem?_append_left (by omega)] at h1 h2
   exact h j a b h1 h2
 · have hj : j + 1 = q.length := by
    rcases Nat.lt_or_ge q.length (j + 1) with hl2 | hl2
    · rw [List.getElem?_eq_none (by simp; omega)] at h2; cases h2
    · omega
   rw [List.getElem?_append_left (by omega)] at h1
   rw [List.getElem?_append_right (by omega), show j + 1 - q.length = 0 by omega] at h2
   simp at h2
   subst h2
   exact ha a (by rw [← hj]; exact h1)
theorem pkF_dec {f : Fl} {ss : Int} {i : Nat} {x : Sh} {n : Nat} {sq : Int} {j : Nat} (hx : ∀ st la, (Sh.mk st x.ky x.sy la x.id x.ba x.te x.sp).good = true) :
 dec (pkF f ss i x n sq j).pl = (⟨(j : Int) == 0, x.ky, x.sy, (j : Int) == (n : Int) - 1, x.id, x.ba, x.te, x.sp⟩, [UInt8.ofNat (i : Int).toNat, UInt8.ofNat (j : Int).toNat], 0) := dec_enc (hx _ _) _
def lastF (f : Fl) (i : Nat) (ba : Int) (q : List Md) : Prop := ∃ m x r, q[q.length - 1]? = some m ∧ dec m.pl = (x, r, 0) ∧ x.id = (f.id + (i : Int)) % 32768 ∧ x.ba = ba ∧ m.sq = (f.sq + ((q.length - 1 : Nat) : Int)) % 65536
theorem fBa_te {k op ba : Int} (h : 0 ≤ op) : fBa k op ba = if fTe k op = 0 then (ba + 1) % 256 else ba := by
 unfold fBa fTe
 cases a : (k % 8 == 7)
 · cases b : decide (k % 8 < 4)
   · cases c : (k % 8 == 4)
     · simp only [cond_false]
       rw [if_neg (by omega)]
     · simp only [cond_false, cond_true]
       cases d : (op == 0)
       · have : op ≠ 0 := by simpa using d
         simp only [cond_false]
         rw [if_neg (by omega)]
       · have : op = 0 := by simpa using d
         simp only [cond_true]
         rw [if_pos (by omega)]
   · simp
 · simp
theorem inF_ch {f : Fl} (hf : f.ok = true) {ss : Int} {i : Nat} {k op ba : Int} (hk : 0 ≤ k) (ho : 0 ≤ op ∧ op ≤ 3) (hb : 0 ≤ ba ∧ ba ≤ 255) {q : List Md} (hq : Ch q) (hl : (i = 0 ∧ q = []) ∨ (0 < i ∧ 0 < q.length ∧ lastF f (i - 1) ba q)) (n : Nat) :
 ∀ j, Ch (inF f ss i (fSh f i k op ba) n q j) ∧ (1 ≤ j → lastF f i (fBa k op ba) (inF f ss i (fSh f i k op ba) n q j))
 | 0 => by
  have : inF f ss i (fSh f i k op ba) n q 0 = q := by simp [inF, mapN_z]
  rw [this]
  exact ⟨hq, fun h => by omega⟩
 | j + 1 => by
  obtain ⟨h1, h2⟩ := inF_ch (ss := ss) hf hk ho hb hq hl n j
  have hg := fun st la => fSh_good hf i ho hb hk st la
  have hd := fun sq j => pkF_dec (f := f) (ss := ss) (i := i) (x := fSh f i k op ba) (n := n) (sq := sq) (j := j) hg
  have hlen := inF_len (f := f) (ss := ss) (i := i) (x := fSh f i k op ba) (n := n) (q := q) (k := j)
  rw [inF_s]
  refine ⟨h1.snoc (fun l hl1 => ?_), fun _ => ?_⟩
  · rcases Nat.eq_zero_or_pos j with h0 | h0
    · subst h0
      have e0 : inF f ss i (fSh f i k op ba) n q 0 = q := by simp [inF, mapN_z]
      rw [e0] at hl1
      rcases hl with ⟨_, rfl⟩ | ⟨hi, hql, m, x, r, e1, e2, e3, e4, e5⟩
      · simp at hl1
      · rw [e1] at hl1
        cases hl1
        refine ⟨x, _, r, _, e2, hd _ 0, ?_, .inr ⟨rfl, ?_, ?_⟩⟩
        · show (f.sq + ((q.length + 0 : Nat) : Int)) % 65536 = _
          rw [e5]; omega
        · show (f.id + (i : Int)) % 32768 = _
          rw [e3]; omega
        · show fBa k op ba = if fTe k op = 0 then (x.ba + 1) % 256 else x.ba
          rw [fBa_te ho.1, e4]
    · obtain ⟨m, x, r, e1, e2, e3, e4, e5⟩ := h2 h0
      rw [e1] at hl1
      cases hl1
      refine ⟨x, _, r, _, e2, hd _ j, ?_, .inl ⟨?_, ?_, ?_⟩⟩
      · show (f.sq + ((q.length + j : Nat) : Int)) % 65536 = _
        rw [e5, hlen]; omega
      · show ((j : Int) == 0) = false
        simp; omega
      · show (f.id + (i : Int)) % 32768 = _
        rw [e3]
      · show fBa k op ba = _
        rw [e4]
  · refine ⟨pkF f ss i (fSh f i k op ba) n (f.sq + ((q.length + j : Nat) : Int)) j, _, _, ?_, hd _ j, rfl, rfl, ?_⟩
    · rw [List.length_append, List.length_singleton, Nat.add_sub_cancel, List.getElem?_append_right (Nat.le_refl _), Nat.sub_self]; rfl
    · show (f.sq + ((q.length + j : Nat) : Int)) % 65536 = _
      rw [List.length_append, List.length_singleton, Nat.add_sub_cancel, hlen]
theorem fSt_ch {f : Fl} (hf : f.ok = true) (ss : Int) : ∀ i, Ch (fSt f ss i).q ∧ ((i = 0 ∧ (fSt f ss i).q = []) ∨ (0 < i ∧ 0 < (fSt f ss i).q.length ∧ lastF f (i - 1) (fSt f ss i).ba (fSt f ss i).q))
 | 0 => ⟨fun j m m' h => by simp [fSt] at h, .inl ⟨rfl, rfl⟩⟩
 | i + 1 => by
  obtain ⟨h1, h2⟩ := fSt_ch hf ss i
  obtain ⟨r1, r2, _⟩ := fSt_rng hf ss i
  have hk := kd_rng hf i
  have hn := fN_rng hk.1
  have h3 := inF_ch (ss := ss) (i := i) hf hk.1 r1 r2 h1 h2 (fN (kd f i)) (fN (kd f i))
  refine ⟨h3.1, .inr ⟨by omega, ?_, h3.2 hn.1⟩⟩
  simp only [fSt, fNx, inF_len]
  omega
theorem fSt_sp0 {f : Fl} (hf : f.ok = true) (ss : Int) : ∀ i, sp0 (fSt f ss i).q
 | 0 => fun m hm => by simp [fSt] at hm
 | i + 1 => fun m hm => by
  simp only [fSt, fNx, inF, List.mem_append] at hm
  rcases hm with hm | hm
  · exact fSt_sp0 hf ss i m hm
  · obtain ⟨j, _, rfl⟩ := mapN_mem hm
    obtain ⟨r1, r2, _⟩ := fSt_rng hf ss i
    rw [pkF_dec (fun st la => fSh_good hf i r1 r2 (kd_rng hf i).1 st la)]
    rfl
end Go.Proofs.Lys
end
section
/- Chapter 41, plain: what is sent looks like one stream. -/
namespace Go.Proofs.Lys
open Go.Ab
set_option maxRecDepth 100000
set_option maxHeartbeats 1000000
set_option linter.unusedSimpArgs false
set_option linter.unusedVariables false
def Cur (p : Pl) (L : Ly) : Prop := ∃ m x r, 1 ≤ p.n p.s.nw ∧ (p.q p.s.nw)[(p.n p.s.nw - 1).toNat]? = some m ∧ dec m.pl = (x, r, 0) ∧ m.sq = p.s.tp ∧ x.id = p.s.fr ∧
 (x.ba + p.s.ba) % 256 = p.s.sb ∧ (p.s.fr + p.s.id) % 32768 = p.s.si ∧ (p.s.tp + p.s.sq) % 65536 = p.s.ss ∧ L.lv = true ∧ L.id = p.s.si ∧ L.ba = p.s.sb ∧ p.s.ca ≤ L.op
structure CI (p : Pl) (d : Dc) : Prop where
 v : PlV p
 ch : Ch p.q0 ∧ Ch p.q1 ∧ Ch p.q2
 s0 : sp0 p.q0 ∧ sp0 p.q1 ∧ sp0 p.q2
 y : d.y = zLy ∧ d.z = zLy
 f : d.x.fit = true
 c : 0 ≤ p.s.nw → Cur p d.x
theorem CI.good {p : Pl} {d : Dc} (h : CI p d) : d.good = true := by
 have hz : zLy.fit = true := by decide
 simp only [Dc.good, h.y.1, h.y.2, h.f, hz]; rfl
theorem begin_ci {d : Dr} (hd : d.ok = true) : CI (beginS d) zDc := by
 have hv := begin_v hd
 have hn : (beginS d).s.nw = -1 := by
  have h1 := hd
  simp only [Dr.ok, Bool.and_eq_true] at h1
  have hf := fresh_gd hd
  show (freshS d).nw = -1
  unfold freshS newS
  cases hg : goodW ⟨[10, 20, 30], 5, 1 + d.st, -1, -1, 0, 0, 0, 0, false, 0, 0, 0, 0, d.a0, d.a1 * 65537, d.a2 % 32768, d.a3 % 256⟩
  · have : (freshS d).l = [] := by unfold freshS newS; rw [hg]; rfl
    rw [hf.2.1] at this; cases this
  · rfl
 simp only [Dr.ok, Bool.and_eq_true] at hd
 obtain ⟨o0, o1, o2, -⟩ := hd
 exact ⟨hv, ⟨(fSt_ch o0 _ _).1, (fSt_ch o1 _ _).1, (fSt_ch o2 _ _).1⟩, ⟨fSt_sp0 o0 _ _, fSt_sp0 o1 _ _, fSt_sp0 o2 _ _⟩, ⟨rfl, rfl⟩, by decide, fun h => by rw [hn] at h; omega⟩
theorem CI.want {p : Pl} {d : Dc} (h : CI p d) {la ai : Int} (h1 : -1 ≤ la ∧ la ≤ 2) (h2 : 0 ≤ ai ∧ ai ≤ 3) :
 (wantS p.s la ai).2 = 0 ∧ CI { p with s := (wantS p.s la ai).1 } d ∧ (wantS p.s la ai).1.ss = p.s.ss ∧ (wantS p.s la ai).1.sT = p.s.sT ∧ (wantS p.s la ai).1.si = p.s.si ∧ (wantS p.s la ai).1.sb = p.s.sb := by
 obtain ⟨e0, g1, g2, g3⟩ := want_v h.v.gd h.v.l h.v.ou h1 h2
 have e := (want_gd (la := la) (ai := ai) h.v.gd (by rw [h.v.l]; simp only [List.length_cons, List.length_nil]; omega) h2).1
 refine ⟨e0, ⟨h.v.sw g1 g2 g3, h.ch, h.s0, h.y, h.f, ?_⟩, ?_⟩
 · rw [e]
   cases hb : decide (la < 0)
   · intro hn
     exact h.c hn
   · intro hn
     exact absurd (show (0 : Int) ≤ -1 from hn) (by omega)
 · rw [e]
   cases decide (la < 0) <;> exact ⟨rfl, rfl, rfl, rfl⟩
theorem lead_1 {a b : Int} (h : a = (b + 1) % 65536) (hb : 0 ≤ b ∧ b ≤ 65535) : decide (lead a b > 0) = true := by
 have : (a - b) % 65536 = 1 := by omega
 simp only [lead, this]; decide
theorem lead15_1 {a b : Int} (h : a = (b + 1) % 32768) (hb : 0 ≤ b ∧ b ≤ 32767) : decide (lead15 a b > 0) = true := by
 have : (a - b) % 32768 = 1 := by omega
 simp only [lead15, this]; decide
theorem send_facts {S : Sw} {ss : Int} {m : Md} {y : Sh} {r : List UInt8} (hm : vpk ss m) (hd : dec m.pl = (y, r, 0)) (ho : S.ou = 5) :
 dec (sendP S m y).pl = ({ y with id := (sendS S m y).si, ba := (sendS S m y).sb }, r, 0) ∧ (sendP S m y).pl ≠ [] ∧ (sendP S m y).ss = 5 ∧ (sendP S m y).ty = m.ty ∧ (sendP S m y).ma = m.ma ∧ (sendP S m y).sq = (sendS S m y).ss ∧ (sendP S m y).tm = (sendS S m y).sT ∧ ({ y with id := (sendS S m y).si, ba := (sendS S m y).sb } : Sh).good = true := by
 obtain ⟨_, _, _, _, _, x, a, b, hx, hp⟩ := hm
 have h2 := dec_enc hx [a, b]
 rw [← hp, hd] at h2
 simp only [Prod.mk.injEq] at h2
 obtain ⟨rfl, rfl, _⟩ := h2
 have hr : inR ((y.id + S.id) % 32768) ((y.ba + S.ba) % 256) = true := by simp only [inR, Bool.and_eq_true, decide_eq_true_eq]; omega
 have hpl : (sendP S m y).pl = ({ y with id := (y.id + S.id) % 32768, ba := (y.ba + S.ba) % 256 } : Sh).enc ++ [a, b] := by
  show (putS m.pl _ _).1 = _
  rw [hp, put_enc hx [a, b] hr]
 have hg := put_good hx hr
 refine ⟨?_, ?_, ho, rfl, rfl, rfl, rfl, hg⟩
 · rw [hpl]; exact dec_enc hg _
 · rw [hpl]; simp [Sh.enc]
def SentOK (p1 : Pl) (d : Dc) (m : Md) (s' : Sw) : Prop := ∃ o y r, pdS p1.s m = (s', o, true) ∧ dec m.pl = (y, r, 0) ∧ dec o.pl = ({ y with id := s'.si, ba := s'.sb }, r, 0) ∧ o.pl ≠ [] ∧ o.ss = 5 ∧ o.ty = m.ty ∧ o.ma = m.ma ∧ o.sq = (p1.s.ss + 1) % 65536 ∧ o.sq = s'.ss ∧ o.tm = s'.sT ∧
 ((y.st = true ∧ s'.si = (p1.s.si + 1) % 32768 ∧ s'.sb = (if y.te = 0 then (p1.s.sb + 1) % 256 else p1.s.sb) ∧ ∃ d', toldD d { y with id := s'.si, ba := s'.sb } = (d', true, 0) ∧ CI { p1 with s := s' } d') ∨
  (y.st = false ∧ s'.si = p1.s.si ∧ s'.sb = p1.s.sb ∧ CI { p1 with s := s' } d))
def KeptOK (p1 : Pl) (d : Dc) (m : Md) (s' : Sw) : Prop := pdS p1.s m = (s', zMd, true) ∧ s'.ss = p1.s.ss ∧ s'.sT = p1.s.sT ∧ s'.si = p1.s.si ∧ s'.sb = p1.s.sb ∧ CI { p1 with s := s' } d
theorem show_key {d : Dc} {x : Sh} (hg : d.good = true) (hx : x.good = true) (hs : x.sp = 0) (hk : x.ky = true) : toldD d x = (⟨⟨true, x.id, x.ba, 0⟩, zLy, zLy⟩, true, 0) := by
 have hf : fitsS d x = true := by simp [fitsS, hs]
 simp only [toldD, hg, hx, showS, hk, hf, hs]; rfl
theorem show_low {d : Dc} {x : Sh} (hg : d.good = true) (hx : x.good = true) (hs : x.sp = 0) (hk : x.ky = false) (ht : x.te = 0) (hl : d.x.lv = true) (h1 : decide (lead15 x.id d.x.id > 0) = true) (h2 : x.ba = (d.x.ba + 1) % 256) : toldD d x = ({ d with x := { d.x with id := x.id, ba := x.ba } }, true, 0) := by
 have hf : fitsS d x = true := by simp [fitsS, hs]
 have hq : d.get x.sp = d.x := by rw [hs]; rfl
 have h3 : (x.ba == (d.x.ba + 1) % 256) = true := by rw [h2]; simp
 have hc : (fitsS d x && (d.x.lv && decide (lead15 x.id d.x.id > 0)) && x.ba == (d.x.ba + 1) % 256) = true := by rw [hf, hl, h1, h3]; rfl
 simp only [toldD, hg, hx, showS, hk, hq, ht, hc]
 simp [Dc.set, hs]
theorem show_high {d : Dc} {x : Sh} (hg : d.good = true) (hx : x.good = true) (hs : x.sp = 0) (hk : x.ky = false) (ht : x.te ≠ 0) (hl : d.x.lv = true) (h1 : decide (lead15 x.id d.x.id > 0) = true) (h2 : x.ba = d.x.ba) (h3 : (decide (x.te ≤ d.x.op) || (x.sy && x.te == d.x.op + 1)) = true) : toldD d x = ({ d with x := { d.x with id := x.id, op := max d.x.op x.te } }, true, 0) := by
 have hf : fitsS d x = true := by simp [fitsS, hs]
 have hq : d.get x.sp = d.x := by rw [hs]; rfl
 have h4 : (x.ba == d.x.ba) = true := by rw [h2]; simp
 have h5 : (x.te == 0) = false := by simpa using ht
 have hc : (fitsS d x && (d.x.lv && decide (lead15 x.id d.x.id > 0)) && x.ba == d.x.ba && (decide (x.te ≤ d.x.op) || (x.sy && x.te == d.x.op + 1))) = true := by rw [hf, hl, h1, h4, h3]; rfl
 simp only [toldD, hg, hx, showS, hk, hq, h5, hc]
 simp [Dc.set, hs]
end Go.Proofs.Lys
end
section
/- Chapter 41, plain: a packet that is told to a switch of a continuous play. -/
namespace Go.Proofs.Lys
open Go.Ab
set_option maxRecDepth 100000
set_option maxHeartbeats 2000000
set_option linter.unusedSimpArgs false
set_option linter.unusedVariables false
theorem pdS_0 {s : Sw} {m : Md} {S : Sw} (h : pushS s m = (S, [], 0)) : pdS s m = (S, zMd, true) := by
 simp only [pdS, h]; rfl
theorem pdS_1 {s : Sw} {m : Md} {S : Sw} {o : Md} (h : pushS s m = (S, [o], 0)) : pdS s m = (S, o, true) := by
 simp only [pdS, h]; rfl
theorem next_up {p : Pl} {a : Ac} (hw : a.wh % 8 < 6) : (nextS p a = (p, zMd, false)) ∨ ∃ k, (k = 0 ∨ k = 1 ∨ k = 2) ∧ p.n k < ((p.q k).length : Int) ∧ nextS p a = (p.up k, (p.q k).getD (p.n k).toNat zMd, true) := by
 unfold nextS nextK
 have h6 : (a.wh % 8 == 6) = false := by simp; omega
 rw [h6]
 cases h2 : (decide (a.wh % 8 < 6) && decide (p.n (a.wh % 8 % 3) < ((p.q (a.wh % 8 % 3)).length : Int)))
 · exact .inl rfl
 · simp only [Bool.and_eq_true, decide_eq_true_eq] at h2
   exact .inr ⟨a.wh % 8 % 3, by omega, h2.2, rfl⟩
theorem up_q (p : Pl) (k j : Int) : (p.up k).q j = p.q j := by
 have : (p.up k).q0 = p.q0 ∧ (p.up k).q1 = p.q1 ∧ (p.up k).q2 = p.q2 := by unfold Pl.up; cases (k == 0) <;> cases (k == 1) <;> exact ⟨rfl, rfl, rfl⟩
 unfold Pl.q
 rw [this.1, this.2.1, this.2.2]
theorem up_n {p : Pl} {k j : Int} (hk : k = 0 ∨ k = 1 ∨ k = 2) (hj : j = 0 ∨ j = 1 ∨ j = 2) : (p.up k).n j = if j = k then p.n j + 1 else p.n j := by
 rcases hk with rfl | rfl | rfl <;> rcases hj with rfl | rfl | rfl <;> rfl
theorem up_s (p : Pl) (k : Int) : (p.up k).s = p.s := by unfold Pl.up; cases (k == 0) <;> cases (k == 1) <;> rfl
theorem CI.q {p : Pl} {d : Dc} (h : CI p d) {k : Int} (hk : k = 0 ∨ k = 1 ∨ k = 2) : Ch (p.q k) ∧ sp0 (p.q k) ∧ ∀ m ∈ p.q k, vpk (10 * k + 10) m := by
 rcases hk with rfl | rfl | rfl
 · exact ⟨h.ch.1, h.s0.1, h.v.q0⟩
 · exact ⟨h.ch.2.1, h.s0.2.1, h.v.q1⟩
 · exact ⟨h.ch.2.2, h.s0.2.2, h.v.q2⟩
theorem pl_n {p : Pl} (h : p.ok = true) (k : Int) : 0 ≤ p.n k ∧ p.n k ≤ ((p.q k).length : Int) := by
 simp only [Pl.ok, inI, Bool.and_eq_true, decide_eq_true_eq] at h
 unfold Pl.n Pl.q
 cases (k == 0)
 · cases (k == 1)
   · exact h.2.2.1
   · exact h.2.1.1
 · exact h.1.1
section
variable {p : Pl} {d : Dc} {k : Int} {m : Md} {y : Sh} {r : List UInt8}
theorem cap_low {s : Sw} {x : Sh} {op : Int} (h1 : 0 ≤ s.ca ∧ s.ca ≤ 3) (h2 : 0 ≤ s.ai ∧ s.ai ≤ 3) (hop : s.ca ≤ op) (h0 : 0 ≤ op) (hte : 0 ≤ x.te) (hk : x.ky = false) :
 (x.te ≤ capT s x → (x.te ≤ op ∨ (x.sy = true ∧ x.te = op + 1)) ∧ capT s x ≤ max op x.te) ∧ (¬ x.te ≤ capT s x → capT s x ≤ op) ∧ 0 ≤ capT s x := by
 obtain ⟨e, e1, e2⟩ := capS_rng (s := s) (x := x) (by simp only [inI, Bool.and_eq_true, decide_eq_true_eq]; exact h1) (by simp only [inI, Bool.and_eq_true, decide_eq_true_eq]; exact h2)
 have hcs : capS s x ≤ s.ca := by unfold capS; rw [hk]; simp only [cond_false]; omega
 unfold capT
 rw [e]
 cases hb : (x.sy && (x.te == capS s x + 1 && decide (x.te ≤ s.ai)))
 · simp only [cond_false]
   exact ⟨fun h => ⟨.inl (by omega), by omega⟩, fun h => by omega, e1⟩
 · simp only [Bool.and_eq_true, beq_iff_eq] at hb
   simp only [cond_true]
   refine ⟨fun h => ⟨?_, by omega⟩, fun h => by omega, by omega⟩
   rcases Int.lt_or_le op x.te with hlt | hle
   · exact .inr ⟨hb.1, by omega⟩
   · exact .inl hle
theorem cont_cur (h : CI p d) (hk : k = 0 ∨ k = 1 ∨ k = 2) (hn : p.s.nw = k) (hlt : p.n k < ((p.q k).length : Int)) (hm : (p.q k)[(p.n k).toNat]? = some m) :
 ∃ s', KeptOK (p.up k) d m s' ∨ SentOK (p.up k) d m s' := by
 obtain ⟨hch, hsp, hvp⟩ := h.q hk
 have hmem := List.mem_of_getElem? hm
 have hv := hvp m hmem
 have hsp0 := hsp m hmem
 obtain ⟨m0, x0, r0, c1, c2, c3, c4, c5, c6, c7, c8, c9, c10, c11, c12⟩ := h.c (by rw [hn]; omega)
 rw [hn] at c1 c2
 have hadj := hch ((p.n k - 1).toNat) m0 m c2 (by rw [show (p.n k - 1).toNat + 1 = (p.n k).toNat by omega]; exact hm)
 obtain ⟨x0', y, r0', r, a1, a2, a3, a4⟩ := hadj
 rw [c3] at a1
 simp only [Prod.mk.injEq] at a1
 obtain ⟨rfl, rfl, _⟩ := a1
 rw [a2] at hsp0
 obtain ⟨k', hk', ek', epush, hyg, hgd'⟩ := push_v (ss := 10 * k + 10) h.v.gd h.v.l (by omega) hv
 obtain rfl : k' = k := by omega
 rw [a2] at epush hyg hgd'
 dsimp only at epush hyg hgd' hsp0
 have hyr := (Sh.good_iff y).1 hyg
 have hs := h.v.gd
 -- no switch
 have htk : takeS p.s k' m y = p.s := by
  have : takeB p.s k' y = false := by
   have e2 : (k' == p.s.nw) = true := by rw [hn]; simp
   simp only [takeB, e2, Bool.not_true, Bool.false_and, Bool.and_false]
  simp only [takeS, this, cond_false]
 have had : advB p.s k' m = true := by
  have e2 : (k' == p.s.nw) = true := by rw [hn]; simp
  rw [c4] at a3
  simp only [advB, e2, lead_1 a3 hs.tp, Bool.and_self]
 have hadS : advS p.s k' m = { p.s with tp := m.sq } := by unfold advS; rw [had]; rfl
 have hmsq : m.sq = (p.s.tp + 1) % 65536 := by rw [a3, c4]
 have htold : toldL p.s k' m y = bif dropB (frameS { p.s with tp := m.sq } y) y then (dropS (frameS { p.s with tp := m.sq } y) y, []) else (sendS (frameS { p.s with tp := m.sq } y) m y, [sendP (frameS { p.s with tp := m.sq } y) m y]) := by
  rw [told_N, htk]; unfold toldN; rw [had, hadS]; rfl
 have hnk := pl_n h.v.i.ok k'
 have hi := h.v.i.up k' hlt
 have hup := up_s p k'
 have hn1 : ∀ S : Sw, S.nw = k' → Pl.n { p.up k' with s := S } k' = p.n k' + 1 := fun S _ => by
  show (p.up k').n k' = _
  rw [up_n hk hk, if_pos rfl]
 have hq1 : ∀ S : Sw, Pl.q { p.up k' with s := S } k' = p.q k' := fun S => up_q p k' k'
 have hpv : ∀ S : Sw, Gd S → S.l = [10, 20, 30] → S.ou = 5 → PlV { p.up k' with s := S } := fun S g1 g2 g3 => by
  have hq := fun j => up_q p k' j
  exact ⟨hi.sw (by rw [g2]; decide), g1, g2, g3, by have := hq 0; rw [show (p.up k').q0 = p.q0 from this]; exact h.v.q0, by have := hq 1; rw [show (p.up k').q1 = p.q1 from this]; exact h.v.q1, by have := hq 2; rw [show (p.up k').q2 = p.q2 from this]; exact h.v.q2⟩
 have hchs : (Ch (p.up k').q0 ∧ Ch (p.up k').q1 ∧ Ch (p.up k').q2) ∧ sp0 (p.up k').q0 ∧ sp0 (p.up k').q1 ∧ sp0 (p.up k').q2 := by
  have hq := fun j => up_q p k' j
  rw [show (p.up k').q0 = p.q0 from hq 0, show (p.up k').q1 = p.q1 from hq 1, show (p.up k').q2 = p.q2 from hq 2]
  exact ⟨h.ch, h.s0⟩
 have hl := toldL_l p.s k' m y
 have hou := toldL_ou p.s k' m y
 -- what must be shown of the new state
 have mk : ∀ (S : Sw) (d' : Dc), S = (toldL p.s k' m y).1 → S.nw = k' → d'.y = zLy ∧ d'.z = zLy → d'.x.fit = true → S.tp = m.sq → y.id = S.fr → (y.ba + S.ba) % 256 = S.sb → (S.fr + S.id) % 32768 = S.si → (S.tp + S.sq) % 65536 = S.ss → d'.x.lv = true → d'.x.id = S.si → d'.x.ba = S.sb → S.ca ≤ d'.x.op → CI { p.up k' with s := S } d' :=
  fun S d' e1 e2 e3 e4 e5 e6 e7 e8 e9 e10 e11 e12 e13 => ⟨hpv S (by rw [e1]; exact hgd') (by rw [e1, hl]; exact h.v.l) (by rw [e1, hou]; exact h.v.ou), hchs.1, hchs.2, e3, e4, fun _ => by
   refine ⟨m, y, r, ?_, ?_, a2, e5.symm, e6, e7, e8, e9, e10, e11, e12, e13⟩
   · show 1 ≤ Pl.n { p.up k' with s := S } S.nw
     rw [e2, hn1 S e2]; omega
   · show (Pl.q { p.up k' with s := S } S.nw)[(Pl.n { p.up k' with s := S } S.nw - 1).toNat]? = _
     rw [e2, hn1 S e2, hq1 S, show p.n k' + 1 - 1 = p.n k' by omega]; exact hm⟩
 have hfit := h.f
 have hfr := fit_id hfit
 rcases a4 with ⟨b1, b2, b3⟩ | ⟨b1, b2, b3⟩
 · -- the same picture
   have hf : frameS { p.s with tp := m.sq } y = { p.s with tp := m.sq } := by
    have : (y.id == p.s.fr) = true := by rw [b2, c5]; simp
    unfold frameS
    show (bif y.id == p.s.fr then _ else _) = _
    rw [this]; rfl
   rw [hf] at htold
   cases hkp : p.s.kp
   · have hdr : dropB { p.s with tp := m.sq } y = true := by simp only [dropB, hkp]; rfl
     rw [hdr] at htold
     have hdS : dropS { p.s with tp := m.sq } y = { p.s with tp := m.sq, sq := (p.s.sq - 1) % 65536 } := by unfold dropS; rw [hdr]; rfl
     rw [hdS] at htold
     refine ⟨{ p.s with tp := m.sq, sq := (p.s.sq - 1) % 65536 }, .inl ⟨?_, ?_, ?_, ?_, ?_, ?_⟩⟩
     · rw [hup]; exact pdS_0 (epush.trans (by rw [htold]; rfl))
     rotate_right
     · refine mk _ d (by rw [htold]; rfl) hn h.y hfit rfl (by show y.id = p.s.fr; rw [b2, c5]) ?_ c7 ?_ c9 c10 c11 c12
       · show (y.ba + p.s.ba) % 256 = p.s.sb
         rw [b3]; exact c6
       · show (m.sq + (p.s.sq - 1) % 65536) % 65536 = p.s.ss
         rw [hmsq]; omega
     all_goals rw [hup]
   · have hdr : dropB { p.s with tp := m.sq } y = false := by simp only [dropB, hkp, hsp0]; rfl
     rw [hdr] at htold
     obtain ⟨f1, f2, f3, f4, f5, f6, f7, f8⟩ := send_facts (S := { p.s with tp := m.sq }) hv a2 h.v.ou
     have e1 : (sendS { p.s with tp := m.sq } m y).ss = (p.s.ss + 1) % 65536 := by
      show (m.sq + p.s.sq) % 65536 = _; rw [hmsq]; omega
     have e2 : (sendS { p.s with tp := m.sq } m y).si = p.s.si := by
      show (y.id + p.s.id) % 32768 = _; rw [b2, c5]; exact c7
     have e3 : (sendS { p.s with tp := m.sq } m y).sb = p.s.sb := by
      show (y.ba + p.s.ba) % 256 = _; rw [b3]; exact c6
     refine ⟨_, .inr ⟨_, y, r, ?_, a2, f1, f2, f3, f4, f5, ?_, f6, f7, .inr ⟨b1, ?_, ?_, ?_⟩⟩⟩
     · rw [hup]; exact pdS_1 (epush.trans (by rw [htold]; rfl))
     · rw [f6, e1, hup]
     · rw [e2, hup]
     · rw [e3, hup]
     · refine mk _ d (by rw [htold]; rfl) hn h.y hfit rfl (by show y.id = p.s.fr; rw [b2, c5]) rfl ?_ rfl c9 ?_ ?_ c12
       · show (p.s.fr + p.s.id) % 32768 = (y.id + p.s.id) % 32768
         rw [b2, c5]
       · rw [e2]; exact c10
       · rw [e3]; exact c11
 · -- the next picture
   have hne : (y.id == p.s.fr) = false := by
    rw [b2, c5]; have := hs.fr; simp; omega
   have hf : frameS { p.s with tp := m.sq } y = ⟨p.s.l, p.s.ou, p.s.st, p.s.nw, p.s.wa, capT p.s y, p.s.ai, m.sq, y.id, decide (y.te ≤ capT p.s y), p.s.sq, p.s.tm, bif decide (y.te ≤ capT p.s y) then p.s.id else (p.s.id + -1) % 32768, p.s.ba, p.s.ss, p.s.sT, p.s.si, p.s.sb⟩ := by
    unfold frameS
    show (bif y.id == p.s.fr then _ else _) = _
    rw [hne]; rfl
   rw [hf] at htold
   have hte0 : 0 ≤ y.te := hyr.2.2.2.2.1
   have hct := capT_rng (x := y) hs.ca hs.ai hyr.2.2.2.2.2.1
   have hid' : y.id = (p.s.fr + 1) % 32768 := by rw [b2, c5]
   cases hb : decide (y.te ≤ capT p.s y)
   · -- left out
     have hte : y.te ≠ 0 := fun e => by have := of_decide_eq_false hb; omega
     rw [hb] at htold
     have hky : y.ky = false := by
      cases hq : y.ky
      · rfl
      · exact absurd (hyr.2.2.2.2.2.2.2.2.1 hq) hte
     have hcl := (cap_low hs.ca hs.ai c12 hfr.2.2.1 hte0 hky).2.1 (of_decide_eq_false hb)
     generalize hSS : (⟨p.s.l, p.s.ou, p.s.st, p.s.nw, p.s.wa, capT p.s y, p.s.ai, m.sq, y.id, false, p.s.sq, p.s.tm, bif false then p.s.id else (p.s.id + -1) % 32768, p.s.ba, p.s.ss, p.s.sT, p.s.si, p.s.sb⟩ : Sw) = SS at htold
     have hdr : dropB SS y = true := by rw [← hSS]; rfl
     have hdS : dropS SS y = { SS with sq := (SS.sq - 1) % 65536 } := by unfold dropS; rw [hdr]; rfl
     rw [hdr, hdS] at htold
     refine ⟨{ SS with sq := (SS.sq - 1) % 65536 }, .inl ⟨?_, ?_, ?_, ?_, ?_, ?_⟩⟩
     · rw [hup]; exact pdS_0 (epush.trans (by rw [htold]; rfl))
     rotate_right
     · subst hSS
       refine mk _ d (by rw [htold]; rfl) hn h.y hfit rfl rfl ?_ ?_ ?_ c9 c10 c11 hcl
       · show (y.ba + p.s.ba) % 256 = p.s.sb
         rw [b3, if_neg hte]; exact c6
       · show (y.id + (p.s.id + -1) % 32768) % 32768 = p.s.si
         rw [hid']; omega
       · show (m.sq + (p.s.sq - 1) % 65536) % 65536 = p.s.ss
         rw [hmsq]; omega
     all_goals (rw [hup, ← hSS])
   · -- sent
     have hle := of_decide_eq_true hb
     rw [hb] at htold
     generalize hSS : (⟨p.s.l, p.s.ou, p.s.st, p.s.nw, p.s.wa, capT p.s y, p.s.ai, m.sq, y.id, true, p.s.sq, p.s.tm, bif true then p.s.id else (p.s.id + -1) % 32768, p.s.ba, p.s.ss, p.s.sT, p.s.si, p.s.sb⟩ : Sw) = SS at htold
     have hdr : dropB SS y = false := by rw [← hSS]; simp only [dropB, hsp0]; rfl
     rw [hdr] at htold
     have hso : SS.ou = 5 := by rw [← hSS]; exact h.v.ou
     obtain ⟨f1, f2, f3, f4, f5, f6, f7, f8⟩ := send_facts (S := SS) hv a2 hso
     have e1 : (sendS SS m y).ss = (p.s.ss + 1) % 65536 := by
      rw [← hSS]; show (m.sq + p.s.sq) % 65536 = _; rw [hmsq]; omega
     have e2 : (sendS SS m y).si = (p.s.si + 1) % 32768 := by
      rw [← hSS]; show (y.id + p.s.id) % 32768 = _; rw [hid']; omega
     have e3 : (sendS SS m y).sb = if y.te = 0 then (p.s.sb + 1) % 256 else p.s.sb := by
      rw [← hSS]; show (y.ba + p.s.ba) % 256 = _; rw [b3]
      split <;> omega
     -- the decoder
     have hsi := hs.si
     have hl15 : decide (lead15 (sendS SS m y).si d.x.id > 0) = true := lead15_1 (by rw [e2, c10]) (by rw [c10]; exact hs.si)
     have hdg := h.good
     have hshow : ∃ d' : Dc, toldD d { y with id := (sendS SS m y).si, ba := (sendS SS m y).sb } = (d', true, 0) ∧ (d'.y = zLy ∧ d'.z = zLy) ∧ d'.x.fit = true ∧ d'.x.lv = true ∧ d'.x.id = (sendS SS m y).si ∧ d'.x.ba = (sendS SS m y).sb ∧ capT p.s y ≤ d'.x.op := by
      have hr8 := (Sh.good_iff _).1 f8
      dsimp only at hr8
      have fitI : ∀ op : Int, 0 ≤ op → op ≤ 3 → Ly.fit ⟨true, (sendS SS m y).si, (sendS SS m y).sb, op⟩ = true := fun op h1 h2 => by
       simp only [Ly.fit, Bool.and_eq_true, decide_eq_true_eq, Bool.true_or, and_true]
       exact ⟨⟨⟨hr8.1, hr8.2.1⟩, hr8.2.2.1, hr8.2.2.2.1⟩, h1, h2⟩
      rcases Bool.eq_false_or_eq_true y.ky with hky | hky
      rotate_left
      · obtain ⟨g1, g2⟩ := (cap_low hs.ca hs.ai c12 hfr.2.2.1 hte0 hky).1 hle
        by_cases hte : y.te = 0
        · refine ⟨{ d with x := { d.x with id := (sendS SS m y).si, ba := (sendS SS m y).sb } }, show_low (x := { y with id := (sendS SS m y).si, ba := (sendS SS m y).sb }) hdg f8 hsp0 hky hte c9 hl15 (by show (sendS SS m y).sb = _; rw [e3, if_pos hte, c11]), h.y, ?_, c9, rfl, rfl, ?_⟩
          · have := fitI d.x.op hfr.2.2.1 hfr.2.2.2
            rw [show (⟨true, (sendS SS m y).si, (sendS SS m y).sb, d.x.op⟩ : Ly) = { d.x with id := (sendS SS m y).si, ba := (sendS SS m y).sb } by rw [← c9]] at this
            exact this
          · show capT p.s y ≤ d.x.op
            have := hfr.2.2.1; omega
        · refine ⟨{ d with x := { d.x with id := (sendS SS m y).si, op := max d.x.op y.te } }, show_high (x := { y with id := (sendS SS m y).si, ba := (sendS SS m y).sb }) hdg f8 hsp0 hky hte c9 hl15 (by show (sendS SS m y).sb = _; rw [e3, if_neg hte, c11]) (by
           show (decide (y.te ≤ d.x.op) || (y.sy && y.te == d.x.op + 1)) = true
           rcases g1 with g | ⟨g, g'⟩
           · rw [decide_eq_true g]; rfl
           · rw [g, g']; simp), h.y, ?_, c9, rfl, ?_, g2⟩
          · have := fitI (max d.x.op y.te) (by omega) (by have := hyr.2.2.2.2.2.1; have := hfr.2.2.2; omega)
            have hba : d.x.ba = (sendS SS m y).sb := by rw [e3, if_neg hte, c11]
            rw [show (⟨true, (sendS SS m y).si, (sendS SS m y).sb, max d.x.op y.te⟩ : Ly) = { d.x with id := (sendS SS m y).si, op := max d.x.op y.te } by rw [← c9, ← hba]] at this
            exact this
          · show d.x.ba = _
            rw [e3, if_neg hte, c11]
      · have hte := hyr.2.2.2.2.2.2.2.2.1 hky
        have hc0 : capT p.s y = 0 := by
         have hsy : y.sy = false := by
          cases hq : y.sy
          · rfl
          · exact absurd hte (hyr.2.2.2.2.2.2.2.2.2 hq)
         unfold capT capS; rw [hsy, hky]; rfl
        refine ⟨⟨⟨true, (sendS SS m y).si, (sendS SS m y).sb, 0⟩, zLy, zLy⟩, show_key (x := { y with id := (sendS SS m y).si, ba := (sendS SS m y).sb }) hdg f8 hsp0 hky, ⟨rfl, rfl⟩, fitI 0 (by omega) (by omega), rfl, rfl, rfl, ?_⟩
        show capT p.s y ≤ 0
        omega
     obtain ⟨d', s1, s2, s3, s4, s5, s6, s7⟩ := hshow
     refine ⟨_, .inr ⟨_, y, r, ?_, a2, f1, f2, f3, f4, f5, ?_, f6, f7, .inl ⟨b1, ?_, ?_, d', s1, ?_⟩⟩⟩
     · rw [hup]; exact pdS_1 (epush.trans (by rw [htold]; rfl))
     · rw [f6, e1, hup]
     · rw [e2, hup]
     · rw [e3, hup]
     · refine mk _ d' (by rw [htold]; rfl) ?_ s2 s3 ?_ ?_ ?_ ?_ ?_ s4 s5 s6 ?_
       all_goals first | (rw [← hSS]; exact hn) | (rw [← hSS]; rfl) | (rw [← hSS]; exact s7)
theorem cont_other (h : CI p d) (hk : k = 0 ∨ k = 1 ∨ k = 2) (hn : p.s.nw ≠ k) (hlt : p.n k < ((p.q k).length : Int)) (hm : (p.q k)[(p.n k).toNat]? = some m) :
 ∃ s', KeptOK (p.up k) d m s' ∨ SentOK (p.up k) d m s' := by
 obtain ⟨hch, hsp, hvp⟩ := h.q hk
 have hmem := List.mem_of_getElem? hm
 have hv := hvp m hmem
 have hsp0 := hsp m hmem
 obtain ⟨y, ra, rb, hyg, a2⟩ := vpk_dec hv
 obtain ⟨k', hk', ek', epush, hyg', hgd'⟩ := push_v (ss := 10 * k + 10) h.v.gd h.v.l (by omega) hv
 obtain rfl : k' = k := by omega
 rw [a2] at epush hgd' hsp0
 dsimp only at epush hgd' hsp0
 have hyr := (Sh.good_iff y).1 hyg
 have hs := h.v.gd
 have hnk := pl_n h.v.i.ok k'
 have hi := h.v.i.up k' hlt
 have hup := up_s p k'
 have hpv : ∀ S : Sw, Gd S → S.l = [10, 20, 30] → S.ou = 5 → PlV { p.up k' with s := S } := fun S g1 g2 g3 => by
  have hq := fun j => up_q p k' j
  exact ⟨hi.sw (by rw [g2]; decide), g1, g2, g3, by have := hq 0; rw [show (p.up k').q0 = p.q0 from this]; exact h.v.q0, by have := hq 1; rw [show (p.up k').q1 = p.q1 from this]; exact h.v.q1, by have := hq 2; rw [show (p.up k').q2 = p.q2 from this]; exact h.v.q2⟩
 have hchs : (Ch (p.up k').q0 ∧ Ch (p.up k').q1 ∧ Ch (p.up k').q2) ∧ sp0 (p.up k').q0 ∧ sp0 (p.up k').q1 ∧ sp0 (p.up k').q2 := by
  have hq := fun j => up_q p k' j
  rw [show (p.up k').q0 = p.q0 from hq 0, show (p.up k').q1 = p.q1 from hq 1, show (p.up k').q2 = p.q2 from hq 2]
  exact ⟨h.ch, h.s0⟩
 have hl := toldL_l p.s k' m y
 have hou := toldL_ou p.s k' m y
 have hmsq : 0 ≤ m.sq ∧ m.sq ≤ 65535 := inI_t (md_cs hv.1).2.2
 cases htb : takeB p.s k' y
 · -- nothing happens
   have htk : takeS p.s k' m y = p.s := by simp only [takeS, htb, cond_false]
   have had : advB p.s k' m = false := by
    have e2 : (k' == p.s.nw) = false := by simp; exact fun e => hn e.symm
    simp only [advB, e2, Bool.false_and]
   have htold : toldL p.s k' m y = (p.s, []) := by rw [told_N, htk]; unfold toldN; rw [had]; rfl
   refine ⟨p.s, .inl ⟨?_, ?_, ?_, ?_, ?_, ?_⟩⟩
   · rw [hup]; exact pdS_0 (epush.trans (by rw [htold]))
   rotate_right
   · refine ⟨hpv p.s hs h.v.l h.v.ou, hchs.1, hchs.2, h.y, h.f, fun h0 => ?_⟩
     have h0 : 0 ≤ p.s.nw := h0
     have hnw := hs.nw
     rw [h.v.l] at hnw
     simp only [List.length_cons, List.length_nil] at hnw
     obtain ⟨m0, x0, r0, c1, c2, c3⟩ := h.c h0
     have hj : p.s.nw = 0 ∨ p.s.nw = 1 ∨ p.s.nw = 2 := by omega
     have hn2 : Pl.n { p.up k' with s := p.s } p.s.nw = p.n p.s.nw := by
      show (p.up k').n p.s.nw = _
      rw [up_n hk hj, if_neg hn]
     have hq2 : Pl.q { p.up k' with s := p.s } p.s.nw = p.q p.s.nw := up_q p k' _
     refine ⟨m0, x0, r0, ?_, ?_, c3⟩
     · show 1 ≤ Pl.n { p.up k' with s := p.s } p.s.nw
       rw [hn2]; exact c1
     · show (Pl.q { p.up k' with s := p.s } p.s.nw)[(Pl.n { p.up k' with s := p.s } p.s.nw - 1).toNat]? = _
       rw [hn2, hq2]; exact c2
   all_goals rw [hup]
 · -- the switch goes over to this stream
   have hb : k' = p.s.wa ∧ y.st = true ∧ y.ky = true := by
    simp only [takeB, Bool.and_eq_true, beq_iff_eq] at htb
    exact ⟨htb.1, htb.2.2.1, htb.2.2.2.1⟩
   have hte := hyr.2.2.2.2.2.2.2.2.1 hb.2.2
   have w1 : IntKind.i64.wrap (p.s.ss + 1) = p.s.ss + 1 := wrapL (by have := hs.ss; omega) (by have := hs.ss; omega)
   have w3 : IntKind.i64.wrap (p.s.si + 1) = p.s.si + 1 := wrapL (by have := hs.si; omega) (by have := hs.si; omega)
   have w4 : IntKind.i64.wrap (p.s.sb + 1) = p.s.sb + 1 := wrapL (by have := hs.sb; omega) (by have := hs.sb; omega)
   have w5 : IntKind.i64.wrap (0 - y.id) = 0 - y.id := wrapL (by omega) (by omega)
   have htk : takeS p.s k' m y = ⟨p.s.l, p.s.ou, p.s.st, k', p.s.wa, 0, p.s.ai, (m.sq - 1) % 65536, y.id, true, (p.s.ss + 1 - m.sq) % 65536, (IntKind.i64.wrap (p.s.sT + p.s.st) - m.tm) % 4294967296, (p.s.si + 1 + (0 - y.id)) % 32768, (p.s.sb + 1 - y.ba) % 256, p.s.ss, p.s.sT, p.s.si, p.s.sb⟩ := by
    simp only [takeS, htb, cond_true, w1, w3, w4, w5]
   rw [told_N, htk] at epush hgd' hl hou
   generalize hTT : (⟨p.s.l, p.s.ou, p.s.st, k', p.s.wa, 0, p.s.ai, (m.sq - 1) % 65536, y.id, true, (p.s.ss + 1 - m.sq) % 65536, (IntKind.i64.wrap (p.s.sT + p.s.st) - m.tm) % 4294967296, (p.s.si + 1 + (0 - y.id)) % 32768, (p.s.sb + 1 - y.ba) % 256, p.s.ss, p.s.sT, p.s.si, p.s.sb⟩ : Sw) = TT at epush hgd' hl hou
   have had : advB TT k' m = true := by
    have e2 : (k' == TT.nw) = true := by rw [← hTT]; simp
    have e3 : decide (lead m.sq TT.tp > 0) = true := lead_1 (by rw [← hTT]; show m.sq = ((m.sq - 1) % 65536 + 1) % 65536; omega) (by rw [← hTT]; show 0 ≤ (m.sq - 1) % 65536 ∧ (m.sq - 1) % 65536 ≤ 65535; omega)
    simp only [advB, e2, e3, Bool.and_self]
   have hadS : advS TT k' m = { TT with tp := m.sq } := by unfold advS; rw [had]; rfl
   have hf : frameS { TT with tp := m.sq } y = { TT with tp := m.sq } := by
    have : (y.id == TT.fr) = true := by rw [← hTT]; simp
    unfold frameS
    show (bif y.id == TT.fr then _ else _) = _
    rw [this]; rfl
   have hdr : dropB { TT with tp := m.sq } y = false := by
    have : TT.kp = true := by rw [← hTT]
    simp only [dropB, this, hsp0]; rfl
   have htold : toldN TT k' m y = (sendS { TT with tp := m.sq } m y, [sendP { TT with tp := m.sq } m y]) := by
    unfold toldN; rw [had, hadS, hf, hdr]; rfl
   rw [htold] at epush hgd' hl hou
   dsimp only at epush hgd' hl hou
   have hso : ({ TT with tp := m.sq } : Sw).ou = 5 := by rw [← hTT]; exact h.v.ou
   obtain ⟨f1, f2, f3, f4, f5, f6, f7, f8⟩ := send_facts (S := { TT with tp := m.sq }) hv a2 hso
   have hss := hs.ss
   have hsi := hs.si
   have hsb := hs.sb
   have e1 : (sendS { TT with tp := m.sq } m y).ss = (p.s.ss + 1) % 65536 := by
    rw [← hTT]; show (m.sq + (p.s.ss + 1 - m.sq) % 65536) % 65536 = _; omega
   have e2 : (sendS { TT with tp := m.sq } m y).si = (p.s.si + 1) % 32768 := by
    rw [← hTT]; show (y.id + (p.s.si + 1 + (0 - y.id)) % 32768) % 32768 = _; omega
   have e3 : (sendS { TT with tp := m.sq } m y).sb = (p.s.sb + 1) % 256 := by
    rw [← hTT]; show (y.ba + (p.s.sb + 1 - y.ba) % 256) % 256 = _; omega
   have hr8 := (Sh.good_iff _).1 f8
   dsimp only at hr8
   have hfit : Ly.fit ⟨true, (sendS { TT with tp := m.sq } m y).si, (sendS { TT with tp := m.sq } m y).sb, 0⟩ = true := by
    simp only [Ly.fit, Bool.and_eq_true, decide_eq_true_eq, Bool.true_or, and_true]
    exact ⟨⟨⟨hr8.1, hr8.2.1⟩, hr8.2.2.1, hr8.2.2.2.1⟩, by omega, by omega⟩
   refine ⟨_, .inr ⟨_, y, _, ?_, a2, f1, f2, f3, f4, f5, ?_, f6, f7, .inl ⟨hb.2.1, ?_, ?_, ⟨⟨true, (sendS { TT with tp := m.sq } m y).si, (sendS { TT with tp := m.sq } m y).sb, 0⟩, zLy, zLy⟩, ?_, ?_⟩⟩⟩
   · rw [hup]; exact pdS_1 epush
   · rw [f6, e1, hup]
   · rw [e2, hup]
   · rw [e3, hup, if_pos hte]
   · exact show_key (x := { y with id := (sendS { TT with tp := m.sq } m y).si, ba := (sendS { TT with tp := m.sq } m y).sb }) h.good f8 hsp0 hb.2.2
   · have hnw : (sendS { TT with tp := m.sq } m y).nw = k' := by rw [← hTT]; rfl
     refine ⟨hpv _ hgd' (hl.trans h.v.l) (hou.trans h.v.ou), hchs.1, hchs.2, ⟨rfl, rfl⟩, hfit, fun _ => ?_⟩
     have hn3 : Pl.n { p.up k' with s := sendS { TT with tp := m.sq } m y } k' = p.n k' + 1 := by
      show (p.up k').n k' = _
      rw [up_n hk hk, if_pos rfl]
     have hq3 : Pl.q { p.up k' with s := sendS { TT with tp := m.sq } m y } k' = p.q k' := up_q p k' k'
     refine ⟨m, y, _, ?_, ?_, a2, rfl, ?_, ?_, ?_, ?_, rfl, rfl, rfl, ?_⟩
     · show 1 ≤ Pl.n { p.up k' with s := sendS { TT with tp := m.sq } m y } (sendS { TT with tp := m.sq } m y).nw
       rw [hnw, hn3]; omega
     · show (Pl.q { p.up k' with s := sendS { TT with tp := m.sq } m y } (sendS { TT with tp := m.sq } m y).nw)[(Pl.n { p.up k' with s := sendS { TT with tp := m.sq } m y } (sendS { TT with tp := m.sq } m y).nw - 1).toNat]? = _
       rw [hnw, hn3, hq3, show p.n k' + 1 - 1 = p.n k' by omega]; exact hm
     · show y.id = TT.fr
       rw [← hTT]
     · rfl
     · show (TT.fr + TT.id) % 32768 = (y.id + TT.id) % 32768
       rw [← hTT]
     · rfl
     · show TT.ca ≤ 0
       rw [← hTT]; exact Int.le_refl 0
theorem cont_push (h : CI p d) {a : Ac} (hw : a.wh % 8 < 6) : nextS p a = (p, zMd, false) ∨ ∃ p1 m, nextS p a = (p1, m, true) ∧ p1.s = p.s ∧ pkOK m = true ∧ ∃ s', KeptOK p1 d m s' ∨ SentOK p1 d m s' := by
 rcases next_up (p := p) hw with e | ⟨k, hk, hlt, e⟩
 · exact .inl e
 · have hnk := pl_n h.v.i.ok k
   obtain ⟨m, hm⟩ : ∃ m, (p.q k)[(p.n k).toNat]? = some m := ⟨_, List.getElem?_eq_getElem (by omega)⟩
   have hgm : (p.q k).getD (p.n k).toNat zMd = m := by rw [List.getD_eq_getElem?_getD, hm]; rfl
   rw [hgm] at e
   refine .inr ⟨p.up k, m, e, up_s p k, vpk_ok ((h.q hk).2.2 m (List.mem_of_getElem? hm)), ?_⟩
   by_cases hn : p.s.nw = k
   · exact cont_cur h hk hn hlt hm
   · exact cont_other h hk hn hlt hm
end
end Go.Proofs.Lys
end
