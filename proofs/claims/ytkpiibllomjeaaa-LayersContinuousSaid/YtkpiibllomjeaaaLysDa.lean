/- Texts laid as one: LysD1 LysD2 LysD3. -/
import Derived.Test.YtkpiibllomjeaaaLysCe
import Derived.Test.YtkpiibllomjeaaaAbShs
section
/- Chapter 41: films, acts, drafts, plays. -/
namespace Go.Proofs.Lys
open Go.Ab
set_option maxRecDepth 100000
set_option maxHeartbeats 4000000
set_option linter.unusedSimpArgs false
set_option linter.unusedVariables false
def u8R (x : Int) : List AV := [.i .u8 x]
theorem u8R_len : ∀ x, (u8R x).length = 1 := fun _ => rfl
theorem u8R_bel : ∀ x, belL 0 (u8R x) = true := fun _ => rfl
def u8V : List AV → Option Int
 | [.i .u8 x] => some x
 | _ => none
theorem u8V_eq (c : List AV) (a : Int) (h : u8V c = some a) : c = u8R a := by
 unfold u8V at h
 split at h
 · cases h; rfl
 · cases h
theorem u8V_r (a : Int) : u8V (u8R a) = some a := rfl
theorem u8B (j : Nat) (l : List Int) : belL j (rows u8R l) = true := belL_mono0 _ (rows_bel u8R_bel)
structure Fl where
 sq : Int
 id : Int
 tm : Int
 ba : Int
 pc : List Int
def Fl.l (f : Fl) : List AV := [.i .u16 f.sq, .i .u16 f.id, .i .u32 f.tm, .i .u8 f.ba, .fz (rows u8R f.pc) f.pc.length]
theorem Fl.bel (f : Fl) : belL 0 f.l = true := by simp only [Fl.l, belL, AV.bel, u8B, Bool.and_self]
theorem Fl.len : ∀ f : Fl, f.l.length = 5 := fun _ => rfl
def fl5 : List AV → Option Fl
 | [.i .u16 a, .i .u16 b, .i .u32 c, .i .u8 d, .fz L m] => (unrows 1 u8V m L).bind fun l => some ⟨a, b, c, d, l⟩
 | _ => none
theorem fl5_l (f : Fl) : fl5 f.l = some f := by
 obtain ⟨a, b, c, d, l⟩ := f
 simp only [fl5, Fl.l, unrows_rows u8R_len u8V_r l, Option.bind_some]
theorem fl5_eq {c : List AV} {f : Fl} (h : fl5 c = some f) : c = f.l := by
 unfold fl5 at h
 split at h
 · simp only [Option.bind_eq_some_iff, Option.some.injEq] at h
   obtain ⟨l, hl, rfl⟩ := h
   obtain ⟨rfl, hm⟩ := unrows_eq (f := u8R) u8V_eq hl
   subst hm; rfl
 · cases h
def Fl.ok (f : Fl) : Bool := inI 0 65535 f.sq && (inI 0 65535 f.id && (inI 0 4294967295 f.tm && (inI 0 255 f.ba && (f.pc.all (inI 0 255) && decide (f.pc.length ≤ 9223372036854775807)))))
structure Ac where
 wh : Int
 at_ : Int
 la : Int
 ai : Int
def Ac.l (a : Ac) : List AV := [.i .u8 a.wh, .i .u8 a.at_, .i .u8 a.la, .i .u8 a.ai]
theorem Ac.len : ∀ a : Ac, a.l.length = 4 := fun _ => rfl
theorem Ac.bel : ∀ a : Ac, belL 0 a.l = true := fun _ => rfl
def ac4 : List AV → Option Ac
 | [.i .u8 a, .i .u8 b, .i .u8 c, .i .u8 d] => some ⟨a, b, c, d⟩
 | _ => none
theorem ac4_l (a : Ac) : ac4 a.l = some a := rfl
theorem ac4_eq (c : List AV) (a : Ac) (h : ac4 c = some a) : c = a.l := by
 unfold ac4 at h
 split at h
 · cases h; rfl
 · cases h
theorem acB (j : Nat) (l : List Ac) : belL j (rows Ac.l l) = true := belL_mono0 _ (rows_bel Ac.bel)
def Ac.ok (a : Ac) : Bool := inI 0 255 a.wh && (inI 0 255 a.at_ && (inI 0 255 a.la && inI 0 255 a.ai))
/-! films' pictures -/
def kd (f : Fl) (i : Nat) : Int := if i = 0 then 7 else f.pc.getD (i - 1) 0
def fOp (k op : Int) : Int := bif k % 8 == 7 then 0 else bif decide (k % 8 < 4) then op else bif k % 8 == 4 then op else min (op + 1) (1 + k / 8 % 3)
def fBa (k op ba : Int) : Int := bif k % 8 == 7 then (ba + 1) % 256 else bif decide (k % 8 < 4) then (ba + 1) % 256 else bif k % 8 == 4 then (bif op == 0 then (ba + 1) % 256 else ba) else ba
def fTe (k op : Int) : Int := bif k % 8 == 7 then 0 else bif decide (k % 8 < 4) then 0 else bif k % 8 == 4 then min op (1 + k / 8 % 3) else min (op + 1) (1 + k / 8 % 3)
def fSy (k : Int) : Bool := bif k % 8 == 7 then false else bif decide (k % 8 < 4) then false else !(k % 8 == 4)
def fSh (f : Fl) (i : Nat) (k op ba : Int) : Sh := ⟨false, k % 8 == 7, fSy k, false, (f.id + (i : Int)) % 32768, fBa k op ba, fTe k op, 0⟩
def fN (k : Int) : Nat := (1 + k / 32 % 3).toNat
def pkF (f : Fl) (ss : Int) (i : Nat) (x : Sh) (n : Nat) (sq : Int) (j : Nat) : Md :=
 ⟨(j : Int) == (n : Int) - 1, 96, sq % 65536, (f.tm + 3000 * (i : Int)) % 4294967296, ss, [], [], 0, (Sh.enc ⟨(j : Int) == 0, x.ky, x.sy, (j : Int) == (n : Int) - 1, x.id, x.ba, x.te, x.sp⟩) ++ [UInt8.ofNat (i : Int).toNat, UInt8.ofNat (j : Int).toNat]⟩
def inF (f : Fl) (ss : Int) (i : Nat) (x : Sh) (n : Nat) (q : List Md) (k : Nat) : List Md := q ++ mapN (fun j => pkF f ss i x n (f.sq + ((q.length + j : Nat) : Int)) j) k
theorem inF_s {f : Fl} {ss : Int} {i : Nat} {x : Sh} {n : Nat} {q : List Md} {k : Nat} : inF f ss i x n q (k + 1) = inF f ss i x n q k ++ [pkF f ss i x n (f.sq + ((q.length + k : Nat) : Int)) k] := by
 simp only [inF, mapN_s, List.append_assoc]
theorem inF_len {f : Fl} {ss : Int} {i : Nat} {x : Sh} {n : Nat} {q : List Md} {k : Nat} : (inF f ss i x n q k).length = q.length + k := by
 simp only [inF, List.length_append, mapN_len]
structure Fs where
 op : Int
 ba : Int
 q : List Md
def fNx (f : Fl) (ss : Int) (i : Nat) (s : Fs) : Fs := ⟨fOp (kd f i) s.op, fBa (kd f i) s.op s.ba, inF f ss i (fSh f i (kd f i) s.op s.ba) (fN (kd f i)) s.q (fN (kd f i))⟩
def fSt (f : Fl) (ss : Int) : Nat → Fs
 | 0 => ⟨0, f.ba, []⟩
 | i + 1 => fNx f ss i (fSt f ss i)
def filmS (f : Fl) (ss : Int) : List Md := (fSt f ss (min (f.pc.length + 1) 24)).q
theorem kd_rng {f : Fl} (h : f.ok = true) (i : Nat) : 0 ≤ kd f i ∧ kd f i ≤ 255 := by
 unfold kd
 split
 · omega
 · simp only [Fl.ok, Bool.and_eq_true, List.all_eq_true] at h
   rw [List.getD_eq_getElem?_getD]
   cases hx : f.pc[i - 1]? with
   | none => simp
   | some x => exact inI_t (h.2.2.2.2.1 x (List.mem_of_getElem? hx))
theorem fN_rng {k : Int} (h : 0 ≤ k) : 1 ≤ fN k ∧ fN k ≤ 3 ∧ (fN k : Int) = 1 + k / 32 % 3 := by unfold fN; omega
theorem fOp_rng {k op : Int} (h : 0 ≤ op ∧ op ≤ 3) : 0 ≤ fOp k op ∧ fOp k op ≤ 3 := by
 unfold fOp; simp only [Bool.cond_eq_ite]
 repeat' split
 all_goals omega
theorem fBa_rng {k op ba : Int} (h : 0 ≤ ba ∧ ba ≤ 255) : 0 ≤ fBa k op ba ∧ fBa k op ba ≤ 255 := by
 unfold fBa; simp only [Bool.cond_eq_ite]
 repeat' split
 all_goals omega
theorem fTe_rng {k op : Int} (h : 0 ≤ op ∧ op ≤ 3) : 0 ≤ fTe k op ∧ fTe k op ≤ 3 := by
 unfold fTe; simp only [Bool.cond_eq_ite]
 repeat' split
 all_goals omega
theorem fSt_rng {f : Fl} (hf : f.ok = true) (ss : Int) : ∀ i, (0 ≤ (fSt f ss i).op ∧ (fSt f ss i).op ≤ 3) ∧ (0 ≤ (fSt f ss i).ba ∧ (fSt f ss i).ba ≤ 255) ∧ (fSt f ss i).q.length ≤ 3 * i
 | 0 => by
  simp only [Fl.ok, Bool.and_eq_true] at hf
  have := inI_t hf.2.2.2.1
  simp only [fSt, List.length_nil]
  omega
 | i + 1 => by
  obtain ⟨h1, h2, h3⟩ := fSt_rng hf ss i
  have h4 := fN_rng (kd_rng hf i).1
  refine ⟨fOp_rng h1, fBa_rng h2, ?_⟩
  simp only [fSt, fNx, inF_len]
  omega
theorem fSh_good {f : Fl} (hf : f.ok = true) (i : Nat) {k op ba : Int} (ho : 0 ≤ op ∧ op ≤ 3) (hb : 0 ≤ ba ∧ ba ≤ 255) (hk : 0 ≤ k) (st la : Bool) : (Sh.mk st (fSh f i k op ba).ky (fSh f i k op ba).sy la (fSh f i k op ba).id (fSh f i k op ba).ba (fSh f i k op ba).te (fSh f i k op ba).sp).good = true := by
 simp only [Fl.ok, Bool.and_eq_true] at hf
 have h1 := inI_t hf.2.1
 have h2 := fBa_rng (k := k) (op := op) hb
 have h3 := fTe_rng (k := k) ho
 rw [Sh.good_iff]
 simp only [fSh]
 refine ⟨by omega, by omega, h2.1, h2.2, h3.1, h3.2, by omega, by omega, ?_, ?_⟩
 · intro h
   simp only [fTe, h, cond_true]
 · intro h
   unfold fSy at h
   unfold fTe
   cases a : (k % 8 == 7)
   · rw [a] at h
     cases b : decide (k % 8 < 4)
     · rw [b] at h
       cases c : (k % 8 == 4)
       · simp only [cond_false]; omega
       · rw [c] at h; cases h
     · rw [b] at h; cases h
   · rw [a] at h; cases h
end Go.Proofs.Lys
end
section
/- Chapter 41: a film's packets. -/
namespace Go.Proofs.Lys
open Go.Ab
set_option maxRecDepth 100000
set_option maxHeartbeats 4000000
set_option linter.unusedSimpArgs false
set_option linter.unusedVariables false
def pkL (p : Md) : List AV := [.b p.ma, .i .i64 p.ty, .i .i64 p.sq, .i .i64 p.tm, .i .i64 p.ss, .ns, .ns, .i .i64 p.pd, .s p.pl]
theorem pkL_len : ∀ p, (pkL p).length = 9 := fun _ => rfl
theorem pkL_bel : ∀ p, belL 0 (pkL p) = true := fun _ => rfl
theorem pkB (j : Nat) (l : List Md) : belL j (rows pkL l) = true := belL_mono0 _ (rows_bel pkL_bel)
theorem pkR (ψ : Nat → Nat) (l : List Md) : renL ψ (rows pkL l) = rows pkL l := renL_fix0 _ (rows_bel pkL_bel)
theorem gPk (q : List Md) : (gQ pkL 9 q).plain = true := (gQ_is (f := pkL) pkL_bel pkL_len q).pl
theorem gPcap (q : List Md) : (gQ pkL 9 q).capOK := by unfold gQ; split <;> trivial
theorem gQ_sub {x : Nat} (q : List Md) : subM (noneL ((gQ pkL 9 q).bl 1)) ((gQ pkL 9 q).bl 1 ++ [x]) = true := by
 unfold gQ; split
 · rfl
 · rfl
theorem gQ_has {a b : Blk} {r : Hp} (q : List Md) : hasM ((4, a) :: (3, b) :: ((gQ pkL 9 q).h 1 ++ r)) (noneL ((gQ pkL 9 q).bl 1)) = true := by
 unfold gQ; split
 · rfl
 · rfl
def sB : Nat → Bool
 | 0 => false
 | k + 1 => (k : Int) == 0
def lB (n : Nat) : Nat → Bool
 | 0 => false
 | k + 1 => (k : Int) == (n : Int) - 1
def xB (x : Sh) (n k : Nat) : List AV := [.b (sB k), .b x.ky, .b x.sy, .b (lB n k), .i .i64 x.id, .i .i64 x.ba, .i .i64 x.te, .i .i64 x.sp]
abbrev hD67 (f : Fl) (q : List Md) : Hp := (gQ pkL 9 q).h 1 ++ [(0, { cells := f.l })]
abbrev hI67 (f : Fl) (x : Sh) (n k : Nat) (q : List Md) : Hp := (gQ pkL 9 q).h 1 ++ [(2, { cells := xB x n k }), (0, { cells := f.l })]
def T67 : List (Nat × Ct) := [(81, k84)]
theorem hT67 : Sound Try.prog (cxT T67) := Sound.cons s81 Sound.nil
theorem loop67i (f : Fl) (ss : Int) (i : Nat) (x : Sh) (n : Nat) (q : List Md) (op ba : Int) (hs : 0 ≤ f.sq ∧ f.sq ≤ 65535) (ht : 0 ≤ f.tm ∧ f.tm ≤ 4294967295) (hi : i < 24) (hn : n ≤ 3) (hq : q.length ≤ 100) (hx : ∀ st la, (Sh.mk st x.ky x.sy la x.id x.ba x.te x.sp).good = true) {K : Kont} {e : Env} {h : Hp} {m : Nat}
 (he : EnvR 3 [] e [(1, .i .i64 ss), (2, .p 0 0), (5, (gQ pkL 9 q).v 1), (6, .i .i64 (f.sq + (q.length : Int))), (7, .i .i64 op), (8, .i .i64 ba), (9, .i .i64 (i : Int)), (11, .p 2 0), (12, .i .i64 (n : Int)), (13, .i .i64 0)])
 (hh : HpR 3 [] h (hI67 f x n 0 q))
 (hK : ∀ e' k, eget e' 1 = some (.i .i64 ss) → eget e' 2 = some (.p 0 0) → eget e' 5 = some ((gQ pkL 9 (inF f ss i x n q n)).v 1) → eget e' 6 = some (.i .i64 (f.sq + ((q.length + n : Nat) : Int))) → eget e' 7 = some (.i .i64 op) → eget e' 8 = some (.i .i64 ba) → eget e' 9 = some (.i .i64 (i : Int)) → K (.exit 3) e' (hI67 f x n k (inF f ss i x n q n)) 3) :
 Ab.Loop Try.prog [28, 32, 57, 65, 72, 84, 96] 135 0 i67l28 K e h m := by
 obtain ⟨sq, id, tm, fba, pc⟩ := f
 dsimp only at hs ht hK
 have hLb : ∀ j, belL j (rows u8R pc) = true := fun j => u8B j pc
 have hLr : ∀ ψ, renL ψ (rows u8R pc) = rows u8R pc := fun ψ => renL_fix0 _ (rows_bel u8R_bel)
 have hq0 : inF ⟨sq, id, tm, fba, pc⟩ ss i x n q 0 = q := by simp [inF, mapN_z]
 simp only [hI67, Fl.l] at hh hK
 rw [← hq0] at he hh
 refine Loop.stepR (F := ⟨Try.prog, cxT T67, [28, 32, 57, 65, 72, 84, 96], 135, 0⟩) hT67 mo (X := Nat) (fun k => k ≤ n) (fun k => n - k)
  (fun k => [(1, .i .i64 ss), (2, .p 0 0), (5, (gQ pkL 9 (inF ⟨sq, id, tm, fba, pc⟩ ss i x n q k)).v 1), (6, .i .i64 (sq + ((q.length + k : Nat) : Int))), (7, .i .i64 op), (8, .i .i64 ba), (9, .i .i64 (i : Int)), (11, .p 2 0), (12, .i .i64 (n : Int)), (13, .i .i64 (k : Int))])
  (fun k => (gQ pkL 9 (inF ⟨sq, id, tm, fba, pc⟩ ss i x n q k)).h 1 ++ [(2, { cells := xB x n k }), (0, { cells := [.i .u16 sq, .i .u16 id, .i .u32 tm, .i .u8 fba, .fz (rows u8R pc) pc.length] })]) 3 0 (fun k => k + 1) []
  (fun k => [(1, 5)]) (by decide) (by decide) (fun k => by decide) (Nat.zero_le _) (by rw [hq0] at he; simpa [hq0] using he) hh (fun k hk => ?_)
 have hil := inF_len (f := ⟨sq, id, tm, fba, pc⟩) (ss := ss) (i := i) (x := x) (n := n) (q := q) (k := k)
 obtain ⟨xst, xky, xsy, xla, xid, xba, xte, xsp⟩ := x
 dsimp only at hx
 by_cases hlt : k < n
 · have c1 : decide ((k : Int) < (n : Int)) = true := decide_eq_true (by omega)
   have hw : IntKind.i64.wrap ((k : Int) + 1) = ((k + 1 : Nat) : Int) := by rw [wrapL (by omega) (by omega)]; omega
   have hsk : n - (k + 1) < n - k := by omega
   have w1 : IntKind.i64.wrap ((n : Int) - 1) = (n : Int) - 1 := wrapL (by omega) (by omega)
   have w2 : IntKind.i64.wrap tm = tm := wrapL (by omega) (by omega)
   have w4 : IntKind.i64.wrap (3000 * (i : Int)) = 3000 * (i : Int) := wrapL (by omega) (by omega)
   have w5 : IntKind.i64.wrap (tm + 3000 * (i : Int)) = tm + 3000 * (i : Int) := wrapL (by omega) (by omega)
   have m1 : (tm + 3000 * (i : Int)).tmod 4294967296 = (tm + 3000 * (i : Int)) % 4294967296 := Int.tmod_eq_emod_of_nonneg (by omega)
   have m2 : IntKind.i64.wrap ((tm + 3000 * (i : Int)) % 4294967296) = (tm + 3000 * (i : Int)) % 4294967296 := wrapL (by omega) (by omega)
   have w7 : IntKind.u8.wrap (i : Int) = (i : Int) := by rw [wrapU8]; omega
   have w9 : IntKind.u8.wrap (k : Int) = (k : Int) := by rw [wrapU8]; omega
   have m3 : (sq + ((q.length + k : Nat) : Int)).tmod 65536 = (sq + ((q.length + k : Nat) : Int)) % 65536 := Int.tmod_eq_emod_of_nonneg (by omega)
   have m4 : IntKind.i64.wrap ((sq + ((q.length + k : Nat) : Int)) % 65536) = (sq + ((q.length + k : Nat) : Int)) % 65536 := wrapL (by omega) (by omega)
   have w10 : IntKind.i64.wrap (sq + ((q.length + k : Nat) : Int) + 1) = sq + ((q.length + (k + 1) : Nat) : Int) := by rw [wrapL (by omega) (by omega)]; omega
   rw [inF_s]
   generalize hQ : sq + ((q.length + k : Nat) : Int) = Q at *
   generalize hQ' : sq + ((q.length + (k + 1) : Nat) : Int) = Q' at *
   generalize inF ⟨sq, id, tm, fba, pc⟩ ss i ⟨xst, xky, xsy, xla, xid, xba, xte, xsp⟩ n q k = q1 at *
   have gm : decide (112 * (q1.length + 1) ≤ growMax) = true := decide_eq_true (by simp only [growMax]; omega)
   have zR : (rows pkL q1).length = q1.length * 9 := rows_len pkL_len
   have pk := gPk q1
   have pk' := gPk (q1 ++ [pkF ⟨sq, id, tm, fba, pc⟩ ss i ⟨xst, xky, xsy, xla, xid, xba, xte, xsp⟩ n Q k])
   rw [gQ_snoc] at pk' ⊢
   have eL : (Sh.enc ⟨(k : Int) == 0, xky, xsy, (k : Int) == (n : Int) - 1, xid, xba, xte, xsp⟩).length = 5 := rfl
   have hgd := hx ((k : Int) == 0) ((k : Int) == (n : Int) - 1)
   have hxB : xB ⟨xst, xky, xsy, xla, xid, xba, xte, xsp⟩ n (k + 1) = [.b ((k : Int) == 0), .b xky, .b xsy, .b ((k : Int) == (n : Int) - 1), .i .i64 xid, .i .i64 xba, .i .i64 xte, .i .i64 xsp] := rfl
   rw [hxB]
   dsimp only [xB]
   simp only [pkL, pkF, Int.toNat_natCast] at pk' ⊢
   have d1 := fun x => gQ_sub (x := x) q1
   have d2 := fun a b r => gQ_has (a := a) (b := b) (r := r) q1
   generalize hEN : Sh.enc ⟨(k : Int) == 0, xky, xsy, (k : Int) == (n : Int) - 1, xid, xba, xte, xsp⟩ = EN at *
   dsimp only [T67]
   simp (maxSteps := 400000) only [go_sem, c1, hw, w1, w2, w4, w5, w7, w9, w10, m1, m2, m3, m4, gm, zR, pk, pk', hsk, hlt, d1, d2, k84, hgd, hEN, eL, bytesOf, AV.bel, belL, nblt, Blk.ren, renL, AV.ren, pkB, pkR, hLb, hLr, Nat.add_zero, simprocAttr]
   exact hlt
 · have c1 : decide ((k : Int) < (n : Int)) = false := decide_eq_false (by omega)
   obtain rfl : k = n := by omega
   generalize inF ⟨sq, id, tm, fba, pc⟩ ss i ⟨xst, xky, xsy, xla, xid, xba, xte, xsp⟩ k q k = q1 at *
   have pk := gPk q1
   dsimp only [T67, xB] at *
   simp (maxSteps := 400000) only [go_sem, c1, pk, simprocAttr]
   exact hK _ _ rfl rfl rfl rfl rfl rfl rfl
end Go.Proofs.Lys
end
section
/- Chapter 41: a film's pictures. -/
namespace Go.Proofs.Lys
open Go.Ab
set_option maxRecDepth 100000
set_option maxHeartbeats 4000000
set_option linter.unusedSimpArgs false
set_option linter.unusedVariables false
theorem loop67o (f : Fl) (ss : Int) (hf : f.ok = true) {K : Kont} {e : Env} {h : Hp} {m : Nat}
 (he : EnvR 2 [] e [(1, .i .i64 ss), (2, .p 0 0), (5, (gQ pkL 9 []).v 1), (6, .i .i64 (f.sq + ((([] : List Md).length : Nat) : Int))), (7, .i .i64 0), (8, .i .i64 f.ba), (9, .i .i64 0)])
 (hh : HpR 2 [] h (hD67 f []))
 (hK : ∀ e', eget e' 5 = some ((gQ pkL 9 (filmS f ss)).v 1) → K (.exit 0) e' (hD67 f (filmS f ss)) 2) :
 Ab.Loop Try.prog [28, 32, 57, 65, 72, 84, 96] 135 0 i67l30 K e h m := by
 have hLb : ∀ j, belL j (rows u8R f.pc) = true := fun j => u8B j f.pc
 have hLr : ∀ ψ, renL ψ (rows u8R f.pc) = rows u8R f.pc := fun ψ => renL_fix0 _ (rows_bel u8R_bel)
 have hMM : ∀ i, i < min (f.pc.length + 1) 24 ↔ (i ≤ f.pc.length ∧ i < 24) := fun i => by omega
 have hPK : filmS f ss = (fSt f ss (min (f.pc.length + 1) 24)).q := rfl
 rw [hPK] at hK
 have hf2 := hf
 simp only [Fl.ok, Bool.and_eq_true, decide_eq_true_eq, List.all_eq_true] at hf2
 obtain ⟨o1, o2, o3, o4, o5, o6⟩ := hf2
 have o1 := inI_t o1
 have o2 := inI_t o2
 have o3 := inI_t o3
 have o4 := inI_t o4
 generalize min (f.pc.length + 1) 24 = M at *
 clear hPK
 refine Loop.stepR (F := ⟨Try.prog, cxT T67, [28, 32, 57, 65, 72, 84, 96], 135, 0⟩) hT67 mo (X := Nat) (fun i => i ≤ M) (fun i => M - i)
  (fun i => [(1, .i .i64 ss), (2, .p 0 0), (5, (gQ pkL 9 (fSt f ss i).q).v 1), (6, .i .i64 (f.sq + ((fSt f ss i).q.length : Int))), (7, .i .i64 (fSt f ss i).op), (8, .i .i64 (fSt f ss i).ba), (9, .i .i64 (i : Int))])
  (fun i => hD67 f (fSt f ss i).q) 2 0 (fun i => i + 1) []
  (fun i => []) (by decide) (by decide) (fun i => by decide) (Nat.zero_le _) he hh (fun i hi => ?_)
 have hrg := fSt_rng hf ss i
 by_cases hlt : i < M
 · obtain ⟨h1, h2⟩ := (hMM i).1 hlt
   have c1 : decide ((i : Int) ≤ (f.pc.length : Int)) = true := decide_eq_true (by omega)
   have c2 : decide ((i : Int) < 24) = true := decide_eq_true (by omega)
   have hw : IntKind.i64.wrap ((i : Int) + 1) = ((i + 1 : Nat) : Int) := by rw [wrapL (by omega) (by omega)]; omega
   have hsk : M - (i + 1) < M - i := by omega
   have hnx : fSt f ss (i + 1) = fNx f ss i (fSt f ss i) := rfl
   rw [hnx]
   generalize fSt f ss i = s at *
   obtain ⟨op, ba, q⟩ := s
   dsimp only at hrg
   obtain ⟨⟨r1, r2⟩, ⟨r3, r4⟩, r5⟩ := hrg
   have hkr := kd_rng hf i
   have hgd := fun st la => fSh_good hf i (k := kd f i) (op := op) (ba := ba) ⟨r1, r2⟩ ⟨r3, r4⟩ hkr.1 st la
   have hnr := fN_rng hkr.1
   have lp := fun (op' ba' : Int) (K : Kont) (e : Env) (h : Hp) (m : Nat) => @loop67i f ss i (fSh f i (kd f i) op ba) (fN (kd f i)) q op' ba' o1 o3 h2 hnr.2.1 (by omega) hgd K e h m
   have hlen2 := inF_len (f := f) (ss := ss) (i := i) (x := fSh f i (kd f i) op ba) (n := fN (kd f i)) (q := q) (k := fN (kd f i))
   have pk := gPk q
   have v1 : IntKind.i64.wrap f.id = f.id := wrapL (by omega) (by omega)
   have v2 : IntKind.i64.wrap (f.id + (i : Int)) = f.id + (i : Int) := wrapL (by omega) (by omega)
   have v3 : (f.id + (i : Int)).tmod 32768 = (f.id + (i : Int)) % 32768 := Int.tmod_eq_emod_of_nonneg (by omega)
   have v4 : IntKind.i64.wrap ((f.id + (i : Int)) % 32768) = (f.id + (i : Int)) % 32768 := wrapL (by omega) (by omega)
   have v5 : IntKind.i64.wrap (ba + 1) = ba + 1 := wrapL (by omega) (by omega)
   have v6 : (ba + 1).tmod 256 = (ba + 1) % 256 := Int.tmod_eq_emod_of_nonneg (by omega)
   have v7 : IntKind.i64.wrap ((ba + 1) % 256) = (ba + 1) % 256 := wrapL (by omega) (by omega)
   have v8 : IntKind.i64.wrap (op + 1) = op + 1 := wrapL (by omega) (by omega)
   simp only [fNx]
   rw [hlen2]
   generalize hkd : kd f i = kk at *
   rcases Nat.eq_zero_or_pos i with hi0 | hi0
   · subst hi0
     obtain rfl : kk = 7 := hkd.symm
     have hX : fSh f 0 7 op ba = ⟨false, true, false, false, (f.id + ((0 : Nat) : Int)) % 32768, (ba + 1) % 256, 0, 0⟩ := rfl
     have hO : fOp 7 op = 0 := rfl
     have hB : fBa 7 op ba = (ba + 1) % 256 := rfl
     have hN : fN 7 = 1 := rfl
     have v2' : IntKind.i64.wrap (f.id + 0) = f.id + 0 := wrapL (by omega) (by omega)
     have v3' : (f.id + 0).tmod 32768 = (f.id + 0) % 32768 := Int.tmod_eq_emod_of_nonneg (by omega)
     have v4' : IntKind.i64.wrap ((f.id + 0) % 32768) = (f.id + 0) % 32768 := wrapL (by omega) (by omega)
     have c0 : decide ((0 : Int) ≤ (f.pc.length : Int)) = true := decide_eq_true (by omega)
     rw [hX, hN] at lp hlen2 ⊢
     rw [hO, hB]
     replace lp := lp 0 ((ba + 1) % 256)
     generalize inF f ss 0 _ 1 q 1 = q2 at *
     have pk2 := gPk q2
     obtain ⟨sq, id, tm, fba, pc⟩ := f
     simp only [Fl.l, hI67, hD67, xB, sB, lB] at lp ⊢
     dsimp only [T67] at *
     simp (maxSteps := 400000) only [go_sem, c1, c2, v1, v2, v3, v4, v5, v6, v7, v8, pk, minI, c0, v2', v3', v4', Nat.add_zero, simprocAttr]
     refine lp _ _ _ _ ?_ ?_ (fun e' k g1 g2 g5 g6 g7 g8 g9 => ?_)
     · simp (maxSteps := 400000) only [go_sem, pk, AV.bel, belL, nblt, AV.ren, renL, simprocAttr]
     · simp (maxSteps := 400000) only [go_sem, pk, hLb, hLr, AV.bel, belL, nblt, Blk.ren, AV.ren, renL, simprocAttr]
     · simp (maxSteps := 400000) only [go_sem, g1, g2, g5, g6, g7, g8, g9, hw, hsk, pk2, hLb, hLr, AV.bel, belL, nblt, Blk.ren, AV.ren, renL, simprocAttr]
       exact ⟨by omega, by omega⟩
   · have hj : IntKind.i64.wrap ((i : Int) - 1) = ((i - 1 : Nat) : Int) := by rw [wrapL (by omega) (by omega)]; omega
     have c3 : decide (0 ≤ ((i - 1 : Nat) : Int) ∧ ((i - 1 : Nat) : Int) < (f.pc.length : Int)) = true := decide_eq_true (by omega)
     have c4 : decide ((i : Int) > 0) = true := decide_eq_true (by omega)
     obtain ⟨x, hx⟩ : ∃ x, f.pc[i - 1]? = some x := ⟨_, List.getElem?_eq_getElem (by omega)⟩
     have hr : (rows u8R f.pc)[(i - 1) * 1]? = some (.i .u8 x) := rows_get (f := u8R) (z := 1) (j := 0) (v := .i .u8 x) u8R_len hx rfl
     have hkx : kd f i = x := by simp only [kd, if_neg (show ¬ i = 0 by omega), List.getD_eq_getElem?_getD, hx, Option.getD_some]
     obtain rfl : kk = x := by rw [← hkd, hkx]
     have u1 : IntKind.i64.wrap kk = kk := wrapL (by omega) (by omega)
     have u2 : kk.tmod 8 = kk % 8 := Int.tmod_eq_emod_of_nonneg (by omega)
     have u3 : IntKind.i64.wrap (kk % 8) = kk % 8 := wrapL (by omega) (by omega)
     have u4 : kk.tdiv 8 = kk / 8 := Int.tdiv_eq_ediv_of_nonneg (by omega)
     have u5 : IntKind.i64.wrap (kk / 8) = kk / 8 := wrapL (by omega) (by omega)
     have u6 : (kk / 8).tmod 3 = kk / 8 % 3 := Int.tmod_eq_emod_of_nonneg (by omega)
     have u7 : IntKind.i64.wrap (kk / 8 % 3) = kk / 8 % 3 := wrapL (by omega) (by omega)
     have u8 : IntKind.i64.wrap (1 + kk / 8 % 3) = 1 + kk / 8 % 3 := wrapL (by omega) (by omega)
     have u9 : kk.tdiv 32 = kk / 32 := Int.tdiv_eq_ediv_of_nonneg (by omega)
     have u10 : IntKind.i64.wrap (kk / 32) = kk / 32 := wrapL (by omega) (by omega)
     have u11 : (kk / 32).tmod 3 = kk / 32 % 3 := Int.tmod_eq_emod_of_nonneg (by omega)
     have u12 : IntKind.i64.wrap (kk / 32 % 3) = kk / 32 % 3 := wrapL (by omega) (by omega)
     have u13 : IntKind.i64.wrap (1 + kk / 32 % 3) = (fN kk : Int) := by rw [hnr.2.2]; exact wrapL (by omega) (by omega)
     have hmn : ∀ a b : Int, (if b < a then b else a) = min a b := fun a b => by omega
     cases b7 : (kk % 8 == 7)
     rotate_left
     · have hX : fSh f i kk op ba = ⟨false, true, false, false, (f.id + (i : Int)) % 32768, (ba + 1) % 256, 0, 0⟩ := by simp only [fSh, fBa, fTe, fSy, b7, cond_true]
       have hO : fOp kk op = 0 := by simp only [fOp, b7, cond_true]
       have hB : fBa kk op ba = (ba + 1) % 256 := by simp only [fBa, b7, cond_true]
       rw [hX] at lp hlen2 ⊢
       rw [hO, hB]
       replace lp := lp 0 ((ba + 1) % 256)
       generalize inF f ss i _ (fN kk) q (fN kk) = q2 at *
       have pk2 := gPk q2
       obtain ⟨sq, id, tm, fba, pc⟩ := f
       simp only [Fl.l, hI67, hD67, xB, sB, lB] at lp ⊢
       dsimp only [T67] at *
       simp (maxSteps := 400000) only [go_sem, c1, c2, v1, v2, v3, v4, v5, v6, v7, v8, pk, minI, hj, c3, c4, hr, u1, u2, u3, u4, u5, u6, u7, u8, u9, u10, u11, u12, u13, hmn, b7, Nat.add_zero, simprocAttr]
       refine lp _ _ _ _ ?_ ?_ (fun e' k g1 g2 g5 g6 g7 g8 g9 => ?_)
       · simp (maxSteps := 400000) only [go_sem, pk, AV.bel, belL, nblt, AV.ren, renL, simprocAttr]
       · simp (maxSteps := 400000) only [go_sem, pk, hLb, hLr, AV.bel, belL, nblt, Blk.ren, AV.ren, renL, simprocAttr]
       · simp (maxSteps := 400000) only [go_sem, g1, g2, g5, g6, g7, g8, g9, hw, hsk, pk2, hLb, hLr, AV.bel, belL, nblt, Blk.ren, AV.ren, renL, simprocAttr]
         exact hlt
     cases b4 : decide (kk % 8 < 4)
     rotate_left
     · have hX : fSh f i kk op ba = ⟨false, false, false, false, (f.id + (i : Int)) % 32768, (ba + 1) % 256, 0, 0⟩ := by simp only [fSh, fBa, fTe, fSy, b7, b4, cond_true, cond_false]
       have hO : fOp kk op = op := by simp only [fOp, b7, b4, cond_true, cond_false]
       have hB : fBa kk op ba = (ba + 1) % 256 := by simp only [fBa, b7, b4, cond_true, cond_false]
       rw [hX] at lp hlen2 ⊢
       rw [hO, hB]
       replace lp := lp op ((ba + 1) % 256)
       generalize inF f ss i _ (fN kk) q (fN kk) = q2 at *
       have pk2 := gPk q2
       obtain ⟨sq, id, tm, fba, pc⟩ := f
       simp only [Fl.l, hI67, hD67, xB, sB, lB] at lp ⊢
       dsimp only [T67] at *
       simp (maxSteps := 400000) only [go_sem, c1, c2, v1, v2, v3, v4, v5, v6, v7, v8, pk, minI, hj, c3, c4, hr, u1, u2, u3, u4, u5, u6, u7, u8, u9, u10, u11, u12, u13, hmn, b7, b4, Nat.add_zero, simprocAttr]
       refine lp _ _ _ _ ?_ ?_ (fun e' k g1 g2 g5 g6 g7 g8 g9 => ?_)
       · simp (maxSteps := 400000) only [go_sem, pk, AV.bel, belL, nblt, AV.ren, renL, simprocAttr]
       · simp (maxSteps := 400000) only [go_sem, pk, hLb, hLr, AV.bel, belL, nblt, Blk.ren, AV.ren, renL, simprocAttr]
       · simp (maxSteps := 400000) only [go_sem, g1, g2, g5, g6, g7, g8, g9, hw, hsk, pk2, hLb, hLr, AV.bel, belL, nblt, Blk.ren, AV.ren, renL, simprocAttr]
         exact hlt
     cases b5 : (kk % 8 == 4)
     rotate_left
     · cases bo : (op == 0)
       · have hX : fSh f i kk op ba = ⟨false, false, false, false, (f.id + (i : Int)) % 32768, ba, min op (1 + kk / 8 % 3), 0⟩ := by simp only [fSh, fBa, fTe, fSy, b7, b4, b5, bo, cond_true, cond_false, Bool.not_true]
         have hO : fOp kk op = op := by simp only [fOp, b7, b4, b5, cond_true, cond_false]
         have hB : fBa kk op ba = ba := by simp only [fBa, b7, b4, b5, bo, cond_true, cond_false]
         rw [hX] at lp hlen2 ⊢
         rw [hO, hB]
         replace lp := lp op ba
         generalize inF f ss i _ (fN kk) q (fN kk) = q2 at *
         have pk2 := gPk q2
         obtain ⟨sq, id, tm, fba, pc⟩ := f
         simp only [Fl.l, hI67, hD67, xB, sB, lB] at lp ⊢
         dsimp only [T67] at *
         simp (maxSteps := 400000) only [go_sem, c1, c2, v1, v2, v3, v4, v5, v6, v7, v8, pk, minI, hj, c3, c4, hr, u1, u2, u3, u4, u5, u6, u7, u8, u9, u10, u11, u12, u13, hmn, b7, b4, b5, bo, Nat.add_zero, simprocAttr]
         refine lp _ _ _ _ ?_ ?_ (fun e' k g1 g2 g5 g6 g7 g8 g9 => ?_)
         · simp (maxSteps := 400000) only [go_sem, pk, AV.bel, belL, nblt, AV.ren, renL, simprocAttr]
         · simp (maxSteps := 400000) only [go_sem, pk, hLb, hLr, AV.bel, belL, nblt, Blk.ren, AV.ren, renL, simprocAttr]
         · simp (maxSteps := 400000) only [go_sem, g1, g2, g5, g6, g7, g8, g9, hw, hsk, pk2, hLb, hLr, AV.bel, belL, nblt, Blk.ren, AV.ren, renL, simprocAttr]
           exact hlt
       · have hX : fSh f i kk op ba = ⟨false, false, false, false, (f.id + (i : Int)) % 32768, (ba + 1) % 256, min op (1 + kk / 8 % 3), 0⟩ := by simp only [fSh, fBa, fTe, fSy, b7, b4, b5, bo, cond_true, cond_false, Bool.not_true]
         have hO : fOp kk op = op := by simp only [fOp, b7, b4, b5, cond_true, cond_false]
         have hB : fBa kk op ba = (ba + 1) % 256 := by simp only [fBa, b7, b4, b5, bo, cond_true, cond_false]
         rw [hX] at lp hlen2 ⊢
         rw [hO, hB]
         replace lp := lp op ((ba + 1) % 256)
         generalize inF f ss i _ (fN kk) q (fN kk) = q2 at *
         have pk2 := gPk q2
         obtain ⟨sq, id, tm, fba, pc⟩ := f
         simp only [Fl.l, hI67, hD67, xB, sB, lB] at lp ⊢
         dsimp only [T67] at *
         simp (maxSteps := 400000) only [go_sem, c1, c2, v1, v2, v3, v4, v5, v6, v7, v8, pk, minI, hj, c3, c4, hr, u1, u2, u3, u4, u5, u6, u7, u8, u9, u10, u11, u12, u13, hmn, b7, b4, b5, bo, Nat.add_zero, simprocAttr]
         refine lp _ _ _ _ ?_ ?_ (fun e' k g1 g2 g5 g6 g7 g8 g9 => ?_)
         · simp (maxSteps := 400000) only [go_sem, pk, AV.bel, belL, nblt, AV.ren, renL, simprocAttr]
         · simp (maxSteps := 400000) only [go_sem, pk, hLb, hLr, AV.bel, belL, nblt, Blk.ren, AV.ren, renL, simprocAttr]
         · simp (maxSteps := 400000) only [go_sem, g1, g2, g5, g6, g7, g8, g9, hw, hsk, pk2, hLb, hLr, AV.bel, belL, nblt, Blk.ren, AV.ren, renL, simprocAttr]
           exact hlt
     · have hX : fSh f i kk op ba = ⟨false, false, true, false, (f.id + (i : Int)) % 32768, ba, min (op + 1) (1 + kk / 8 % 3), 0⟩ := by simp only [fSh, fBa, fTe, fSy, b7, b4, b5, cond_true, cond_false, Bool.not_false]
       have hO : fOp kk op = min (op + 1) (1 + kk / 8 % 3) := by simp only [fOp, b7, b4, b5, cond_true, cond_false]
       have hB : fBa kk op ba = ba := by simp only [fBa, b7, b4, b5, cond_true, cond_false]
       rw [hX] at lp hlen2 ⊢
       rw [hO, hB]
       replace lp := lp (min (op + 1) (1 + kk / 8 % 3)) ba
       generalize inF f ss i _ (fN kk) q (fN kk) = q2 at *
       have pk2 := gPk q2
       obtain ⟨sq, id, tm, fba, pc⟩ := f
       simp only [Fl.l, hI67, hD67, xB, sB, lB] at lp ⊢
       dsimp only [T67] at *
       simp (maxSteps := 400000) only [go_sem, c1, c2, v1, v2, v3, v4, v5, v6, v7, v8, pk, minI, hj, c3, c4, hr, u1, u2, u3, u4, u5, u6, u7, u8, u9, u10, u11, u12, u13, hmn, b7, b4, b5, Nat.add_zero, simprocAttr]
       refine lp _ _ _ _ ?_ ?_ (fun e' k g1 g2 g5 g6 g7 g8 g9 => ?_)
       · simp (maxSteps := 400000) only [go_sem, pk, AV.bel, belL, nblt, AV.ren, renL, simprocAttr]
       · simp (maxSteps := 400000) only [go_sem, pk, hLb, hLr, AV.bel, belL, nblt, Blk.ren, AV.ren, renL, simprocAttr]
       · simp (maxSteps := 400000) only [go_sem, g1, g2, g5, g6, g7, g8, g9, hw, hsk, pk2, hLb, hLr, AV.bel, belL, nblt, Blk.ren, AV.ren, renL, simprocAttr]
         exact hlt
 · obtain rfl : i = M := by omega
   have hno : ¬ (i ≤ f.pc.length ∧ i < 24) := fun hh => hlt ((hMM i).2 hh)
   generalize fSt f ss i = s at *
   obtain ⟨op, ba, q⟩ := s
   have pk := gPk q
   obtain ⟨sq, id, tm, fba, pc⟩ := f
   simp only [Fl.l, hD67] at hK ⊢
   dsimp only [T67] at *
   by_cases h1 : i ≤ pc.length
   · have c1 : decide ((i : Int) ≤ (pc.length : Int)) = true := decide_eq_true (by omega)
     have c2 : decide ((i : Int) < 24) = false := decide_eq_false (by omega)
     simp (maxSteps := 400000) only [go_sem, c1, c2, pk, simprocAttr]
     exact hK _ rfl
   · have c1 : decide ((i : Int) ≤ (pc.length : Int)) = false := decide_eq_false (by omega)
     simp (maxSteps := 400000) only [go_sem, c1, pk, simprocAttr]
     exact hK _ rfl
end Go.Proofs.Lys
end
