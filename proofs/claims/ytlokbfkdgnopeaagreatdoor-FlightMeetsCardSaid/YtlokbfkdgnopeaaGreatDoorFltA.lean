/- Texts laid as one: FltS FltSnd FltSort FltGot. -/
import Derived.Test.YtlokbfkdgnopeaaGreatDoorAbFzs
import Derived.Test.YtlokbfkdgnopeaaGreatDoorAbRfs
import Derived.Test.YtlokbfkdgnopeaaGreatDoorAbShelf
import Derived.Shelf.SlSortCmp.WholeK
section
/- What the functions of chapter 19 compute, told plainly. -/
namespace Go.Proofs.Flt
open Go.Ab
set_option linter.unusedSimpArgs false
set_option linter.unusedVariables false
def inW (n most : Int) : Bool := decide (0 ≤ n) && decide (n ≤ most)
theorem inW_t {n m : Int} (h : inW n m = true) : 0 ≤ n ∧ n ≤ m := by simpa [inW] using h
theorem inW_of {n m : Int} (h : 0 ≤ n ∧ n ≤ m) : inW n m = true := by simpa [inW] using h
structure Nt where
 kd : Int
 sq : Int
 bd : List UInt8
def Nt.l (x : Nt) : List AV := [.i .i64 x.kd, .i .i64 x.sq, .s x.bd]
theorem Nt.len (x : Nt) : x.l.length = 3 := rfl
theorem Nt.bel (x : Nt) : belL 0 x.l = true := rfl
theorem Nt.one (x : Nt) : oneAll x.l = true := rfl
structure Pc where
 kd : Int
 ln : Int
 sq : Int
 ofs : Int
 pt : List UInt8
def Pc.l (x : Pc) : List AV := [.i .i64 x.kd, .i .i64 x.ln, .i .i64 x.sq, .i .i64 x.ofs, .s x.pt]
theorem Pc.len (x : Pc) : x.l.length = 5 := rfl
theorem Pc.bel (x : Pc) : belL 0 x.l = true := rfl
def zPc : Pc := ⟨0, 0, 0, 0, []⟩
structure Hf where
 kd : Int
 ln : Int
 sq : Int
 bd : List UInt8
 got : List (Int × Int)
def gp (x : Int × Int) : List AV := [.i .i64 x.1, .i .i64 x.2]
theorem gp_len (x : Int × Int) : (gp x).length = 2 := rfl
theorem gp_bel (x : Int × Int) : belL 0 (gp x) = true := rfl
theorem gp_one (x : Int × Int) : oneAll (gp x) = true := rfl
def Hf.l (h : Hf) : List AV := [.i .i64 h.kd, .i .i64 h.ln, .i .i64 h.sq, .s h.bd, .fz (rows gp h.got) h.got.length]
theorem Hf.len (x : Hf) : x.l.length = 5 := rfl
theorem Hf.bel (x : Hf) : belL 0 x.l = true := by simp only [Hf.l, belL, AV.bel, rows_bel gp_bel, Bool.and_self]
structure Jn where
 nx : Int
 hs : List Hf
def Jn.a (j : Jn) : List AV := [.i .i64 j.nx, .fz (rows Hf.l j.hs) j.hs.length]
theorem Jn.bel (j : Jn) : belL 0 j.a = true := by simp only [Jn.a, belL, AV.bel, rows_bel Hf.bel, Bool.and_self]
def zJn : Jn := ⟨0, []⟩
structure Tm where
 ti : Int
 wa : Int
 tr : Int
def Tm.l (t : Tm) : List AV := [.i .i64 t.ti, .i .i64 t.wa, .i .i64 t.tr]
def zTm : Tm := ⟨0, 0, 0⟩
/-! messages and pieces -/
def noteB (n : Nt) : Bool := inW n.kd 255 && (inW n.sq 65535 && decide (n.bd.length ≤ 4000))
def fld (n : Nat) : Nat → List UInt8
 | 0 => []
 | k + 1 => fld (n / 256) k ++ [UInt8.ofNat n]
def pcO (p : Pc) : List UInt8 := fld p.kd.toNat 1 ++ fld p.ln.toNat 3 ++ fld p.sq.toNat 2 ++ fld p.ofs.toNat 3 ++ fld p.pt.length 3 ++ p.pt
def cutN (n size : Nat) : Nat := if n = 0 then 1 else (n + size - 1) / size
def cutP (n : Nt) (size k : Nat) : Pc := ⟨n.kd, n.bd.length, n.sq, (k * size : Nat), (n.bd.drop (k * size)).take size⟩
def cutL (n : Nt) (size : Nat) : List (List UInt8) := mapN (fun k => pcO (cutP n size k)) (cutN n.bd.length size)
def cutS (n : Nt) (size : Int) : List (List UInt8) × Int :=
 bif noteB n then (bif inW (size - 1) 1099 then (cutL n size.toNat, 0) else ([], 2)) else ([], 190)
def num (l : List UInt8) : Int := l.foldl (fun n b => n * 256 + (b.toNat : Int)) 0
def partS (s : List UInt8) (a b : Nat) : Int := num ((s.drop a).take (b - a))
def readP (s : List UInt8) : Pc := ⟨partS s 0 1, partS s 1 4, partS s 4 6, partS s 6 9, s.drop 12⟩
def wholeB (p : Pc) : Bool := decide (p.ln ≤ 4000) && (decide (p.pt.length ≤ 1100) && (decide (p.ofs + p.pt.length ≤ p.ln) && ((p.pt.length == 0) == (p.ln == 0))))
def readS (s : List UInt8) : Pc × Int :=
 if s.length > 1200 then (zPc, 3)
 else if s.length < 12 then (zPc, 7)
 else if (s.length : Int) - 12 < partS s 9 12 then (zPc, 7)
 else if (s.length : Int) - 12 ≠ partS s 9 12 then (zPc, 5)
 else if wholeB (readP s) then (readP s, 0) else (zPc, 5)
/-! joiners -/
def doneB (h : Hf) : Bool := (h.ln == 0) || match h.got with
 | [x] => (x.1 == 0) && (x.2 == h.ln)
 | _ => false
def gotB (ln : Int) : Option Int → List (Int × Int) → Bool
 | _, [] => true
 | b, x :: r => decide (0 ≤ x.1) && (decide (x.1 < x.2) && (decide (x.2 ≤ ln) && ((match b with | some e => decide (x.1 > e) | none => true) && gotB ln (some x.2) r)))
def zer (l : List UInt8) : Bool := l.all (· == 0)
def gapB (bd : List UInt8) (ln : Int) : Int → List (Int × Int) → Bool
 | a, [] => zer ((bd.drop a.toNat).take (ln - a).toNat)
 | a, x :: r => zer ((bd.drop a.toNat).take (x.1 - a).toNat) && gapB bd ln x.2 r
def halfB (h : Hf) : Bool := inW h.kd 255 && (inW h.ln 4000 && (((h.bd.length : Int) == h.ln) && (((h.got.length == 0) == (h.ln == 0)) && (gotB h.ln none h.got && gapB h.bd h.ln 0 h.got))))
def hsB (nx : Int) : Option Int → List Hf → Bool
 | _, [] => true
 | b, h :: r => decide (nx ≤ h.sq) && (decide (h.sq < min (nx + 4) 65536) && ((match b with | some e => decide (h.sq > e) | none => true) && (halfB h && ((decide (h.sq > nx) || !doneB h) && hsB nx (some h.sq) r))))
def jnB (j : Jn) : Bool := inW j.nx 65536 && hsB j.nx none j.hs
def agreeB (h : Hf) (p : Pc) (r : Int × Int) : Bool :=
 let a := max r.1 p.ofs
 let b := min r.2 (p.ofs + p.pt.length)
 decide (a ≥ b) || ((h.bd.drop a.toNat).take (b - a).toNat == (p.pt.drop (a - p.ofs).toNat).take (b - a).toNat)
def meetB (r x : Int × Int) : Bool := !(decide (x.2 < r.1) || decide (x.1 > r.2))
def grow1 (s : List (Int × Int) × (Int × Int)) (x : Int × Int) : List (Int × Int) × (Int × Int) :=
 bif meetB s.2 x then (s.1, (min s.2.1 x.1, max s.2.2 x.2)) else (s.1 ++ [x], s.2)
def putG (r : Int × Int) : List (Int × Int) → List (Int × Int)
 | [] => [r]
 | x :: l => bif decide (r.1 < x.1) then r :: x :: l else x :: putG r l
def gotS (got : List (Int × Int)) (r : Int × Int) : List (Int × Int) :=
 let s := got.foldl grow1 ([], r)
 putG s.2 s.1
def fillS (h : Hf) (p : Pc) : Option Hf :=
 bif (h.kd == p.kd) && ((h.ln == p.ln) && h.got.all (agreeB h p)) then
  let bd := h.bd.take p.ofs.toNat ++ p.pt ++ h.bd.drop (p.ofs.toNat + p.pt.length)
  some ⟨h.kd, h.ln, h.sq, bd, if p.pt = [] then h.got else gotS h.got (p.ofs, p.ofs + p.pt.length)⟩
 else none
def giveS : Int → List Hf → Jn × List Nt
 | nx, [] => (⟨nx, []⟩, [])
 | nx, h :: r => bif (h.sq == nx) && doneB h then let g := giveS (nx + 1) r; (g.1, ⟨h.kd, h.sq, h.bd⟩ :: g.2) else (⟨nx, h :: r⟩, [])
def newH (p : Pc) : Hf := ⟨p.kd, p.ln, p.sq, List.replicate p.ln.toNat 0, []⟩
def putH (p : Pc) : List Hf → Option (List Hf)
 | [] => (fillS (newH p) p).map fun h => [h]
 | h :: r => if h.sq < p.sq then (putH p r).map (h :: ·) else if h.sq = p.sq then (fillS h p).map (· :: r) else (fillS (newH p) p).map (· :: h :: r)
def takeS (j : Jn) (s : List UInt8) : Jn × List Nt × Int :=
 if jnB j then
  if (readS s).2 = 0 then
   let p := (readS s).1
   if p.sq < j.nx then (j, [], 0)
   else if p.sq ≥ j.nx + 4 then (zJn, [], 3)
   else match putH p j.hs with
    | none => (zJn, [], 5)
    | some hs => ((giveS j.nx hs).1, (giveS j.nx hs).2, 0)
  else (zJn, [], (readS s).2)
 else (zJn, [], 191)
/-! timers -/
def waitS (t : Int) : Int := if t ≤ 1 then 400 else if t = 2 then 800 else if t = 3 then 1600 else if t = 4 then 3200 else 6400
def tmB (t : Tm) : Bool := ((t.ti == -1) && ((t.wa == 0) && (t.tr == 0))) || (decide (0 ≤ t.ti) && (decide (1 ≤ t.tr) && (decide (t.tr ≤ 8) && (t.wa == waitS t.tr))))
def startS (now : Int) : Tm × Int := bif inW now 1099511627776 then (⟨now + 400, 400, 1⟩, 0) else (zTm, 2)
def dueT (t : Tm) (now : Int) : Bool × Int := bif tmB t then (bif inW now 1099511627776 then (inW t.ti now, 0) else (false, 2)) else (false, 192)
def againS (t : Tm) (now : Int) : Tm × Int :=
 bif (dueT t now).2 == 0 then (bif (dueT t now).1 then (bif t.tr == 8 then (zTm, 4) else (⟨now + waitS (t.tr + 1), waitS (t.tr + 1), t.tr + 1⟩, 0)) else (zTm, 8)) else (zTm, (dueT t now).2)
end Go.Proofs.Flt
end
section
/- The contract of flight's sound over frozen slices: does a function say of all elements, with those before them, that they are right? -/
namespace Go.Proofs.Flt
open Go.Ab
set_option maxRecDepth 100000
set_option maxHeartbeats 4000000
set_option linter.unusedSimpArgs false
set_option linter.unusedVariables false
abbrev snr0 : List IOper := [
 oo 4 (.mv (.c (.b false)))]
abbrev snr1 : List IOper := [
 oo 7 (.mv (.t 0)),
 oo 8 (.lenV (.t 7)),
 oo 9 (.mv (.c (.i .i64 0)))]
abbrev snr2 : List IOper := [
 ot 10 (.bin .lss (.t 9) (.t 8))]
abbrev snr3 : List IOper := [
 oo 11 (.mv (.t 9)),
 oo 5 (.mv (.t 11))]
abbrev snr4 : List IOper := [
 oo 6 (.mv (.c (.np)))]
abbrev snr5 : List IOper := [
 oo 12 (.mv (.t 5)),
 ot 13 (.bin .gtr (.t 12) (.c (.i .i64 0)))]
abbrev snr6 (z : Nat) : List IOper := [
 oo 14 (.mv (.t 0)),
 oo 15 (.mv (.t 5)),
 oo 16 (.bin .sub (.t 15) (.c (.i .i64 1))),
 oo 17 (.ixaV z (.t 14) (.t 16)),
 oo 6 (.mv (.t 17))]
abbrev snr7 (z : Nat) : List IOper := [
 oo 18 (.mv (.t 1)),
 oo 19 (.mv (.t 6)),
 oo 20 (.mv (.t 0)),
 oo 21 (.mv (.t 5)),
 oo 22 (.ixaV z (.t 20) (.t 21)),
 oo 23 (.ld true z (.t 22)),
 oo 24 (.call (.t 18) [.t 19, .t 23]),
 ot 25 (.not (.t 24))]
abbrev snr8 : List IOper := [
 oo 4 (.mv (.c (.b false)))]
abbrev snr9 : List IOper := [
 oo 26 (.bin .add (.t 9) (.c (.i .i64 1))),
 oo 9 (.mv (.t 26))]
abbrev snl10 (z : Nat) : ICode := (.seq (.reg snr2) (.seq (.cond (.t 10) .skip (.exit 0)) (.seq (.block 1 (.seq (.reg snr3) (.seq (.reg snr4) (.seq (.seq (.reg snr5) (.cond (.t 13) (.reg (snr6 z)) .skip)) (.seq (.reg (snr7 z)) (.cond (.t 25) (.seq (.reg snr8) .ret) .skip)))))) (.reg snr9))))
abbrev snr11 : List IOper := [
 oo 4 (.mv (.c (.b true)))]
abbrev snc (z : Nat) : ICode := (.seq (.reg snr0) (.seq (.seq (.reg snr1) (.block 0 (.loop (snl10 z)))) (.seq (.reg snr11) .ret)))
def sndI (z : Nat) : IFn := { np := 2, N := 27, ct := [10, 13, 25], code := (snc z), res := [.t 4] }
def sndB {α : Type} (is : Option α → α → Bool) : Option α → List α → Bool
 | _, [] => true
 | b, x :: r => is b x && sndB is (some x) r
def prv {α : Type} (l : List α) (k : Nat) : Option α := if k = 0 then none else l[k - 1]?
def bef (z : Nat) (L : List AV) (k : Nat) : AV := if k = 0 then .np else .fp L ((k - 1) * z)
theorem prv_s {α : Type} {l : List α} {k : Nat} {x : α} (h : l[k]? = some x) : prv l (k + 1) = some x := by
 rw [prv, if_neg (by omega), Nat.add_sub_cancel, h]
theorem snd_drop {α : Type} {is : Option α → α → Bool} {l : List α} {k : Nat} {x : α} (h : l[k]? = some x) : sndB is (prv l k) (l.drop k) = (is (prv l k) x && sndB is (prv l (k + 1)) (l.drop (k + 1))) := by
 have hlt := (List.getElem?_eq_some_iff.1 h).1
 rw [List.drop_eq_getElem_cons hlt, sndB, prv_s h]
 rw [List.getElem?_eq_getElem hlt] at h
 rw [Option.some.inj h]
section
variable {P : Program} {α : Type} {row : α → List AV} {is : Option α → α → Bool} {g : FuncId} {caps : List AV} {z : Nat}
theorem snd_fz {f : FuncId} {fn : Func} (hm : P.follows .mixedOrders = true) (hf : P.funcs[f]? = some fn) (hI : compF P fn = some (sndI z)) (hg : callable P g = true) (hlen : ∀ a, (row a).length = z) (hbel : ∀ a, belL 0 (row a) = true) (hcaps : belL 0 caps = true)
 (l : List α) (hl : l.length ≤ 9223372036854775807) (hF : ∀ k x, l[k]? = some x → FTL P g (bef z (rows row l) k :: .agg (row x) :: caps) [] 0 (.b (is (prv l k) x)) [] 0) :
 FTL P f [.fz (rows row l) l.length, .fn g caps] [] 0 (.b (sndB is none l)) [] 0 := by
 refine FTL.of_iw (cx := cxT []) Sound.nil hm hf hI (by simp [sndI]) (iw_of_jw ?_)
 dsimp only [sndI]
 generalize hR : sndB is none l = R
 have hR0 : sndB is (prv l 0) (l.drop 0) = R := hR
 have hLb : ∀ j, belL j (rows row l) = true := fun j => belL_mono0 _ (rows_bel hbel)
 have hLr : ∀ ψ, renL ψ (rows row l) = rows row l := fun ψ => renL_fix0 _ (rows_bel hbel)
 have hcr : ∀ ψ, renL ψ caps = caps := fun ψ => renL_fix0 _ hcaps
 have hcb : ∀ j, belL j caps = true := fun j => belL_mono0 _ hcaps
 have hL : ∀ (k : Nat) x, l[k]? = some x → List.take z (List.drop (k * z) (rows row l)) = row x := fun k x hk => rows_at hlen hk
 have hbb : ∀ k, (bef z (rows row l) k).bel 0 = true := fun k => by
  unfold bef
  split
  · rfl
  · simp only [AV.bel, hLb]
 generalize hLL : rows row l = L at *
 simp (maxSteps := 400000) only [go_sem, simprocAttr]
 refine Loop.stepX (F := ⟨P, cxT [], [10, 13, 25], 27, 0⟩) hm (X := Nat) (fun k => k ≤ l.length ∧ sndB is (prv l k) (l.drop k) = R) (fun k => l.length - k)
  (fun k => [(0, .fz L l.length), (1, .fn g caps), (8, .i .i64 (l.length : Int)), (9, .i .i64 (k : Int))]) (fun k => []) 0 0 (fun k => k + 1) [] (fun _ => []) (Nat.le_refl 0) rfl (fun _ => rfl) ⟨Nat.zero_le _, hR0⟩ ?_ trivial (fun k hk => ?_)
 · simp (maxSteps := 400000) only [go_sem, AV.ren, renL, AV.bel, belL, nblt, hLb, hLr, hcr, hcb, simprocAttr]
 obtain ⟨hkl, hk⟩ := hk
 by_cases hlt : k < l.length
 · obtain ⟨x, hx⟩ : ∃ x, l[k]? = some x := ⟨_, List.getElem?_eq_getElem hlt⟩
   have hr := hL k x hx
   have c1 : decide ((k : Int) < (l.length : Int)) = true := decide_eq_true (by omega)
   have c2 : decide (0 ≤ (k : Int) ∧ (k : Int) < (l.length : Int)) = true := decide_eq_true (by omega)
   have w1 : IntKind.i64.wrap ((k : Int) + 1) = ((k + 1 : Nat) : Int) := by rw [wrapL (by omega) (by omega)]; omega
   have hsk : l.length - (k + 1) < l.length - k := by omega
   have hdr := snd_drop (is := is) hx
   rw [hdr] at hk
   have hc : CallOK P g (bef z L k :: .agg (row x) :: caps) [] 0 { v := .b (is (prv l k) x), n := 0 } := CallOK.pure hg (by simp only [belL, hbb, AV.bel, hbel, hcaps, Bool.and_self]) rfl (hF k x hx) _ _
   have hz := hlen x
   have hbx : ∀ j, belL j (row x) = true := fun j => belL_mono0 _ (hbel x)
   have hk1 : k + 1 ≤ l.length := hlt
   refine ⟨_, cx1_sound hc, ?_⟩
   cases hi : is (prv l k) x
   · rw [hi, Bool.false_and] at hk
     subst hk
     by_cases hk0 : k = 0
     · subst hk0
       have e : bef z L 0 = .np := rfl
       have c3 : decide (((0 : Nat) : Int) > 0) = false := rfl
       have c1z : decide ((0 : Int) < (l.length : Int)) = true := c1
       rw [e]
       simp (maxSteps := 400000) only [go_sem, cx1_at, c1, c1z, c2, w1, hr, c3, hz, hi, simprocAttr]
       exact Ends.pureE rfl rfl
     · have e : bef z L k = .fp L ((k - 1) * z) := if_neg hk0
       have c3 : decide ((k : Int) > 0) = true := decide_eq_true (by omega)
       have w2 : IntKind.i64.wrap ((k : Int) - 1) = ((k - 1 : Nat) : Int) := by rw [wrapL (by omega) (by omega)]; omega
       have c4 : decide (0 ≤ ((k - 1 : Nat) : Int) ∧ ((k - 1 : Nat) : Int) < (l.length : Int)) = true := decide_eq_true (by omega)
       rw [e]
       simp (maxSteps := 400000) only [go_sem, cx1_at, c1, c2, c3, c4, w1, w2, hr, hz, hi, simprocAttr]
       exact Ends.pureE rfl rfl
   · rw [hi, Bool.true_and] at hk
     by_cases hk0 : k = 0
     · subst hk0
       have e : bef z L 0 = .np := rfl
       have c3 : decide (((0 : Nat) : Int) > 0) = false := rfl
       have c1z : decide ((0 : Int) < (l.length : Int)) = true := c1
       rw [e]
       simp (maxSteps := 400000) only [go_sem, cx1_at, c1, c1z, c2, w1, hr, c3, hz, hi, hk, hsk, hk1, AV.ren, renL, AV.bel, belL, nblt, hLb, hLr, hcr, hcb, simprocAttr]
       omega
     · have e : bef z L k = .fp L ((k - 1) * z) := if_neg hk0
       have c3 : decide ((k : Int) > 0) = true := decide_eq_true (by omega)
       have w2 : IntKind.i64.wrap ((k : Int) - 1) = ((k - 1 : Nat) : Int) := by rw [wrapL (by omega) (by omega)]; omega
       have c4 : decide (0 ≤ ((k - 1 : Nat) : Int) ∧ ((k - 1 : Nat) : Int) < (l.length : Int)) = true := decide_eq_true (by omega)
       rw [e]
       simp (maxSteps := 400000) only [go_sem, cx1_at, c1, c2, c3, c4, w1, w2, hr, hz, hi, hk, hsk, hk1, AV.ren, renL, AV.bel, belL, nblt, hLb, hLr, hcr, hcb, simprocAttr]
 · have c1 : decide ((k : Int) < (l.length : Int)) = false := decide_eq_false (by omega)
   obtain rfl : k = l.length := by omega
   rw [List.drop_length] at hk
   have hk : R = true := hk.symm
   subst hk
   refine ⟨_, Sound.nil, ?_⟩
   simp (maxSteps := 400000) only [go_sem, c1, simprocAttr]
   exact Ends.pureE rfl rfl
end
end Go.Proofs.Flt
end
section
/- The contract of slices.SortFunc over ranges, in the layer's words: the row's block is written, blocks are laid, nothing else. -/
namespace Go.Proofs.Flt
open Go Go.Shelf Go.RowKit Go.Lib Go.Sort Go.Ab
set_option linter.unusedSimpArgs false
set_option linter.unusedVariables false
def encP (x : Int × Int) : List Value := [.int .i64 x.1, .int .i64 x.2]
theorem Stp.stays {D : Nat → Prop} {φ : Phi} {H : Go.Ab.Hf} {w w' : World} (hH : HR D φ H w) (hos : w'.os = w.os) (ht : w'.tape = w.tape) (ho : w'.output = w.output) (hsz : w.heap.size ≤ w'.heap.size) (hst : ∀ c, c < w.heap.size → w'.heap[c]? = w.heap[c]?) : Stp D φ H w D φ H w' :=
 Stp.mk' hH rfl rfl (fun _ h => h) (Agree.refl D φ).at_ ⟨fun b k hb => ⟨(hH.at_ b k hb).1, (hH.at_ b k hb).2.mono (fun _ h => h) (Agree.refl _ _) (hH.at_ b k hb).1 (hst _ (hH.at_ b k hb).2.lt)⟩, hH.sep⟩
  ⟨hos, ht, ho, hsz, fun c hc _ => hst c hc⟩ (fun b k hb hk => .inr ⟨b, k, hb, hk, rfl⟩)
theorem modify_cells {h : Array Obj} {B : Nat} {cs : Array Value} {elem : TypeId} {fr : Nat × Nat} {f : Array Value → Array Value} (hk : h[B]? = some (.cells cs elem fr)) : h.modify B (onCells f) = h.setIfInBounds B (.cells (f cs) elem fr) := by
 apply Array.ext_getElem?
 intro c
 have hB : B < h.size := by
  rcases Nat.lt_or_ge B h.size with h' | h'
  · exact h'
  · rw [Array.getElem?_eq_none h'] at hk; cases hk
 rw [Array.getElem?_modify, Array.getElem?_setIfInBounds]
 by_cases hc : B = c
 · subst hc
   rw [if_pos rfl, if_pos rfl, if_pos hB, hk]
   rfl
 · rw [if_neg hc, if_neg hc]
theorem enc_at {D : Nat → Prop} {φ : Phi} {l : List (Int × Int)} {t : Nat} {u : Value} {v : AV} (ht : t < l.length * 2) (hv : (rows gp l)[t]? = some v) (hu : VRel D φ v u) : u = (encP l.toArray[t / 2]!)[t % 2]! := by
 have hk : t / 2 < l.length := by omega
 have hg : l[t / 2]? = some l[t / 2] := by simp [hk]
 have he : l.toArray[t / 2]! = l[t / 2] := by simp [hk]
 rw [he]
 rcases Nat.mod_two_eq_zero_or_one t with h | h
 · have := rows_get gp_len (j := 0) (v := .i .i64 l[t / 2].1) hg rfl
   rw [show t / 2 * 2 + 0 = t by omega, hv] at this
   cases this
   cases hu
   rw [h]; rfl
 · have := rows_get gp_len (j := 1) (v := .i .i64 l[t / 2].2) hg rfl
   rw [show t / 2 * 2 + 1 = t by omega, hv] at this
   cases this
   cases hu
   rw [h]; rfl
theorem enc_to (D : Nat → Prop) (φ : Phi) {l : List (Int × Int)} {t : Nat} {v : AV} (hv : (rows gp l)[t]? = some v) : VRel D φ v (encP l.toArray[t / 2]!)[t % 2]! := by
 have ht : t < l.length * 2 := by
  rcases Nat.lt_or_ge t (rows gp l).length with h | h
  · rwa [rows_len gp_len] at h
  · rw [List.getElem?_eq_none h] at hv; cases hv
 have hk : t / 2 < l.length := by omega
 have hg : l[t / 2]? = some l[t / 2] := by simp [hk]
 have he : l.toArray[t / 2]! = l[t / 2] := by simp [hk]
 rw [he]
 rcases Nat.mod_two_eq_zero_or_one t with h | h
 · have := rows_get gp_len (j := 0) (v := .i .i64 l[t / 2].1) hg rfl
   rw [show t / 2 * 2 + 0 = t by omega, hv] at this
   cases this
   rw [h]; exact .i _ _
 · have := rows_get gp_len (j := 1) (v := .i .i64 l[t / 2].2) hg rfl
   rw [show t / 2 * 2 + 1 = t by omega, hv] at this
   cases this
   rw [h]; exact .i _ _
def Srt (l : List (Int × Int)) : Prop := l.Pairwise fun x y => x.1 ≤ y.1
theorem srt_ok {P : Program} {f g : FuncId} {lt : Int × Int → Int × Int → Bool} (hlt : ∀ x y, lt x y = decide (x.1 < y.1))
 (hC : ∀ (blk off cap : Nat) (d : Array (Int × Int)) (w : World), HoldsK encP 2 w blk off d → blk < w.heap.size → d.size < 4611686018427387904 → Calls P f #[.slice (some ⟨blk, off, none⟩) d.size cap, .func (.func g) #[] #[]] w fun e w' =>
   e = .returned (.tuple #[]) ∧ ∃ d' n os, PermIn 0 d.size d d' ∧ SortedIn lt 0 d.size d' ∧ w' = sortWorldK encP 2 w blk off n d' os)
 (he : ext P f = false) (hy : f ≠ YB) {l L : List (Int × Int)} (hsz : l.length < 4611686018427387904) (hL : ∀ m, m.Perm l → Srt m → m = L) :
 FTL P f [.sg 0 0 l.length, .fn g []] [(0, { cells := rows gp l, gr := some 2 })] 1 (.tup []) [(0, { cells := rows gp L, gr := some 2 })] 1 := by
 intro D φ w us hD hH ha
 obtain ⟨u0, us1, rfl, h0, ha⟩ := ha.uncons
 obtain ⟨u1, us2, rfl, h1, ha⟩ := ha.uncons
 cases ha.unnil
 obtain ⟨hg, mm, rfl, hm⟩ := h1.fn_inv
 cases hm.unnil
 cases h0 with
 | sg _ _ _ j cap h hj hc hl =>
 have hb0 := hH.at_ 0 _ rfl
 obtain ⟨⟨cs, elem, fr, hk, hcs, hfr, hgr⟩, hgid⟩ := hb0.2
 have hB : φ.blk 0 < w.heap.size := hb0.2.lt
 have cell : ∀ t, t < l.length * 2 → cs[φ.off 0 + t]? = some (encP l.toArray[t / 2]!)[t % 2]! := fun t ht => by
  have h2 : t < (rows gp l).length := by rw [rows_len gp_len]; exact ht
  obtain ⟨u, h3, h4⟩ := hcs t (rows gp l)[t] (by simp [h2])
  rw [h3, enc_at ht (by simp [h2]) h4]
 have HH : HoldsK encP 2 w (φ.blk 0) (φ.off 0 + 0) l.toArray := fun t ht => by
  rw [size_flatK, List.size_toArray] at ht
  rw [get_flatK _ _ _ t (by rw [List.size_toArray]; exact ht)]
  have h3 := cell t ht
  have hlt : φ.off 0 + t < cs.size := by
   rcases Nat.lt_or_ge (φ.off 0 + t) cs.size with h' | h'
   · exact h'
   · rw [Array.getElem?_eq_none h'] at h3; cases h3
  refine ⟨?_, ?_⟩
  · simp only [World.cell?, hk, Nat.add_zero, Option.isSome_none, Bool.false_eq_true, if_false, h3]; rfl
  · have := (hfr rfl).2 (φ.off 0 + t) (.inl hlt)
    simp only [World.frozen?, hk, Nat.add_zero]
    simpa using this
 have hcall := hC (φ.blk 0) (φ.off 0 + 0) cap l.toArray w HH hB (by rw [List.size_toArray]; exact hsz)
 rw [List.size_toArray] at hcall
 refine Ans.of (hcall.mono fun e w' hx => ?_) hy he
 obtain ⟨rfl, d', n, os, hp, hs, rfl⟩ := hx
 have hsd : d'.size = l.length := by simpa using hp.1
 have hd : d'.toList = L := hL _ (by
  have := hp.2.2
  rw [Array.extract_eq_self_of_le (by omega), Array.extract_eq_self_of_le (by simp)] at this
  simpa using this) (by
  refine List.pairwise_iff_getElem.2 fun i j hi hj hij => ?_
  have := hs i j (Nat.zero_le _) hij (by simpa [hsd] using hj)
  rw [hlt, getElem!_pos d' i (by simpa using hi), getElem!_pos d' j (by simpa using hj)] at this
  simpa using this)
 have hdL : d' = L.toArray := by rw [← hd]
 subst hdL
 have hLl : L.length = l.length := by simpa using hsd
 refine ⟨D, φ, _, rfl, hD, .tup [] #[] rfl (fun i a u h1 => by simp at h1), ?_⟩
 have s1 : Stp D φ (hget [(0, { cells := rows gp l, gr := some 2 })]) w D φ (fun c => if c = 0 then some { cells := rows gp L, gr := some 2 } else hget [(0, { cells := rows gp l, gr := some 2 })] c) (putRowK encP 2 (Sort.ahead w n) (φ.blk 0) (φ.off 0 + 0) L.toArray) :=
  Stp.write (k := { cells := rows gp l, gr := some 2 }) (xs := rows gp L) (cs' := putCells id (φ.off 0 + 0) (flatK encP 2 L.toArray) cs) hH rfl rfl hk (modify_cells (h := w.heap) hk) rfl rfl rfl (by simp [putCells]) fun i v hv => by
   have hi : i < L.length * 2 := by
    rcases Nat.lt_or_ge i (rows gp L).length with h | h
    · rwa [rows_len gp_len] at h
    · rw [List.getElem?_eq_none h] at hv; cases hv
   refine ⟨_, ?_, enc_to D φ hv⟩
   rw [putCells, Array.getElem?_mapIdx, cell i (by omega), Option.map_some, if_pos ⟨by omega, by rw [size_flatK, List.size_toArray]; omega⟩]
   rw [show φ.off 0 + i - (φ.off 0 + 0) = i by omega, get_flatK _ _ _ i (by rw [List.size_toArray]; exact hi)]
   rfl
 have eH : (fun c => if c = 0 then some { cells := rows gp L, gr := some 2 } else hget [(0, { cells := rows gp l, gr := some 2 })] c) = hget [(0, { cells := rows gp L, gr := some 2 })] := by
  funext c
  by_cases hc : c = 0
  · subst hc; rfl
  · rw [if_neg hc]
    cases c with
    | zero => exact absurd rfl hc
    | succ c => rfl
 rw [eH] at s1
 refine s1.trans (Stp.stays s1.hr rfl rfl rfl (by rw [sortWorldK, size_grow]; exact Nat.le_add_right _ _) fun c hc => ?_)
 rw [sortWorldK, grow, Array.getElem?_append_left hc]
/-! insertion is the only order -/
def isort (l : List (Int × Int)) : List (Int × Int) := l.foldr putG []
def apartB : List (Int × Int) → Bool
 | [] => true
 | x :: r => r.all (fun y => !(x.1 == y.1)) && apartB r
theorem putG_perm (x : Int × Int) : ∀ l : List (Int × Int), (putG x l).Perm (x :: l)
 | [] => .refl _
 | y :: l => by
  rw [putG]
  cases decide (x.1 < y.1)
  · exact ((putG_perm x l).cons y).trans (.swap x y l)
  · exact .refl _
theorem putG_srt (x : Int × Int) : ∀ l : List (Int × Int), Srt l → Srt (putG x l)
 | [], _ => by simp [putG, Srt]
 | y :: l, h => by
  rw [putG]
  unfold Srt at h ⊢
  rw [List.pairwise_cons] at h
  by_cases hx : x.1 < y.1
  · rw [decide_eq_true hx, cond_true, List.pairwise_cons]
    exact ⟨fun z hz => by rcases List.mem_cons.1 hz with rfl | hz; · omega
                          · have := h.1 z hz; omega, List.pairwise_cons.2 h⟩
  · rw [decide_eq_false hx, cond_false, List.pairwise_cons]
    refine ⟨fun z hz => ?_, putG_srt x l h.2⟩
    rcases List.mem_cons.1 ((putG_perm x l).mem_iff.1 hz) with rfl | hz
    · omega
    · exact h.1 z hz
theorem isort_perm : ∀ l : List (Int × Int), (isort l).Perm l
 | [] => .refl _
 | x :: l => (putG_perm x _).trans ((isort_perm l).cons x)
theorem isort_srt : ∀ l : List (Int × Int), Srt (isort l)
 | [] => .nil
 | x :: l => putG_srt x _ (isort_srt l)
theorem apart_eq : ∀ {l : List (Int × Int)}, apartB l = true → ∀ a b, a ∈ l → b ∈ l → a.1 = b.1 → a = b
 | [], _, a, b, ha, _, _ => by cases ha
 | x :: l, h, a, b, ha, hb, he => by
  simp only [apartB, Bool.and_eq_true, List.all_eq_true, Bool.not_eq_true', beq_eq_false_iff_ne] at h
  rcases List.mem_cons.1 ha with h1 | h1 <;> rcases List.mem_cons.1 hb with h2 | h2
  · rw [h1, h2]
  · exact absurd (h1 ▸ he) (h.1 b h2)
  · exact absurd (h2 ▸ he.symm) (h.1 a h1)
  · exact apart_eq h.2 a b h1 h2 he
theorem isort_only {l m : List (Int × Int)} (h : apartB l = true) (hp : m.Perm l) (hs : Srt m) : m = isort l :=
 List.Perm.eq_of_pairwise (le := fun x y : Int × Int => x.1 ≤ y.1) (fun a b ha hb h1 h2 => apart_eq h a b (hp.mem_iff.1 ha) ((isort_perm l).mem_iff.1 hb) (by omega)) hs (isort_srt l) (hp.trans (isort_perm l).symm)
theorem isort_put {l : List (Int × Int)} {x : Int × Int} (h : apartB (l ++ [x]) = true) (hs : Srt l) : isort (l ++ [x]) = putG x l :=
 (isort_only h ((putG_perm x l).trans (List.perm_append_singleton x l).symm) (putG_srt x l hs)).symm
end Go.Proofs.Flt
end
section
/- Ranges: what grows out of ranges that lie apart lies apart. -/
namespace Go.Proofs.Flt
open Go.Ab
structure GI (l : List (Int × Int)) (r : Int × Int) (rest : List (Int × Int)) : Prop where
 ord : l.Pairwise fun x y => x.2 < y.1
 pos : ∀ x ∈ l, x.1 < x.2
 rp : r.1 < r.2
 sep : ∀ x ∈ l, x.2 < r.1 ∨ r.2 < x.1
 beh : ∀ x ∈ l, ∀ y ∈ rest, x.2 < y.1
theorem GI.step {l : List (Int × Int)} {r x : Int × Int} {rest : List (Int × Int)} (h : GI l r (x :: rest)) (hx : x.1 < x.2) (hr : ∀ y ∈ rest, x.2 < y.1) : GI (grow1 (l, r) x).1 (grow1 (l, r) x).2 rest := by
 unfold grow1
 cases hm : meetB r x
 · rw [cond_false]
   have hs : x.2 < r.1 ∨ r.2 < x.1 := by
    have h1 : r.1 ≤ x.2 → r.2 < x.1 := by simpa [meetB] using hm
    omega
   refine ⟨?_, ?_, h.rp, ?_, ?_⟩
   · rw [List.pairwise_append]
     refine ⟨h.ord, List.pairwise_singleton _ _, fun a ha b hb => ?_⟩
     rw [List.mem_singleton] at hb
     subst hb
     exact h.beh a ha b (List.mem_cons_self ..)
   · intro y hy
     rcases List.mem_append.1 hy with hy | hy
     · exact h.pos y hy
     · rw [List.mem_singleton] at hy; subst hy; exact hx
   · intro y hy
     rcases List.mem_append.1 hy with hy | hy
     · exact h.sep y hy
     · rw [List.mem_singleton] at hy; subst hy; exact hs
   · intro y hy z hz
     rcases List.mem_append.1 hy with hy | hy
     · exact h.beh y hy z (List.mem_cons_of_mem _ hz)
     · rw [List.mem_singleton] at hy; subst hy; exact hr z hz
 · rw [cond_true]
   have hs : r.1 ≤ x.2 ∧ x.1 ≤ r.2 := by simpa [meetB] using hm
   have hrp := h.rp
   refine ⟨h.ord, h.pos, ?_, fun y hy => ?_, fun y hy z hz => h.beh y hy z (List.mem_cons_of_mem _ hz)⟩
   · show min r.1 x.1 < max r.2 x.2
     omega
   · have h1 := h.sep y hy
     have h2 := h.beh y hy x (List.mem_cons_self ..)
     have h3 := h.pos y hy
     show y.2 < min r.1 x.1 ∨ max r.2 x.2 < y.1
     omega
theorem GI.fold : ∀ {rest l : List (Int × Int)} {r : Int × Int}, GI l r rest → (rest.Pairwise fun x y => x.2 < y.1) → (∀ x ∈ rest, x.1 < x.2) → GI (rest.foldl grow1 (l, r)).1 (rest.foldl grow1 (l, r)).2 []
 | [], l, r, h, _, _ => h
 | x :: rest, l, r, h, hp, hx => by
  rw [List.pairwise_cons] at hp
  exact GI.fold (rest := rest) (h.step (hx x (List.mem_cons_self ..)) hp.1) hp.2 (fun y hy => hx y (List.mem_cons_of_mem _ hy))
theorem gotB_pos {ln : Int} : ∀ {l : List (Int × Int)} {b : Option Int}, gotB ln b l = true → (l.Pairwise fun x y => x.2 < y.1) ∧ (∀ x ∈ l, x.1 < x.2) ∧ (∀ e, b = some e → ∀ x ∈ l, e < x.1)
 | [], _, _ => ⟨.nil, (fun _ h => by cases h), (fun _ _ _ h => by cases h)⟩
 | y :: l, b, h => by
  simp only [gotB, Bool.and_eq_true, decide_eq_true_eq] at h
  obtain ⟨h1, h2, h3, h4, h5⟩ := h
  obtain ⟨i1, i2, i3⟩ := gotB_pos h5
  refine ⟨List.pairwise_cons.2 ⟨fun z hz => i3 _ rfl z hz, i1⟩, fun z hz => ?_, fun e he z hz => ?_⟩
  · rcases List.mem_cons.1 hz with rfl | hz
    · exact h2
    · exact i2 z hz
  · subst he
    have h4' : e < y.1 := by simpa using h4
    rcases List.mem_cons.1 hz with rfl | hz
    · exact h4'
    · have := i3 _ rfl z hz; omega
theorem apartB_of {l : List (Int × Int)} (h : l.Pairwise fun x y => x.1 ≠ y.1) : apartB l = true := by
 induction l with
 | nil => rfl
 | cons x l ih =>
  rw [List.pairwise_cons] at h
  simp only [apartB, Bool.and_eq_true, List.all_eq_true, Bool.not_eq_true', beq_eq_false_iff_ne]
  exact ⟨h.1, ih h.2⟩
theorem GI.srt {l : List (Int × Int)} {r : Int × Int} (h : GI l r []) : apartB (l ++ [r]) = true ∧ isort (l ++ [r]) = putG r l := by
 have ha : apartB (l ++ [r]) = true := apartB_of (by
  rw [List.pairwise_append]
  refine ⟨?_, List.pairwise_singleton _ _, fun a ha b hb => ?_⟩
  · exact h.ord.imp_of_mem fun {a b} ha hb hab => by have := h.pos a ha; omega
  · rw [List.mem_singleton] at hb
    subst hb
    have h1 := h.sep a ha
    have h2 := h.pos a ha
    have h3 := h.rp
    omega)
 exact ⟨ha, isort_put ha (h.ord.imp_of_mem fun {a b} ha hb hab => by have := h.pos a ha; omega)⟩
theorem got_srt {ln : Int} {got : List (Int × Int)} {r : Int × Int} (hg : gotB ln none got = true) (hr : r.1 < r.2) : apartB ((got.foldl grow1 ([], r)).1 ++ [(got.foldl grow1 ([], r)).2]) = true ∧ isort ((got.foldl grow1 ([], r)).1 ++ [(got.foldl grow1 ([], r)).2]) = putG (got.foldl grow1 ([], r)).2 (got.foldl grow1 ([], r)).1 := by
 obtain ⟨h1, h2, _⟩ := gotB_pos hg
 exact GI.srt (GI.fold ⟨.nil, (fun _ h => by cases h), hr, (fun _ h => by cases h), (fun _ h => by cases h)⟩ h1 h2)
end Go.Proofs.Flt
end
