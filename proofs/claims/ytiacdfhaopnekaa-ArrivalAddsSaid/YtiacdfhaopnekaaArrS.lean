/- Chapter 29, in plain words: points, states, what a packet makes of a state. -/
import Derived.Test.YtiacdfhaopnekaaAbShs
namespace Go.Proofs.Arr
open Go.Ab
set_option linter.unusedVariables false

def M40 : Int := 1099511627776
def inI (lo hi x : Int) : Bool := decide (lo ≤ x) && decide (x ≤ hi)
structure Pt where
  x : Int
  y : Int
instance : Inhabited Pt := ⟨⟨0, 0⟩⟩
def Pt.l (p : Pt) : List AV := [.i .i64 p.x, .i .i64 p.y]
def ptV : List AV → Option Pt
  | [.i .i64 x, .i .i64 y] => some ⟨x, y⟩
  | _ => none
theorem ptV_eq (c : List AV) (a : Pt) (h : ptV c = some a) : c = a.l := by
  unfold ptV at h
  split at h
  · cases h; rfl
  · cases h
theorem Pt.len (p : Pt) : p.l.length = 2 := rfl
theorem Pt.bel0 (p : Pt) : belL 0 p.l = true := rfl
theorem ptV_l (p : Pt) : ptV p.l = some p := rfl
abbrev Sh.pts (s : Sh) (l : List Pt) : Prop := s.is Pt.l 2 l
theorem rd_pts {s : Sh} {l : List Pt} (h : Sh.pts s l) : rdL ptV 2 s = some l := rdL_is Pt.len ptV_l h
theorem pts_rd {s : Sh} {l : List Pt} (h : rdL ptV 2 s = some l) : Sh.pts s l := rdL_inv ptV_eq h

def pX (l : List Pt) (i : Nat) : Int := (l.getD i default).x
def pY (l : List Pt) (i : Nat) : Int := (l.getD i default).y
/-- One point of a list: it is near enough to the one before and to the first one. -/
def ptI (l : List Pt) (step : Int) (i : Nat) : Bool :=
  inI 0 M40 (pX l i) && inI (-M40) M40 (pY l i) && (i == 0 || inI 0 step (pX l i - pX l (i - 1))) && inI (-67108864) 67108864 (pY l i - pY l 0)
def ptsB (l : List Pt) (step : Int) : Bool := (List.range l.length).all (ptI l step) && decide (l.length ≤ 20)

structure Tr where
  att : Int
  st : Bool
  past : Bool
  fst : Int
  lst : Int
  got : Int
  plst : Int
  pgot : Int
  cnt : Int
  sum : Int
  smo : Int
  thr : Int
  ovr : Int
  ovs : Int
  bef : Int
  sta : Int
def Tr.l (t : Tr) (v : AV) : List AV := [.i .i64 t.att, .b t.st, .b t.past, .i .i64 t.fst, .i .i64 t.lst, .i .i64 t.got, .i .i64 t.plst, .i .i64 t.pgot, .i .i64 t.cnt, .i .i64 t.sum, .i .i64 t.smo, .i .i64 t.thr, .i .i64 t.ovr, .i .i64 t.ovs, .i .i64 t.bef, .i .i64 t.sta, v]
def trV (l : List AV) : Option (Tr × AV) := match l with
  | [.i .i64 a0, .b a1, .b a2, .i .i64 a3, .i .i64 a4, .i .i64 a5, .i .i64 a6, .i .i64 a7, .i .i64 a8, .i .i64 a9, .i .i64 a10, .i .i64 a11, .i .i64 a12, .i .i64 a13, .i .i64 a14, .i .i64 a15, v] => some (⟨a0, a1, a2, a3, a4, a5, a6, a7, a8, a9, a10, a11, a12, a13, a14, a15⟩, v)
  | _ => none
theorem trV_eq {l : List AV} {r : Tr × AV} (h : trV l = some r) : l = r.1.l r.2 := by
  unfold trV at h
  split at h
  · cases h; rfl
  · cases h
theorem Tr.eta (t : Tr) : Tr.mk t.att t.st t.past t.fst t.lst t.got t.plst t.pgot t.cnt t.sum t.smo t.thr t.ovr t.ovs t.bef t.sta = t := rfl
def zTr : Tr := ⟨0, false, false, 0, 0, 0, 0, 0, 0, 0, 0, 0, 0, 0, 0, 0⟩
def newT : Tr := { zTr with thr := 12800 }

def tm (x : Int) : Bool := inI 0 M40 x
def zeroT (t : Tr) : Bool := t.plst == 0 && t.pgot == 0 && t.cnt == 0 && t.sum == 0 && t.smo == 0 && t.ovr == 0 && t.ovs == 0 && t.bef == 0 && t.sta == 0
/-- A valid state. -/
def good (t : Tr) (l : List Pt) : Bool :=
  (tm t.att && tm t.fst && tm t.lst && tm t.got && tm t.plst && tm t.pgot) && inI 6144 614400 t.thr && inI 0 2 t.sta && (inI 0 20000 t.ovr && inI 0 20000 t.ovs) && inI 0 60 t.cnt && (inI (-M40) M40 t.bef && inI (-M40) M40 t.sum && inI (-M40) M40 t.smo) && ptsB l 2000 &&
  (bif t.st then inI t.fst (t.fst + 4) t.lst && decide (t.got ≤ t.att) else !t.past && (t.fst == 0 && t.lst == 0 && t.got == 0)) &&
  (bif t.past then decide (t.plst < t.fst) && decide (t.pgot ≤ t.got) && (l.length == 0 || pX l (l.length - 1) == t.pgot) else zeroT t && l.length == 0)

def sumI (f : Int → Int → Int) (l : List Pt) (n : Nat) : Int := match n with
  | 0 => 0
  | n + 1 => sumI f l n + f (pX l n - pX l 0) (pY l n - pY l 0)
def lineN (l : List Pt) : Int := l.length * sumI (fun x y => x * y) l l.length - sumI (fun x _ => x) l l.length * sumI (fun _ y => y) l l.length
def lineD (l : List Pt) : Int := l.length * sumI (fun x _ => x * x) l l.length - sumI (fun x _ => x) l l.length * sumI (fun x _ => x) l l.length
def lineOK (l : List Pt) : Bool := decide (2 ≤ l.length) && ptsB l 40000 && inI 1 40000 (pX l (l.length - 1) - pX l 0)
def clearT (t : Tr) : Tr := { t with sta := 0, cnt := 0, sum := 0, smo := 0, ovr := 0, ovs := 0, bef := 0 }
def beginT (t : Tr) (sent got : Int) : Tr := { t with fst := sent, lst := sent, got := got }
def trendN (l : List Pt) (cnt : Int) : Int := if pX l 0 = pX l (l.length - 1) then 0 else 4 * cnt * lineN l / lineD l
def judgeT (t : Tr) (m ds : Int) : Tr :=
  if m ≤ t.thr then { t with ovr := 0, ovs := 0, sta := if m < -t.thr then 2 else 0 }
  else
    let o := if t.ovs = 0 then ds / 2 else min (t.ovr + ds) 20000
    let s := min (t.ovs + 1) 20000
    if 10 < o ∧ 1 < s ∧ t.bef ≤ m then { t with ovr := 0, ovs := 0, sta := 1 } else { t with ovr := o, ovs := s }
def adaptN (thr m dg : Int) : Int :=
  let a := max m (-m)
  if thr + 15360 < a then thr else max 6144 (min (thr + (a - thr) * (if thr < a then 87 else 390) * min dg 100 / 10000) 614400)
def nextPts (l : List Pt) (p : Pt) : List Pt := if 20 < l.length + 1 then (l ++ [p]).drop 1 else l ++ [p]
/-- Behind the group that is complete. -/
def weighT (t : Tr) (l : List Pt) : Tr × List Pt :=
  let ds := t.lst - t.plst
  let dg := t.got - t.pgot
  if 2000 < max ds dg then (clearT t, [])
  else
    let t1 := { t with sum := t.sum + (dg - ds), smo := (9 * t.smo + 1024 * (t.sum + (dg - ds))) / 10, cnt := min (t.cnt + 1) 60 }
    let l1 := nextPts l ⟨t.got, t1.smo⟩
    if !(inI (-1048576) 1048576 t1.sum && ptsB l1 2000) then (clearT t1, [])
    else
      let m := trendN l1 t1.cnt
      let t2 := judgeT t1 m ds
      ({ t2 with bef := min (max m (-M40)) M40, thr := adaptN t2.thr m dg }, l1)
/-- A packet is added to a valid state. -/
def addT (t : Tr) (l : List Pt) (sent got : Int) : Tr × List Pt :=
  let t0 := { t with att := got }
  if !t.st then (beginT { t0 with st := true } sent got, l)
  else if sent < t.fst then (t0, l)
  else if sent ≤ t.fst + 4 then ({ t0 with lst := max t.lst sent, got := got }, l)
  else
    let q := bif t.past then weighT t0 l else (t0, l)
    (beginT { q.1 with past := true, plst := q.1.lst, pgot := q.1.got } sent got, q.2)
def addE (t : Tr) (l : List Pt) (sent got : Int) : Int :=
  if !good t l then 290 else if !(tm sent && tm got) || decide (got < t.att) then 2 else 0
def addS (t : Tr) (l : List Pt) (sent got : Int) : Tr × List Pt := if addE t l sent got = 0 then addT t l sent got else (zTr, [])
end Go.Proofs.Arr
