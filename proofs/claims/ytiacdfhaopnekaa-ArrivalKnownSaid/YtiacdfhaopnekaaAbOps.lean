/- The abstract layer, part 2: the small language of operations (types resolved), and what one operation does to an abstract state. -/
import Derived.Test.YtiacdfhaopnekaaAbBase
namespace Go.Ab
set_option linter.unusedVariables false

abbrev Hp := List (Nat × Blk)
abbrev Env := List (Nat × AV)

def hget : Hp → Hf
  | [], _ => none
  | (c, k) :: r, b => bif Nat.beq c b then some k else hget r b

def eget : Env → Nat → Option AV
  | [], _ => none
  | (c, k) :: r, b => bif Nat.beq c b then some k else eget r b

def hset : Hp → Nat → Blk → Hp
  | [], b, x => [(b, x)]
  | (c, k) :: r, b, x => bif Nat.beq c b then (c, x) :: r else (c, k) :: hset r b x

def hdel : Hp → Nat → Hp
  | [], _ => []
  | (c, k) :: r, b => bif Nat.beq c b then hdel r b else (c, k) :: hdel r b

def hglob : Hp → Nat → Option AV
  | [], _ => none
  | (c, k) :: r, g => match k.gid with
    | some g' => bif Nat.beq g' g then some (.p c 0) else hglob r g
    | none => hglob r g

/-- A package variable's block, found by its number. -/
def hglobC (h : Hp) (g : Nat) : Option AV := (hglob h g).bind fun v => match v with
  | .p c _ => (hget h c).bind fun k => match k.gid with
    | some g' => bif Nat.beq g' g then some (.p c 0) else none
    | none => none
  | _ => none

inductive Opd where
  | t (n : Nat)
  | c (v : AV)
  | g (n : Nat)

def Opd.ev (e : Env) (h : Hp) : Opd → Option AV
  | .t n => eget e n
  | .c v => some v
  | .g n => hglobC h n

def evs (e : Env) (h : Hp) : List Opd → Option (List AV)
  | [] => some []
  | x :: r => (x.ev e h).bind fun v => (evs e h r).bind fun vs => some (v :: vs)

/-- A part of a build: place, size, what. -/
def evps (e : Env) (h : Hp) : List (Nat × Nat × Opd) → Option (List (Nat × Nat × AV))
  | [] => some []
  | (o, z, x) :: r => (x.ev e h).bind fun v => (evps e h r).bind fun vs => some ((o, z, v) :: vs)

/-- The kinds of cells that are compared. -/
inductive Kd where
  | b | i | s

inductive IOp where
  | mv (x : Opd)
  | pick (c a b : Opd)
  | new (z : List AV)
  | box (x : Opd)
  | build (z : List AV) (ps : List (Nat × Nat × Opd))
  | bsl (z : List AV) (len : Nat) (ps : List (Nat × Nat × Opd))
  | ld (agg : Bool) (sz : Nat) (a : Opd)
  | st (sz : Nat) (a x : Opd)
  | nck (x : Opd)
  | bin (op : BinOp) (x y : Opd)
  | eqk (neg agg : Bool) (ks : List Kd) (x y : Opd)
  | eqn (neg : Bool) (k : Nat) (x y : Opd)
  | not (x : Opd)
  | neg (x : Opd)
  | i2i (k : IntKind) (x : Opd)
  | s2b (x : Opd)
  | b2s (x : Opd)
  | idc (x : Opd)
  | mkf (f : FuncId) (caps : List Opd)
  | slS (x : Opd) (lo hi : Option Opd)
  | slV (esz : Nat) (x : Opd) (lo hi mx : Option Opd)
  | slA (n esz : Nat) (x : Opd) (lo hi mx : Option Opd)
  | fa (off : Nat) (x : Opd)
  | fld (agg : Bool) (sz off : Nat) (x : Opd)
  | ixaA (n esz : Nat) (x i : Opd)
  | ixaV (esz : Nat) (x i : Opd)
  | ixA (n esz : Nat) (agg : Bool) (x i : Opd)
  | ixS (x i : Opd)
  | ext (x : Opd) (i : Nat)
  | lenS (x : Opd)
  | lenV (x : Opd)
  | lenC (n : Nat)
  | capV (x : Opd)
  | mn (x : Opd) (xs : List Opd)
  | mx (x : Opd) (xs : List Opd)
  | mks (esz bytes : Nat) (z : List AV) (l c : Opd)
  | app (esz bytes : Nat) (z : List AV) (s x : Opd)
  | cpy (esz : Nat) (d s : Opd)
  | clr (esz : Nat) (z : List AV) (x : Opd)
  | call (f : Opd) (args : List Opd)
  | bad

structure IOper where
  dst : Option Nat
  op : IOp
  guard : Option (Nat × Bool)
  spl : Bool

/-- What an operation (or a call) does: its value, the next free name, the blocks that it looks at, those that it changes ('none': that name is given up), those that it makes. -/
structure Eff where
  v : AV
  n : Nat
  rd : List Nat := []
  md : List (Nat × Option Blk) := []
  nw : List (Nat × Blk) := []

def mget : List (Nat × Option Blk) → Nat → Option (Option Blk)
  | [], _ => none
  | (c, k) :: r, b => bif Nat.beq c b then some k else mget r b

def Eff.app (E : Eff) (H : Hf) : Hf := fun b =>
  match mget E.md b with
  | some r => r
  | none => match hget E.nw b with
    | some k => some k
    | none => H b

/-- The same on the list. -/
def hmods (h : Hp) : List (Nat × Option Blk) → Hp
  | [] => h
  | (b, some k) :: r => hset (hmods h r) b k
  | (b, none) :: r => hdel (hmods h r) b

def Eff.appL (E : Eff) (h : Hp) : Hp := hmods (E.nw ++ h) E.md

def inl : List Nat → Nat → Bool
  | [], _ => false
  | c :: r, b => Nat.beq c b || inl r b

/-- The heap cut down to what is looked at. -/
def only (H : Hf) (rd : List Nat) : Hf := fun b => bif inl rd b then H b else none

def pe (v : AV) (n : Nat) : Option (Bool × Eff) := some (true, { v, n })

/-! ### single operations -/

def AV.cells : AV → List AV
  | .agg l => l
  | v => [v]

def AV.one : AV → Bool
  | .agg _ | .tup _ => false
  | _ => true

/-- The cells [o, o+z). -/
def cellsAt (l : List AV) (o z : Nat) : List AV := (l.drop o).take z

def splice (l : List AV) (o : Nat) (xs : List AV) : List AV := l.take o ++ xs ++ l.drop (o + xs.length)

def fills : List AV → List (Nat × Nat × AV) → Option (List AV)
  | z, [] => some z
  | z, (o, sz, v) :: r => bif Nat.beq v.cells.length sz && Nat.ble (o + sz) z.length then fills (splice z o v.cells) r else none

/-- Against nil: pointers, slices, functions. -/
def eqn : Nat → AV → AV → Option Bool
  | 0, .np, .np => some true
  | 0, .p _ _, .np => some false
  | 0, .np, .p _ _ => some false
  | 1, .ns, .ns => some true
  | 1, .sl _ _ _ _, .ns => some false
  | 1, .sg _ _ _, .ns => some false
  | 1, .ns, .sl _ _ _ _ => some false
  | 1, .ns, .sg _ _ _ => some false
  | 2, .fn _ _, .nf => some false
  | 2, .nf, .fn _ _ => some false
  | 2, .nf, .nf => some true
  | _, _, _ => none

def eq1 : Kd → AV → AV → Option Bool
  | .b, .b x, .b y => some (x == y)
  | .i, .i k x, .i k' y => if k = k' then some (x == y) else none
  | .s, .s x, .s y => some (x == y)
  | _, _, _ => none

/-- Cell by cell. -/
def eqs : List Kd → List AV → List AV → Option Bool
  | [], [], [] => some true
  | k :: ks, x :: xs, y :: ys => (eq1 k x y).bind fun a => (eqs ks xs ys).bind fun b => some (a && b)
  | _, _, _ => none

def eqk (agg : Bool) (ks : List Kd) (x y : AV) : Option Bool :=
  match agg, x, y with
  | true, .agg xs, .agg ys => eqs ks xs ys
  | false, x, y => eqs ks [x] [y]
  | _, _, _ => none

/-- The side condition, and the value. -/
def binI (op : BinOp) (k : IntKind) (a b : Int) : Option (Bool × AV) :=
  match op with
  | .add => some (true, .i k (k.wrap (a + b)))
  | .sub => some (true, .i k (k.wrap (a - b)))
  | .mul => some (true, .i k (k.wrap (a * b)))
  | .quo => some (b != 0, .i k (k.wrap (a.tdiv b)))
  | .rem => some (b != 0, .i k (a.tmod b))
  | .and => some (true, .i k (k.wrap (BitVec.ofInt k.bits a &&& BitVec.ofInt k.bits b).toNat))
  | .or => some (true, .i k (k.wrap (BitVec.ofInt k.bits a ||| BitVec.ofInt k.bits b).toNat))
  | .xor => some (true, .i k (k.wrap (BitVec.ofInt k.bits a ^^^ BitVec.ofInt k.bits b).toNat))
  | .andNot => some (true, .i k (k.wrap (BitVec.ofInt k.bits a &&& ~~~(BitVec.ofInt k.bits b)).toNat))
  | .eql => some (true, .b (a == b))
  | .neq => some (true, .b (a != b))
  | .lss => some (true, .b (decide (a < b)))
  | .leq => some (true, .b (decide (a ≤ b)))
  | .gtr => some (true, .b (decide (a > b)))
  | .geq => some (true, .b (decide (a ≥ b)))
  | .shl => none
  | .shr => none

def shI (op : BinOp) (k : IntKind) (a b : Int) : Option (Bool × AV) :=
  match op with
  | .shl => some (decide (0 ≤ b), .i k (k.wrap (a * 2 ^ (Nat.min b.toNat k.bits))))
  | .shr => some (decide (0 ≤ b), .i k (a.fdiv (2 ^ (Nat.min b.toNat k.bits))))
  | _ => none

def binS (op : BinOp) (a b : List UInt8) : Option (Bool × AV) :=
  match op with
  | .add => some (decide (a.length + b.length ≤ 9223372036854775807), .s (a ++ b))
  | .eql => some (true, .b (a == b))
  | .neq => some (true, .b !(a == b))
  | .lss => some (true, .b (Op.bytesLess a b))
  | .leq => some (true, .b (Op.bytesLess a b || a == b))
  | .gtr => some (true, .b !(Op.bytesLess a b || a == b))
  | .geq => some (true, .b !(Op.bytesLess a b))
  | _ => none

def bin (op : BinOp) (x y : AV) : Option (Bool × AV) :=
  match x, y with
  | .i k a, .i k' b => match op with
    | .shl => shI .shl k a b
    | .shr => shI .shr k a b
    | op => if k = k' then binI op k a b else none
  | .s a, .s b => binS op a b
  | _, _ => none

def asI : AV → Option Int
  | .i .i64 n => some n
  | _ => none

/-- An integer of any kind. -/
def asJ : AV → Option Int
  | .i _ n => some n
  | _ => none

def minI (k : IntKind) : Int → List AV → Option Int
  | a, [] => some a
  | a, .i k' y :: r => if k = k' then minI k (if y < a then y else a) r else none
  | _, _ => none

def maxI (k : IntKind) : Int → List AV → Option Int
  | a, [] => some a
  | a, .i k' y :: r => if k = k' then maxI k (if y > a then y else a) r else none
  | _, _ => none

def asK : AV → Option (IntKind × Int)
  | .i k n => some (k, n)
  | _ => none

/-- Bounds of a slice expression: the condition, low and high (max: the capacity). -/
def sbound (len cap : Nat) (lo hi mx : Option Int) : Bool × Nat × Nat × Nat :=
  let m : Int := mx.getD cap
  let h : Int := hi.getD len
  let l : Int := lo.getD 0
  (decide (0 ≤ l ∧ l ≤ h ∧ 0 ≤ h ∧ h ≤ m ∧ 0 ≤ m ∧ m ≤ cap), l.toNat, h.toNat, m.toNat)

def obind {α : Type} (e : Env) (h : Hp) (o : Option Opd) (k : Option Int → Option α) : Option α :=
  match o with
  | none => k none
  | some x => (x.ev e h).bind fun v => (asJ v).bind fun n => k (some n)

def bytesOf : List AV → Option (List UInt8)
  | [] => some []
  | .i .u8 n :: r => (bytesOf r).bind fun l => some (UInt8.ofNat n.toNat :: l)
  | _ => none

/-- n elements' zero cells. -/
def zeros (z : List AV) : Nat → List AV
  | 0 => []
  | n + 1 => z ++ zeros z n

/-- What lies behind a slice: block, first cell, length. -/
def slParts : AV → Option (Nat × Nat × Nat)
  | .sl b o len _ => some (b, o, len)
  | .sg b o len => some (b, o, len)
  | _ => none

/-- The cells that an append or a copy takes from its source: block looked at, elements, cells. -/
def srcCells (h : Hp) (esz : Nat) : AV → Option (List Nat × Nat × List AV × Bool)
  | .ns => some ([], 0, [], true)
  | .s l => some ([], l.length, l.map (fun b => .i .u8 b.toNat), Nat.beq esz 1)
  | .sl b o len _ => (hget h b).bind fun k => some ([b], len, cellsAt k.cells o (len * esz), decide ((cellsAt k.cells o (len * esz)).length = len * esz))
  | .sg b o len => (hget h b).bind fun k => some ([b], len, cellsAt k.cells o (len * esz), decide ((cellsAt k.cells o (len * esz)).length = len * esz))
  | _ => none

def growMax : Nat := 140737488355328

def oneAll : List AV → Bool
  | [] => true
  | v :: r => v.one && oneAll r

def step (o : IOp) (e : Env) (h : Hp) (n : Nat) : Option (Bool × Eff) :=
  match o with
  | .mv x => (x.ev e h).bind fun v => pe v n
  | .pick c a b => (c.ev e h).bind fun v => match v with
    | .b true => (a.ev e h).bind fun v => pe v n
    | .b false => (b.ev e h).bind fun v => pe v n
    | _ => none
  | .new z => some (true, { v := .p n 0, n := n + 1, nw := [(n, { cells := z })] })
  | .box x => (x.ev e h).bind fun v => some (true, { v := .p n 0, n := n + 1, nw := [(n, { cells := v.cells })] })
  | .build z ps => (evps e h ps).bind fun l => (fills z l).bind fun cs => pe (.agg cs) n
  | .bsl z len ps => (evps e h ps).bind fun l => (fills z l).bind fun cs => some (true, { v := .sl n 0 len len, n := n + 1, nw := [(n, { cells := cs })] })
  | .ld agg z a => (a.ev e h).bind fun v => match v with
    | .p b o => (hget h b).bind fun k =>
      match agg with
      | true => some (decide ((cellsAt k.cells o z).length = z), { v := .agg (cellsAt k.cells o z), n, rd := [b] })
      | false => (k.cells[o]?).bind fun v => some (true, { v, n, rd := [b] })
    | _ => none
  | .st z a x => (a.ev e h).bind fun v => match v with
    | .p b o => (hget h b).bind fun k => (x.ev e h).bind fun y =>
      match k.ro with
      | true => none
      | false => some (oneAll y.cells && Nat.beq y.cells.length z && decide (o + z ≤ k.cells.length), { v := .tup [], n, rd := [b], md := [(b, some { k with cells := splice k.cells o y.cells })] })
    | _ => none
  | .nck x => (x.ev e h).bind fun v => match v with
    | .p b o => pe (.p b o) n
    | .fn f l => pe (.fn f l) n
    | _ => none
  | .bin op x y => (x.ev e h).bind fun a => (y.ev e h).bind fun b => (bin op a b).bind fun r => some (r.1, { v := r.2, n })
  | .eqk neg agg ks x y => (x.ev e h).bind fun a => (y.ev e h).bind fun b => (eqk agg ks a b).bind fun r => pe (.b (bif neg then !r else r)) n
  | .eqn neg k x y => (x.ev e h).bind fun a => (y.ev e h).bind fun b => (eqn k a b).bind fun r => pe (.b (bif neg then !r else r)) n
  | .not x => (x.ev e h).bind fun v => match v with
    | .b c => pe (.b !c) n
    | _ => none
  | .neg x => (x.ev e h).bind fun v => match v with
    | .i k m => pe (.i k (k.wrap (0 - m))) n
    | _ => none
  | .i2i k x => (x.ev e h).bind fun v => match v with
    | .i _ m => pe (.i k (k.wrap m)) n
    | _ => none
  | .s2b x => (x.ev e h).bind fun v => match v with
    | .s l => some (true, { v := .sg n 0 l.length, n := n + 1, nw := [(n, { cells := l.map fun b => .i .u8 b.toNat, gr := some 1 })] })
    | _ => none
  | .b2s x => (x.ev e h).bind fun v => match v with
    | .ns => pe (.s []) n
    | v => (slParts v).bind fun q => (hget h q.1).bind fun k => (bytesOf (cellsAt k.cells q.2.1 q.2.2)).bind fun l =>
      some (decide (l.length = q.2.2), { v := .s l, n, rd := [q.1] })
  | .idc x => (x.ev e h).bind fun v => match v with
    | .s l => pe (.s l) n
    | _ => none
  | .mkf f caps => (evs e h caps).bind fun l => pe (.fn f l) n
  | .slS x lo hi => (x.ev e h).bind fun v => match v with
    | .s l => obind e h lo fun lo => obind e h hi fun hi =>
      let r := sbound l.length l.length lo hi none
      some (r.1, { v := .s ((l.take r.2.2.1).drop r.2.1), n })
    | _ => none
  | .slV z x lo hi mx => (x.ev e h).bind fun v => match v with
    | .ns => obind e h lo fun lo => obind e h hi fun hi => obind e h mx fun mx =>
      let r := sbound 0 0 lo hi mx
      some (r.1, { v := .ns, n })
    | .sl b o len cap => obind e h lo fun lo => obind e h hi fun hi => obind e h mx fun mx =>
      let r := sbound len cap lo hi mx
      some (r.1, { v := .sl b (if r.2.2.2 = r.2.1 then o else o + r.2.1 * z) (r.2.2.1 - r.2.1) (r.2.2.2 - r.2.1), n })
    | .sg b o len => match mx with
      | some _ => none
      | none => (hget h b).bind fun k => obind e h lo fun lo => obind e h hi fun hi =>
        let r := sbound len len lo hi none
        match k.gr with
        | some z' => some (r.1 && decide (r.2.1 = 0 ∨ r.2.1 < len) && Nat.beq z z', { v := .sg b (o + r.2.1 * z) (r.2.2.1 - r.2.1), n, rd := [b] })
        | none => none
    | _ => none
  | .slA m z x lo hi mx => (x.ev e h).bind fun v => match v with
    | .p b o => obind e h lo fun lo => obind e h hi fun hi => obind e h mx fun mx =>
      let r := sbound m m lo hi mx
      some (r.1, { v := .sl b (if r.2.2.2 = r.2.1 then o else o + r.2.1 * z) (r.2.2.1 - r.2.1) (r.2.2.2 - r.2.1), n })
    | _ => none
  | .fa off x => (x.ev e h).bind fun v => match v with
    | .p b o => pe (.p b (o + off)) n
    | _ => none
  | .fld agg z off x => (x.ev e h).bind fun v => match v with
    | .agg l => match agg with
      | true => some (decide (off + z ≤ l.length), { v := .agg (cellsAt l off z), n })
      | false => (l[off]?).bind fun v => pe v n
    | _ => none
  | .ixaA m z x i => (x.ev e h).bind fun v => (i.ev e h).bind fun i => (asJ i).bind fun i => match v with
    | .p b o => some (decide (0 ≤ i ∧ i < m), { v := .p b (o + i.toNat * z), n })
    | _ => none
  | .ixaV z x i => (x.ev e h).bind fun v => (i.ev e h).bind fun i => (asJ i).bind fun i => (slParts v).bind fun q =>
      some (decide (0 ≤ i ∧ i < q.2.2), { v := .p q.1 (q.2.1 + i.toNat * z), n })
  | .ixA m z agg x i => (x.ev e h).bind fun v => (i.ev e h).bind fun i => (asJ i).bind fun i => match v with
    | .agg l => match agg with
      | true => some (decide (0 ≤ i ∧ i < m) && decide (i.toNat * z + z ≤ l.length), { v := .agg (cellsAt l (i.toNat * z) z), n })
      | false => (l[i.toNat * z]?).bind fun v => some (decide (0 ≤ i ∧ i < m), { v, n })
    | _ => none
  | .ixS x i => (x.ev e h).bind fun v => (i.ev e h).bind fun i => (asJ i).bind fun i => match v with
    | .s l => some (decide (0 ≤ i ∧ i < l.length), { v := .i .u8 ((l[i.toNat]?).getD 0).toNat, n })
    | _ => none
  | .ext x i => (x.ev e h).bind fun v => match v with
    | .tup l => (l[i]?).bind fun v => pe v n
    | _ => none
  | .lenS x => (x.ev e h).bind fun v => match v with
    | .s l => pe (.i .i64 l.length) n
    | _ => none
  | .lenV x => (x.ev e h).bind fun v => match v with
    | .ns => pe (.i .i64 0) n
    | v => (slParts v).bind fun q => pe (.i .i64 q.2.2) n
  | .lenC m => pe (.i .i64 m) n
  | .capV x => (x.ev e h).bind fun v => match v with
    | .ns => pe (.i .i64 0) n
    | .sl _ _ _ cap => pe (.i .i64 cap) n
    | _ => none
  | .mn x xs => (x.ev e h).bind fun v => (asK v).bind fun a => (evs e h xs).bind fun l => (minI a.1 a.2 l).bind fun m => pe (.i a.1 m) n
  | .mx x xs => (x.ev e h).bind fun v => (asK v).bind fun a => (evs e h xs).bind fun l => (maxI a.1 a.2 l).bind fun m => pe (.i a.1 m) n
  | .mks z bytes zs l c => (l.ev e h).bind fun l => (asI l).bind fun l => (c.ev e h).bind fun c => (asI c).bind fun c =>
      some (decide (0 ≤ l ∧ l ≤ c ∧ bytes * c ≤ 281474976710656 ∧ c ≤ 9223372036854775807), { v := .sl n 0 l.toNat c.toNat, n := n + 1, nw := [(n, { cells := zeros zs c.toNat })] })
  | .app z bytes zs s x => (s.ev e h).bind fun s => (x.ev e h).bind fun x => (srcCells h z x).bind fun r =>
    if r.2.1 = 0 then (match s with
      | .ns => some (r.2.2.2, { v := .ns, n, rd := r.1 })
      | .sl b o len cap => some (r.2.2.2 && decide (len ≤ cap), { v := .sl b o len cap, n, rd := r.1 })
      | .sg b o len => some (r.2.2.2, { v := .sg b o len, n, rd := r.1 })
      | _ => none)
    else match s with
    | .ns => some (r.2.2.2 && decide (bytes * r.2.1 ≤ growMax), { v := .sg n 0 r.2.1, n := n + 1, rd := r.1, nw := [(n, { cells := r.2.2.1, gr := some z })] })
    | .sl b o len cap => (hget h b).bind fun k =>
      if len + r.2.1 ≤ cap then
        match k.ro with
        | true => none
        | false => some (r.2.2.2 && decide (o + len * z + r.2.2.1.length ≤ k.cells.length) && oneAll r.2.2.1, { v := .sl b o (len + r.2.1) cap, n, rd := b :: r.1, md := [(b, some { k with cells := splice k.cells (o + len * z) r.2.2.1 })] })
      else some (r.2.2.2 && decide (bytes * (len + r.2.1) ≤ growMax) && decide ((cellsAt k.cells o (len * z)).length = len * z) && decide (len ≤ cap), { v := .sg n 0 (len + r.2.1), n := n + 1, rd := b :: r.1, nw := [(n, { cells := cellsAt k.cells o (len * z) ++ r.2.2.1, gr := some z })] })
    | .sg b o len => (hget h b).bind fun k =>
      match k.gr with
      | some z' => some (r.2.2.2 && decide (bytes * (len + r.2.1) ≤ growMax) && Nat.beq z z' && Nat.beq o 0 && decide (k.cells.length = len * z) && oneAll r.2.2.1, { v := .sg n 0 (len + r.2.1), n := n + 1, rd := b :: r.1, md := [(b, none)], nw := [(n, { cells := k.cells ++ r.2.2.1, gr := some z })] })
      | none => none
    | _ => none
  | .cpy z d s => (d.ev e h).bind fun d => (s.ev e h).bind fun s => (srcCells h z s).bind fun r =>
    match d with
    | .ns => some (r.2.2.2, { v := .i .i64 0, n, rd := r.1 })
    | d => (slParts d).bind fun q => (hget h q.1).bind fun k =>
      match k.ro with
      | true => none
      | false => some (r.2.2.2 && oneAll r.2.2.1 && decide (q.2.1 + Nat.min r.2.1 q.2.2 * z ≤ k.cells.length), { v := .i .i64 (Nat.min r.2.1 q.2.2), n, rd := q.1 :: r.1, md := [(q.1, some { k with cells := splice k.cells q.2.1 (r.2.2.1.take (Nat.min r.2.1 q.2.2 * z)) })] })
  | .clr z zs x => (x.ev e h).bind fun v => match v with
    | .ns => pe (.tup []) n
    | v => (slParts v).bind fun q => (hget h q.1).bind fun k =>
      match k.ro with
      | true => none
      | false => some (oneAll zs && Nat.beq zs.length z && decide (q.2.1 + q.2.2 * z ≤ k.cells.length), { v := .tup [], n, rd := [q.1], md := [(q.1, some { k with cells := splice k.cells q.2.1 (zeros zs q.2.2) })] })
  | .call _ _ => none
  | .bad => none

end Go.Ab
