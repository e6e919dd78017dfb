/- The abstract layer, part 5: from the model's operations to the small language. -/
import Derived.Test.YtiacdfhaopnekaaAbWorld
import Derived.Laws.StructEq
namespace Go.Ab
set_option linter.unusedVariables false

def avOf1 : Value → Option AV
  | .bool b => some (.b b)
  | .int k n => some (.i k n)
  | .string s => some (.s s.data.toList)
  | .pointer none => some .np
  | .slice none 0 0 => some .ns
  | .nilFunc => some .nf
  | .nilIface => some .ni
  | _ => none

def avsOf : List Value → Option (List AV)
  | [] => some []
  | v :: r => (avOf1 v).bind fun x => (avsOf r).bind fun xs => some (x :: xs)

def avOf : Value → Option AV
  | .agg cs => (avsOf cs.toList).map .agg
  | .tuple cs => (avsOf cs.toList).map .tup
  | v => avOf1 v

def cO : Operand → Option Opd
  | .tmp t => some (.t t)
  | .const v => (avOf v).map .c
  | .global g => some (.g g)
  | .func f => some (.c (.fn f []))

def cOs : List Operand → Option (List Opd)
  | [] => some []
  | y :: r => (cO y).bind fun x => (cOs r).bind fun xs => some (x :: xs)

def cOo : Option Operand → Option (Option Opd)
  | none => some none
  | some y => (cO y).map some

def tyAgg (P : Program) (t : TypeId) : Option Bool :=
  match P.underlying t with
  | some (.struct _) => some true
  | some (.array _ _) => some true
  | some _ => some false
  | none => none

def tySz (P : Program) (t : TypeId) : Option Nat := (P.info? t).map (·.size)

def tyZero (P : Program) (t : TypeId) : Option (List AV) := (P.info? t).bind fun i => i.zero.bind fun z => avsOf z.cells.toList

/-- A struct's field: its place and its cells. -/
def tyField (P : Program) (t : TypeId) (f : Nat) : Option (Nat × Nat × TypeId) :=
  match P.underlying t with
  | some (.struct fs) => (fs[f]?).bind fun fl => (tySz P fl.type).map fun z => (fl.offset, z, fl.type)
  | _ => none

def cPartsS (P : Program) (t : TypeId) : List (Nat × Operand) → Option (List (Nat × Nat × Opd))
  | [] => some []
  | (i, y) :: r => (tyField P t i).bind fun q => (cO y).bind fun x => (cPartsS P t r).bind fun xs => some ((q.1, q.2.1, x) :: xs)

def cPartsA (z : Nat) : List (Nat × Operand) → Option (List (Nat × Nat × Opd))
  | [] => some []
  | (i, y) :: r => (cO y).bind fun x => (cPartsA z r).bind fun xs => some ((i * z, z, x) :: xs)

/-- The kinds of a type's cells, where its equality is that of its cells. -/
def kdFields (P : Program) (f : TypeId → Option (List Kd)) : List Field → Nat → Option (List Kd)
  | [], _ => some []
  | fl :: r, off => if fl.name ≠ "_" ∧ fl.offset = off then (f fl.type).bind fun ks => if tySz P fl.type = some ks.length then (kdFields P f r (off + ks.length)).map (ks ++ ·) else none else none

def kdRep (ks : List Kd) : Nat → List Kd
  | 0 => []
  | n + 1 => ks ++ kdRep ks n

def kdOf (P : Program) : Nat → TypeId → Option (List Kd)
  | 0, _ => none
  | d + 1, t => match P.underlying t with
    | some .bool => some [.b]
    | some (.int _) => some [.i]
    | some .string => some [.s]
    | some (.struct fs) => if P.stoodInHeld t = false then kdFields P (kdOf P d) fs.toList 0 else none
    | some (.array len e) => (kdOf P d e).bind fun ks => if tySz P e = some ks.length then some (kdRep ks len) else none
    | _ => none

def guardOk (P : Program) (t : TypeId) : Bool := !P.eqGuardType P.depth t

/-- A type whose values are compared with nil. -/
def nilTy (P : Program) (t : TypeId) : Option Nat :=
  match P.underlying t with
  | some (.pointer _) => some 0
  | some (.slice _) => some 1
  | some (.func _ _ _) => some 2
  | _ => none

def bad : Option IOp := some .bad

def orBad (o : Option IOp) : IOp := o.getD .bad

def compOp (P : Program) (o : Op) : IOp :=
  match o with
  | .move x => orBad <| (cO x).map .mv
  | .assign x => orBad <| (cO x).map .mv
  | .pick c a b => orBad <| (cO c).bind fun c => (cO a).bind fun a => (cO b).map fun b => .pick c a b
  | .alloc t => orBad <| (tyZero P t).map .new
  | .box t x => orBad <| (cO x).map .box
  | .build t ps => match P.underlying t with
    | some (.struct fs) => orBad <| (tyZero P t).bind fun z => if fs.all fun f => (P.info? f.type).isSome then (cPartsS P t ps.toList).map fun l => .build z l else none
    | some (.array _ e) => orBad <| (tyZero P t).bind fun z => (tySz P e).bind fun s => (cPartsA s ps.toList).map fun l => .build z l
    | _ => .bad
  | .buildSlice t len ps => match P.underlying t with
    | some (.slice e) => orBad <| (tyZero P e).bind fun z => (tySz P e).bind fun s => if z.length = s ∧ len * s ≤ 2 ^ 24 then (cPartsA s ps.toList).map fun l => .bsl (zeros z len) len l else none
    | _ => .bad
  | .load t a => orBad <| (tyAgg P t).bind fun g => (tySz P t).bind fun z => (cO a).map fun a => .ld g z a
  | .store t a x => orBad <| (tySz P t).bind fun z => (cO a).bind fun a => (cO x).map fun x => .st z a x
  | .nilCheck x => orBad <| (cO x).map .nck
  | .binOp op t x y _ => match P.underlying t with
    | some (.int _) => orBad <| (cO x).bind fun x => (cO y).map fun y => .bin op x y
    | some .string => orBad <| (cO x).bind fun x => (cO y).map fun y => .bin op x y
    | _ => match nilTy P t with
      | some k => (match op with
        | .eql => orBad <| (cO x).bind fun x => (cO y).map fun y => .eqn false k x y
        | .neq => orBad <| (cO x).bind fun x => (cO y).map fun y => .eqn true k x y
        | _ => .bad)
      | none => if guardOk P t then (match op with
        | .eql => orBad <| (kdOf P 9 t).bind fun ks => (tyAgg P t).bind fun g => (cO x).bind fun x => (cO y).map fun y => .eqk false g ks x y
        | .neq => orBad <| (kdOf P 9 t).bind fun ks => (tyAgg P t).bind fun g => (cO x).bind fun x => (cO y).map fun y => .eqk true g ks x y
        | _ => .bad) else .bad
  | .unOp op _ x => match op with
    | .not => orBad <| (cO x).map .not
    | .neg => orBad <| (cO x).map .neg
    | _ => .bad
  | .convert s d x => match P.underlying s, P.underlying d with
    | some (.int _), some (.int k) => orBad <| (cO x).map fun x => .i2i k x
    | some .string, some .string => orBad <| (cO x).map .idc
    | some .string, some (.slice e) => match P.underlying e with
      | some (.int .u8) => orBad <| (cO x).map .s2b
      | _ => .bad
    | some (.slice e), some .string => match P.underlying e with
      | some (.int .u8) => orBad <| (cO x).map .b2s
      | _ => .bad
    | _, _ => .bad
  | .makeFunc (.func f) first caps => if first.size = 0 then orBad <| (cOs caps.toList).map fun l => .mkf f l else .bad
  | .slice t x lo hi mx => if mx.isSome && hi.isNone then .bad else match P.underlying t with
    | some .string => match mx with
      | none => orBad <| (cO x).bind fun x => (cOo lo).bind fun lo => (cOo hi).map fun hi => .slS x lo hi
      | some _ => .bad
    | some (.slice e) => orBad <| (tySz P e).bind fun z => (cO x).bind fun x => (cOo lo).bind fun lo => (cOo hi).bind fun hi => (cOo mx).map fun mx => .slV z x lo hi mx
    | some (.array n e) => orBad <| (tySz P e).bind fun z => (cO x).bind fun x => (cOo lo).bind fun lo => (cOo hi).bind fun hi => (cOo mx).map fun mx => .slA n z x lo hi mx
    | _ => .bad
  | .fieldAddr t x f => orBad <| (tyField P t f).bind fun q => if q.2.1 = 0 then none else (cO x).map fun x => .fa q.1 x
  | .field t x f => orBad <| (tyField P t f).bind fun q => (tyAgg P q.2.2).bind fun g => (cO x).map fun x => .fld g q.2.1 q.1 x
  | .indexAddr t x i => match P.underlying t with
    | some (.array n e) => orBad <| (tySz P e).bind fun z => (cO x).bind fun x => (cO i).map fun i => .ixaA n z x i
    | some (.slice e) => orBad <| (tySz P e).bind fun z => (cO x).bind fun x => (cO i).map fun i => .ixaV z x i
    | _ => .bad
  | .index t x i => match P.underlying t with
    | some (.array n e) => orBad <| (tySz P e).bind fun z => (tyAgg P e).bind fun g => (cO x).bind fun x => (cO i).map fun i => .ixA n z g x i
    | some .string => orBad <| (cO x).bind fun x => (cO i).map fun i => .ixS x i
    | _ => .bad
  | .extract x i => orBad <| (cO x).map fun x => .ext x i
  | .call c => match c.callee with
    | .value f => orBad <| (cO f).bind fun f => (cOs c.args.toList).map fun l => .call f l
    | .builtin b => match b, c.args.toList, c.argTypes.toList with
      | .len, [x], [t] => match P.underlying t with
        | some .string => orBad <| (cO x).map .lenS
        | some (.slice _) => orBad <| (cO x).map .lenV
        | some (.array n _) => .lenC n
        | some (.pointer a) => match P.underlying a with
          | some (.array n _) => .lenC n
          | _ => .bad
        | _ => .bad
      | .cap, [x], [t] => match P.underlying t with
        | some (.slice _) => orBad <| (cO x).map .capV
        | _ => .bad
      | .min, x :: xs, _ => orBad <| (cO x).bind fun x => (cOs xs).map fun l => .mn x l
      | .max, x :: xs, _ => orBad <| (cO x).bind fun x => (cOs xs).map fun l => .mx x l
      | .append, [s, x], [t, u] => match P.underlying t, P.underlying u with
        | some (.slice e), some (.int _) => .bad
        | some (.slice e), some _ => orBad <| (P.info? e).bind fun i => (tyZero P e).bind fun z => if z.length = i.size ∧ i.bytes ≠ 0 then (cO s).bind fun s => (cO x).map fun x => .app i.size i.bytes z s x else none
        | _, _ => .bad
      | .copy, [d, s], t :: _ => match P.underlying t with
        | some (.slice e) => orBad <| (tySz P e).bind fun z => (cO d).bind fun d => (cO s).map fun s => .cpy z d s
        | _ => .bad
      | .clear, [x], [t] => match P.underlying t with
        | some (.slice e) => orBad <| (tyZero P e).bind fun zs => (tySz P e).bind fun z => (cO x).map fun x => .clr z zs x
        | _ => .bad
      | _, _, _ => .bad
    | _ => .bad
  | .makeSlice t l c => match P.underlying t with
    | some (.slice e) => orBad <| (P.info? e).bind fun i => (tyZero P e).bind fun z => if z.length = i.size then (cO l).bind fun l => (cO c).map fun c => .mks i.size i.bytes z l c else none
    | _ => .bad
  | _ => .bad

end Go.Ab
