/- The abstract layer, part 35: the operations once more, each a small definition, for runs in the kernel; printed by tools/mkfast.py out of AbOps. -/
import Derived.Test.YtlokbfkdgnopeaaGreatDoorAbExecs
namespace Go.Ab
set_option linter.unusedVariables false
set_option linter.unusedSimpArgs false
noncomputable def egetF (e : Env) (b : Nat) : Option AV := List.rec none (fun ck _ ih => bif Nat.beq ck.1 b then some ck.2 else ih) e
noncomputable def hgetF (h : Hp) (b : Nat) : Option Blk := List.rec none (fun ck _ ih => bif Nat.beq ck.1 b then some ck.2 else ih) h
noncomputable def evF (o : Opd) (e : Env) (h : Hp) : Option AV := match o with
 | .t n => egetF e n
 | .c v => some v
 | .g g => hglobC h g
noncomputable def evsF (e : Env) (h : Hp) (l : List Opd) : Option (List AV) := List.rec (some []) (fun x _ ih => (evF x e h).bind fun v => ih.bind fun vs => some (v :: vs)) l
noncomputable def evpsF (e : Env) (h : Hp) (l : List (Nat × Nat × Opd)) : Option (List (Nat × Nat × AV)) := List.rec (some []) (fun x _ ih => (evF x.2.2 e h).bind fun v => ih.bind fun vs => some ((x.1, x.2.1, v) :: vs)) l
noncomputable def obindF {α : Type} (e : Env) (h : Hp) (o : Option Opd) (k : Option Int → Option α) : Option α :=
 match o with
 | none => k none
 | some x => (evF x e h).bind fun v => (asJ v).bind fun n => k (some n)
noncomputable def srcF (h : Hp) (esz : Nat) (v : AV) : Option (List Nat × Nat × List AV × Bool) := match v with
 | .ns => some ([], 0, [], true)
 | .s l => some ([], l.length, l.map (fun b => .i .u8 b.toNat), Nat.beq esz 1)
 | .sl b o len _ => (hgetF h b).bind fun k => some ([b], len, cellsAt k.cells o (len * esz), decide ((cellsAt k.cells o (len * esz)).length = len * esz))
 | .sg b o len => (hgetF h b).bind fun k => some ([b], len, cellsAt k.cells o (len * esz), decide ((cellsAt k.cells o (len * esz)).length = len * esz))
 | .fz l len => some ([], len, cellsAt l 0 (len * esz), decide ((cellsAt l 0 (len * esz)).length = len * esz))
 | .ze => some ([], 0, [], true)
 | .en => some ([], 0, [], true)
 | _ => none
noncomputable def s_mv (x : Opd) (e : Env) (h : Hp) (n : Nat) : Option (Bool × Eff) := (evF x e h).bind fun v => pe v n
noncomputable def s_pick (c : Opd) (a : Opd) (b : Opd) (e : Env) (h : Hp) (n : Nat) : Option (Bool × Eff) := (evF c e h).bind fun v => match v with
 | .b true => (evF a e h).bind fun v => pe v n
 | .b false => (evF b e h).bind fun v => pe v n
 | _ => none
noncomputable def s_new (z : List AV) (e : Env) (h : Hp) (n : Nat) : Option (Bool × Eff) := some (true, { v := .p n 0, n := n + 1, nw := [(n, { cells := z })] })
noncomputable def s_box (x : Opd) (e : Env) (h : Hp) (n : Nat) : Option (Bool × Eff) := (evF x e h).bind fun v => some (!v.isAny, { v := .p n 0, n := n + 1, nw := [(n, { cells := v.cells })] })
noncomputable def s_build (z : List AV) (ps : List (Nat × Nat × Opd)) (e : Env) (h : Hp) (n : Nat) : Option (Bool × Eff) := (evpsF e h ps).bind fun l => (fills z l).bind fun cs => pe (.agg cs) n
noncomputable def s_bsl (z : List AV) (len : Nat) (ps : List (Nat × Nat × Opd)) (e : Env) (h : Hp) (n : Nat) : Option (Bool × Eff) := (evpsF e h ps).bind fun l => (fills z l).bind fun cs => some (true, { v := .sl n 0 len len, n := n + 1, nw := [(n, { cells := cs })] })
noncomputable def s_ld (agg : Bool) (z : Nat) (a : Opd) (e : Env) (h : Hp) (n : Nat) : Option (Bool × Eff) := (evF a e h).bind fun v => match v with
 | .p b o => (hgetF h b).bind fun k =>
  match agg with
  | true => some (decide ((cellsAt k.cells o z).length = z), { v := .agg (cellsAt k.cells o z), n, rd := [b] })
  | false => (k.cells[o]?).bind fun v => some (true, { v, n, rd := [b] })
 | .fp l o => match agg with
  | true => some (decide ((cellsAt l o z).length = z), { v := .agg (cellsAt l o z), n })
  | false => (l[o]?).bind fun v => some (true, { v, n })
 | _ => none
noncomputable def s_st (z : Nat) (a : Opd) (x : Opd) (e : Env) (h : Hp) (n : Nat) : Option (Bool × Eff) := (evF a e h).bind fun v => match v with
 | .p b o => (hgetF h b).bind fun k => (evF x e h).bind fun y =>
  match k.ro with
  | true => none
  | false => some (oneAll y.cells && Nat.beq y.cells.length z && decide (o + z ≤ k.cells.length), { v := .tup [], n, rd := [b], md := [(b, some { k with cells := splice k.cells o y.cells })] })
 | _ => none
noncomputable def s_nck (x : Opd) (e : Env) (h : Hp) (n : Nat) : Option (Bool × Eff) := (evF x e h).bind fun v => match v with
 | .p b o => pe (.p b o) n
 | .fn f l => pe (.fn f l) n
 | .bm f l => pe (.bm f l) n
 | .fp l o => pe (.fp l o) n
 | _ => none
noncomputable def s_bin (op : BinOp) (x : Opd) (y : Opd) (e : Env) (h : Hp) (n : Nat) : Option (Bool × Eff) := (evF x e h).bind fun a => (evF y e h).bind fun b => (bin op a b).bind fun r => some (r.1, { v := r.2, n })
noncomputable def s_eqk (neg : Bool) (agg : Bool) (ks : List Kd) (x : Opd) (y : Opd) (e : Env) (h : Hp) (n : Nat) : Option (Bool × Eff) := (evF x e h).bind fun a => (evF y e h).bind fun b => (eqk agg ks a b).bind fun r => pe (.b (bif neg then !r else r)) n
noncomputable def s_eqn (neg : Bool) (k : Nat) (x : Opd) (y : Opd) (e : Env) (h : Hp) (n : Nat) : Option (Bool × Eff) := (evF x e h).bind fun a => (evF y e h).bind fun b => (eqn k a b).bind fun r => pe (.b (bif neg then !r else r)) n
noncomputable def s_not (x : Opd) (e : Env) (h : Hp) (n : Nat) : Option (Bool × Eff) := (evF x e h).bind fun v => match v with
 | .b c => pe (.b !c) n
 | _ => none
noncomputable def s_neg (x : Opd) (e : Env) (h : Hp) (n : Nat) : Option (Bool × Eff) := (evF x e h).bind fun v => match v with
 | .i k m => pe (.i k (k.wrap (0 - m))) n
 | _ => none
noncomputable def s_i2i (k : IntKind) (x : Opd) (e : Env) (h : Hp) (n : Nat) : Option (Bool × Eff) := (evF x e h).bind fun v => match v with
 | .i _ m => pe (.i k (k.wrap m)) n
 | _ => none
noncomputable def s_s2b (x : Opd) (e : Env) (h : Hp) (n : Nat) : Option (Bool × Eff) := (evF x e h).bind fun v => match v with
 | .s l => some (true, { v := .sg n 0 l.length, n := n + 1, nw := [(n, { cells := l.map fun b => .i .u8 b.toNat, gr := some 1 })] })
 | _ => none
noncomputable def s_b2s (x : Opd) (e : Env) (h : Hp) (n : Nat) : Option (Bool × Eff) := (evF x e h).bind fun v => match v with
 | .ns => pe (.s []) n
 | .fz l m => (bytesOf (l.take m)).bind fun s => some (decide (s.length = m), { v := .s s, n })
 | v => (slParts v).bind fun q => (hgetF h q.1).bind fun k => (bytesOf (cellsAt k.cells q.2.1 q.2.2)).bind fun l =>
  some (decide (l.length = q.2.2), { v := .s l, n, rd := [q.1] })
noncomputable def s_idc (x : Opd) (e : Env) (h : Hp) (n : Nat) : Option (Bool × Eff) := (evF x e h).bind fun v => match v with
 | .s l => pe (.s l) n
 | _ => none
noncomputable def s_mkf (f : FuncId) (caps : List Opd) (e : Env) (h : Hp) (n : Nat) : Option (Bool × Eff) := (evsF e h caps).bind fun l => pe (.fn f l) n
noncomputable def s_slS (x : Opd) (lo : Option Opd) (hi : Option Opd) (e : Env) (h : Hp) (n : Nat) : Option (Bool × Eff) := (evF x e h).bind fun v => match v with
 | .s l => obindF e h lo fun lo => obindF e h hi fun hi =>
  let r := sbound l.length l.length lo hi none
  some (r.1, { v := .s ((l.take r.2.2.1).drop r.2.1), n })
 | _ => none
noncomputable def s_slV (z : Nat) (x : Opd) (lo : Option Opd) (hi : Option Opd) (mx : Option Opd) (e : Env) (h : Hp) (n : Nat) : Option (Bool × Eff) := (evF x e h).bind fun v => match v with
 | .ns => obindF e h lo fun lo => obindF e h hi fun hi => obindF e h mx fun mx =>
  let r := sbound 0 0 lo hi mx
  some (r.1, { v := .ns, n })
 | .sl b o len cap => obindF e h lo fun lo => obindF e h hi fun hi => obindF e h mx fun mx =>
  let r := sbound len cap lo hi mx
  some (r.1, { v := .sl b (if r.2.2.2 = r.2.1 then o else o + r.2.1 * z) (r.2.2.1 - r.2.1) (r.2.2.2 - r.2.1), n })
 | .sg b o len => match mx with
  | some _ => none
  | none => (hgetF h b).bind fun k => obindF e h lo fun lo => obindF e h hi fun hi =>
   let r := sbound len len lo hi none
   match k.gr with
   | some z' => match decide (r.2.1 = 0 ∨ r.2.1 < len) with
    | true => some (r.1 && Nat.beq z z', { v := .sg b (o + r.2.1 * z) (r.2.2.1 - r.2.1), n, rd := [b] })
    | false => some (r.1 && Nat.beq z z', { v := .en, n, rd := [b] })
   | none => none
 | .fz l len => obindF e h lo fun lo => obindF e h hi fun hi => obindF e h mx fun mx =>
  let r := sbound len len lo hi mx
  some (r.1, { v := if mx.isSome ∧ r.2.2.2 = r.2.1 then .ze else .fz (l.drop (r.2.1 * z)) (r.2.2.1 - r.2.1), n })
 | .ze => obindF e h lo fun lo => obindF e h hi fun hi => obindF e h mx fun mx =>
  let r := sbound 0 0 lo hi mx
  some (r.1, { v := .ze, n })
 | _ => none
noncomputable def s_slA (m : Nat) (z : Nat) (x : Opd) (lo : Option Opd) (hi : Option Opd) (mx : Option Opd) (e : Env) (h : Hp) (n : Nat) : Option (Bool × Eff) := (evF x e h).bind fun v => match v with
 | .p b o => obindF e h lo fun lo => obindF e h hi fun hi => obindF e h mx fun mx =>
  let r := sbound m m lo hi mx
  some (r.1, { v := .sl b (if r.2.2.2 = r.2.1 then o else o + r.2.1 * z) (r.2.2.1 - r.2.1) (r.2.2.2 - r.2.1), n })
 | _ => none
noncomputable def s_fa (off : Nat) (x : Opd) (e : Env) (h : Hp) (n : Nat) : Option (Bool × Eff) := (evF x e h).bind fun v => match v with
 | .p b o => pe (.p b (o + off)) n
 | .fp l o => pe (.fp l (o + off)) n
 | _ => none
noncomputable def s_fld (agg : Bool) (z : Nat) (off : Nat) (x : Opd) (e : Env) (h : Hp) (n : Nat) : Option (Bool × Eff) := (evF x e h).bind fun v => match v with
 | .agg l => match agg with
  | true => some (decide (off + z ≤ l.length), { v := .agg (cellsAt l off z), n })
  | false => (l[off]?).bind fun v => pe v n
 | _ => none
noncomputable def s_ixaA (m : Nat) (z : Nat) (x : Opd) (i : Opd) (e : Env) (h : Hp) (n : Nat) : Option (Bool × Eff) := (evF x e h).bind fun v => (evF i e h).bind fun i => (asJ i).bind fun i => match v with
 | .p b o => some (decide (0 ≤ i ∧ i < m), { v := .p b (o + i.toNat * z), n })
 | .fp l o => some (decide (0 ≤ i ∧ i < m), { v := .fp l (o + i.toNat * z), n })
 | _ => none
noncomputable def s_ixaV (z : Nat) (x : Opd) (i : Opd) (e : Env) (h : Hp) (n : Nat) : Option (Bool × Eff) := (evF x e h).bind fun v => (evF i e h).bind fun i => (asJ i).bind fun i => match v with
 | .fz l len => some (decide (0 ≤ i ∧ i < len), { v := .fp l (i.toNat * z), n })
 | v => (slParts v).bind fun q => some (decide (0 ≤ i ∧ i < q.2.2), { v := .p q.1 (q.2.1 + i.toNat * z), n })
noncomputable def s_ixA (m : Nat) (z : Nat) (agg : Bool) (x : Opd) (i : Opd) (e : Env) (h : Hp) (n : Nat) : Option (Bool × Eff) := (evF x e h).bind fun v => (evF i e h).bind fun i => (asJ i).bind fun i => match v with
 | .agg l => match agg with
  | true => some (decide (0 ≤ i ∧ i < m) && decide (i.toNat * z + z ≤ l.length), { v := .agg (cellsAt l (i.toNat * z) z), n })
  | false => (l[i.toNat * z]?).bind fun v => some (decide (0 ≤ i ∧ i < m), { v, n })
 | _ => none
noncomputable def s_ixS (x : Opd) (i : Opd) (e : Env) (h : Hp) (n : Nat) : Option (Bool × Eff) := (evF x e h).bind fun v => (evF i e h).bind fun i => (asJ i).bind fun i => match v with
 | .s l => some (decide (0 ≤ i ∧ i < l.length), { v := .i .u8 ((l[i.toNat]?).getD 0).toNat, n })
 | _ => none
noncomputable def s_ext (x : Opd) (i : Nat) (e : Env) (h : Hp) (n : Nat) : Option (Bool × Eff) := (evF x e h).bind fun v => match v with
 | .tup l => (l[i]?).bind fun v => pe v n
 | _ => none
noncomputable def s_lenS (x : Opd) (e : Env) (h : Hp) (n : Nat) : Option (Bool × Eff) := (evF x e h).bind fun v => match v with
 | .s l => pe (.i .i64 l.length) n
 | _ => none
noncomputable def s_lenV (x : Opd) (e : Env) (h : Hp) (n : Nat) : Option (Bool × Eff) := (evF x e h).bind fun v => match v with
 | .ns => pe (.i .i64 0) n
 | .fz _ len => pe (.i .i64 len) n
 | .ze => pe (.i .i64 0) n
 | .en => pe (.i .i64 0) n
 | v => (slParts v).bind fun q => pe (.i .i64 q.2.2) n
noncomputable def s_lenC (m : Nat) (e : Env) (h : Hp) (n : Nat) : Option (Bool × Eff) := pe (.i .i64 m) n
noncomputable def s_capV (x : Opd) (e : Env) (h : Hp) (n : Nat) : Option (Bool × Eff) := (evF x e h).bind fun v => match v with
 | .ns => pe (.i .i64 0) n
 | .sl _ _ _ cap => pe (.i .i64 cap) n
 | .ze => pe (.i .i64 0) n
 | _ => none
noncomputable def s_mn (x : Opd) (xs : List Opd) (e : Env) (h : Hp) (n : Nat) : Option (Bool × Eff) := (evF x e h).bind fun v => (asK v).bind fun a => (evsF e h xs).bind fun l => (minI a.1 a.2 l).bind fun m => pe (.i a.1 m) n
noncomputable def s_mx (x : Opd) (xs : List Opd) (e : Env) (h : Hp) (n : Nat) : Option (Bool × Eff) := (evF x e h).bind fun v => (asK v).bind fun a => (evsF e h xs).bind fun l => (maxI a.1 a.2 l).bind fun m => pe (.i a.1 m) n
noncomputable def s_mks (z : Nat) (bytes : Nat) (zs : List AV) (l : Opd) (c : Opd) (e : Env) (h : Hp) (n : Nat) : Option (Bool × Eff) := (evF l e h).bind fun l => (asI l).bind fun l => (evF c e h).bind fun c => (asI c).bind fun c =>
 some (decide (0 ≤ l ∧ l ≤ c ∧ bytes * c ≤ 281474976710656 ∧ c ≤ 9223372036854775807), { v := .sl n 0 l.toNat c.toNat, n := n + 1, nw := [(n, { cells := zeros zs c.toNat })] })
noncomputable def s_app (z : Nat) (bytes : Nat) (zs : List AV) (s : Opd) (x : Opd) (e : Env) (h : Hp) (n : Nat) : Option (Bool × Eff) := (evF s e h).bind fun s => (evF x e h).bind fun x => (srcF h z x).bind fun r =>
 if r.2.1 = 0 then (match s with
  | .ns => some (r.2.2.2, { v := .ns, n, rd := r.1 })
  | .sl b o len cap => some (r.2.2.2 && decide (len ≤ cap), { v := .sl b o len cap, n, rd := r.1 })
  | .sg b o len => some (r.2.2.2, { v := .sg b o len, n, rd := r.1 })
  | .ze => some (r.2.2.2, { v := .ze, n, rd := r.1 })
  | .fz l len => some (r.2.2.2, { v := .fz l len, n, rd := r.1 })
  | _ => none)
 else match s with
 | .ns => some (r.2.2.2 && decide (bytes * r.2.1 ≤ growMax), { v := .sg n 0 r.2.1, n := n + 1, rd := r.1, nw := [(n, { cells := r.2.2.1, gr := some z })] })
 | .ze => some (r.2.2.2 && decide (bytes * r.2.1 ≤ growMax), { v := .sg n 0 r.2.1, n := n + 1, rd := r.1, nw := [(n, { cells := r.2.2.1, gr := some z })] })
 | .sl b o len cap => (hgetF h b).bind fun k =>
  if len + r.2.1 ≤ cap then
   match k.ro with
   | true => none
   | false => some (r.2.2.2 && decide (o + len * z + r.2.2.1.length ≤ k.cells.length) && oneAll r.2.2.1, { v := .sl b o (len + r.2.1) cap, n, rd := b :: r.1, md := [(b, some { k with cells := splice k.cells (o + len * z) r.2.2.1 })] })
  else some (r.2.2.2 && decide (bytes * (len + r.2.1) ≤ growMax) && decide ((cellsAt k.cells o (len * z)).length = len * z) && decide (len ≤ cap), { v := .sg n 0 (len + r.2.1), n := n + 1, rd := b :: r.1, nw := [(n, { cells := cellsAt k.cells o (len * z) ++ r.2.2.1, gr := some z })] })
 | .sg b o len => (hgetF h b).bind fun k =>
  match k.gr with
  | some z' => some (r.2.2.2 && decide (bytes * (len + r.2.1) ≤ growMax) && Nat.beq z z' && decide (k.cells.length = o + len * z) && oneAll r.2.2.1, { v := .sg n 0 (len + r.2.1), n := n + 1, rd := b :: r.1, md := [(b, none)], nw := [(n, { cells := k.cells.drop o ++ r.2.2.1, gr := some z })] })
  | none => none
 | _ => none
noncomputable def s_apz (z : Nat) (bytes : Nat) (zs : List AV) (s : Opd) (x : Opd) (e : Env) (h : Hp) (n : Nat) : Option (Bool × Eff) := (evF s e h).bind fun s => (evF x e h).bind fun x => (asI x).bind fun m => match s with
 | .sl b o len cap => (hgetF h b).bind fun k =>
  some (decide (0 < m) && decide (cap < len + m.toNat) && decide (bytes * (len + m.toNat) ≤ growMax) && decide ((cellsAt k.cells o (len * z)).length = len * z), { v := .sg n 0 (len + m.toNat), n := n + 1, rd := [b], nw := [(n, { cells := cellsAt k.cells o (len * z) ++ zeros zs m.toNat, gr := some z })] })
 | _ => none
noncomputable def s_cpy (z : Nat) (d : Opd) (s : Opd) (e : Env) (h : Hp) (n : Nat) : Option (Bool × Eff) := (evF d e h).bind fun d => (evF s e h).bind fun s => (srcF h z s).bind fun r =>
 match d with
 | .ns => some (r.2.2.2, { v := .i .i64 0, n, rd := r.1 })
 | .en => some (r.2.2.2, { v := .i .i64 0, n, rd := r.1 })
 | d => (slParts d).bind fun q => (hgetF h q.1).bind fun k =>
  match k.ro with
  | true => none
  | false => some (r.2.2.2 && (oneAll r.2.2.1 || oneAll (r.2.2.1.take (Nat.min r.2.1 q.2.2 * z))) && decide (q.2.1 + Nat.min r.2.1 q.2.2 * z ≤ k.cells.length), { v := .i .i64 (Nat.min r.2.1 q.2.2), n, rd := q.1 :: r.1, md := [(q.1, some { k with cells := splice k.cells q.2.1 (r.2.2.1.take (Nat.min r.2.1 q.2.2 * z)) })] })
noncomputable def s_clr (z : Nat) (zs : List AV) (x : Opd) (e : Env) (h : Hp) (n : Nat) : Option (Bool × Eff) := (evF x e h).bind fun v => match v with
 | .ns => pe (.tup []) n
 | v => (slParts v).bind fun q => (hgetF h q.1).bind fun k =>
  match k.ro with
  | true => none
  | false => some (oneAll zs && Nat.beq zs.length z && decide (q.2.1 + q.2.2 * z ≤ k.cells.length), { v := .tup [], n, rd := [q.1], md := [(q.1, some { k with cells := splice k.cells q.2.1 (zeros zs q.2.2) })] })
noncomputable def s_call (cx : Cx) (f : Opd) (args : List Opd) (e : Env) (h : Hp) (n : Nat) : Option (Bool × Eff) := (evF f e h).bind fun v => match v with
 | .fn g caps => (evsF e h args).bind fun l => cx g (l ++ caps) h n
 | .bm g fs => (evsF e h args).bind fun l => cx g (fs ++ l) h n
 | .yl L r ts cs => (evsF e h args).bind fun l => cx YB (.yl L r ts cs :: l) h n
 | _ => none
noncomputable def s_bad (e : Env) (h : Hp) (n : Nat) : Option (Bool × Eff) := none
noncomputable def stF (cx : Cx) (o : IOp) : Env → Hp → Nat → Option (Bool × Eff) := match o with
 | .mv x0 => s_mv x0
 | .pick x0 x1 x2 => s_pick x0 x1 x2
 | .new x0 => s_new x0
 | .box x0 => s_box x0
 | .build x0 x1 => s_build x0 x1
 | .bsl x0 x1 x2 => s_bsl x0 x1 x2
 | .ld x0 x1 x2 => s_ld x0 x1 x2
 | .st x0 x1 x2 => s_st x0 x1 x2
 | .nck x0 => s_nck x0
 | .bin x0 x1 x2 => s_bin x0 x1 x2
 | .eqk x0 x1 x2 x3 x4 => s_eqk x0 x1 x2 x3 x4
 | .eqn x0 x1 x2 x3 => s_eqn x0 x1 x2 x3
 | .not x0 => s_not x0
 | .neg x0 => s_neg x0
 | .i2i x0 x1 => s_i2i x0 x1
 | .s2b x0 => s_s2b x0
 | .b2s x0 => s_b2s x0
 | .idc x0 => s_idc x0
 | .mkf x0 x1 => s_mkf x0 x1
 | .slS x0 x1 x2 => s_slS x0 x1 x2
 | .slV x0 x1 x2 x3 x4 => s_slV x0 x1 x2 x3 x4
 | .slA x0 x1 x2 x3 x4 x5 => s_slA x0 x1 x2 x3 x4 x5
 | .fa x0 x1 => s_fa x0 x1
 | .fld x0 x1 x2 x3 => s_fld x0 x1 x2 x3
 | .ixaA x0 x1 x2 x3 => s_ixaA x0 x1 x2 x3
 | .ixaV x0 x1 x2 => s_ixaV x0 x1 x2
 | .ixA x0 x1 x2 x3 x4 => s_ixA x0 x1 x2 x3 x4
 | .ixS x0 x1 => s_ixS x0 x1
 | .ext x0 x1 => s_ext x0 x1
 | .lenS x0 => s_lenS x0
 | .lenV x0 => s_lenV x0
 | .lenC x0 => s_lenC x0
 | .capV x0 => s_capV x0
 | .mn x0 x1 => s_mn x0 x1
 | .mx x0 x1 => s_mx x0 x1
 | .mks x0 x1 x2 x3 x4 => s_mks x0 x1 x2 x3 x4
 | .app x0 x1 x2 x3 x4 => s_app x0 x1 x2 x3 x4
 | .apz x0 x1 x2 x3 x4 => s_apz x0 x1 x2 x3 x4
 | .cpy x0 x1 x2 => s_cpy x0 x1 x2
 | .clr x0 x1 x2 => s_clr x0 x1 x2
 | .mkm x0 x1 => stepC cx (.mkm x0 x1)
 | .mki x0 x1 => stepC cx (.mki x0 x1)
 | .tas x0 x1 x2 => stepC cx (.tas x0 x1 x2)
 | .eqi x0 x1 => stepC cx (.eqi x0 x1)
 | .pan x0 => stepC cx (.pan x0)
 | .rcv => stepC cx (.rcv)
 | .dfr x0 x1 => stepC cx (.dfr x0 x1)
 | .call f args => s_call cx f args
 | .bad => s_bad
/-! ### the executor -/
noncomputable def forceN {R : Type} (m : Nat) (k : Nat → R) : R := Nat.rec (k 0) (fun j _ => k (j + 1)) m
noncomputable def forceI {R : Type} (m : Int) (k : Int → R) : R := Int.rec (fun j => forceN j fun j => k (Int.ofNat j)) (fun j => forceN j fun j => k (Int.negSucc j)) m
noncomputable def forceV {R : Type} (v : AV) (k : AV → R) : R := match v with
 | .i t m => forceI m fun m => k (.i t m)
 | .b c => bif c then k (.b true) else k (.b false)
 | .p b o => forceN b fun b => forceN o fun o => k (.p b o)
 | v => k v
noncomputable def forceL {R : Type} (l : List AV) (k : List AV → R) : R := (List.rec (motive := fun _ => (List AV → R) → R) (fun k => k []) (fun a _ ih k => forceV a fun a => ih fun l => k (a :: l)) l) k
noncomputable def forceW {R : Type} (v : AV) (k : AV → R) : R := match v with
 | .agg l => forceL l fun l => k (.agg l)
 | .tup l => forceL l fun l => k (.tup l)
 | v => forceV v k
noncomputable def forceB {R : Type} (b : Blk) (k : Blk → R) : R := match b with
 | ⟨c, ro, gr, gid⟩ => forceL c fun c => k ⟨c, ro, gr, gid⟩
noncomputable def forceMd {R : Type} (l : List (Nat × Option Blk)) (k : List (Nat × Option Blk) → R) : R := (List.rec (motive := fun _ => (List (Nat × Option Blk) → R) → R) (fun k => k []) (fun a _ ih k => match a with
 | (b, some x) => forceN b fun b => forceB x fun x => ih fun l => k ((b, some x) :: l)
 | (b, none) => forceN b fun b => ih fun l => k ((b, none) :: l)) l) k
noncomputable def forceNw {R : Type} (l : List (Nat × Blk)) (k : List (Nat × Blk) → R) : R := (List.rec (motive := fun _ => (List (Nat × Blk) → R) → R) (fun k => k []) (fun a _ ih k => match a with
 | (b, x) => forceN b fun b => forceB x fun x => ih fun l => k ((b, x) :: l)) l) k
noncomputable def forceE {R : Type} (E : Eff) (k : Eff → R) : R := match E with
 | ⟨v, n, rd, md, nw, pn⟩ => forceW v fun v => forceN n fun n => forceMd md fun md => forceNw nw fun nw => k ⟨v, n, rd, md, nw, pn⟩
noncomputable def wantF (e : Env) (g : Option (Nat × Bool)) : Option Bool := match g with
 | none => some true
 | some tb => (egetF e tb.1).bind fun v => match v with
  | .b c => some (bif tb.2 then c else !c)
  | .tup [] => some false
  | _ => none
noncomputable def one (cx : Cx) (o : IOper) (ih : Env → Hp → Nat → Option (Env × Hp × Nat)) (e : Env) (h : Hp) (n : Nat) : Option (Env × Hp × Nat) := match wantF e o.guard with
 | some true => match stF cx o.op e h n with
  | some (true, E) => forceE E fun E => match E.pn with
   | none => ih (eput o.dst E.v e) (E.appL h) E.n
   | some _ => none
  | _ => none
 | some false => ih (eput o.dst (.tup []) e) h n
 | none => none
section
variable {P : Program} {ct : List Nat} {N n0 : Nat}
theorem WP.sub {c : Code} {K : Kont} {e e2 : Env} {h : Hp} {n : Nat} (hs : ∀ t v, eget e2 t = some v → eget e t = some v) (hw : WP P N n0 c K e2 h n) : WP P N n0 c K e h n := fun ro hro B D0 φ0 H0 w0 h1 h2 D φ a w hR hS =>
 hw ro hro B D0 φ0 H0 w0 h1 h2 D φ a w ⟨hR.lt, fun t v ht => hR.env t v (hs t v ht), hR.heap, hR.size, hR.defers⟩ hS
end
/-! ### calls that are known -/
structure MEnt where
 f : Nat
 a : List AV
 h : Hp
 k : Nat
 v : AV
 hR : Hp
 kR : Nat
structure MEnt.ok (P : Program) (m : MEnt) : Prop where
 call : callable P m.f = true
 ftl : FTL P m.f m.a m.h m.k m.v m.hR m.kR
 le : m.k ≤ m.kR
 names : hOK m.h m.k m.kR m.hR = true
noncomputable def MOK (P : Program) (M : List MEnt) : Prop := ∀ m ∈ M, m.ok P
theorem MOK.nil {P : Program} : MOK P [] := fun m h => by cases h
theorem MOK.cons {P : Program} {m : MEnt} {M : List MEnt} (h : m.ok P) (hM : MOK P M) : MOK P (m :: M) := fun x hx => by
 rcases List.mem_cons.1 hx with rfl | hx
 · exact h
 · exact hM x hx
end Go.Ab
