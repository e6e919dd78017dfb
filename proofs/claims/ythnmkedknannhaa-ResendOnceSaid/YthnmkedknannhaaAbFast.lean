/- The abstract layer, part 35: the operations once more, each a small definition, for runs in the kernel; printed by tools/mkfast.py out of AbOps. -/
import Derived.Test.YthnmkedknannhaaAbExecs
namespace Go.Ab
set_option linter.unusedVariables false
set_option linter.unusedSimpArgs false
noncomputable def egetF (e : Env) (b : Nat) : Option AV := List.rec none (fun ck _ ih => bif Nat.beq ck.1 b then some ck.2 else ih) e
noncomputable def hgetF (h : Hp) (b : Nat) : Option Blk := List.rec none (fun ck _ ih => bif Nat.beq ck.1 b then some ck.2 else ih) h
theorem egetF_eq (e : Env) (b : Nat) : egetF e b = eget e b := by
 induction e with
 | nil => rfl
 | cons x e ih => obtain ⟨c, k⟩ := x; simp only [eget, ← ih]; rfl
theorem hgetF_eq (h : Hp) (b : Nat) : hgetF h b = hget h b := by
 induction h with
 | nil => rfl
 | cons x h ih => obtain ⟨c, k⟩ := x; simp only [hget, ← ih]; rfl
noncomputable def evF (o : Opd) (e : Env) (h : Hp) : Option AV := match o with
 | .t n => egetF e n
 | .c v => some v
 | .g g => hglobC h g
theorem evF_eq (o : Opd) (e : Env) (h : Hp) : evF o e h = o.ev e h := by
 cases o
 · exact egetF_eq e _
 · rfl
 · rfl
noncomputable def evsF (e : Env) (h : Hp) (l : List Opd) : Option (List AV) := List.rec (some []) (fun x _ ih => (evF x e h).bind fun v => ih.bind fun vs => some (v :: vs)) l
theorem evsF_eq (e : Env) (h : Hp) (l : List Opd) : evsF e h l = evs e h l := by
 induction l with
 | nil => rfl
 | cons x l ih => simp only [evs, ← ih, ← evF_eq]; rfl
noncomputable def evpsF (e : Env) (h : Hp) (l : List (Nat × Nat × Opd)) : Option (List (Nat × Nat × AV)) := List.rec (some []) (fun x _ ih => (evF x.2.2 e h).bind fun v => ih.bind fun vs => some ((x.1, x.2.1, v) :: vs)) l
theorem evpsF_eq (e : Env) (h : Hp) (l : List (Nat × Nat × Opd)) : evpsF e h l = evps e h l := by
 induction l with
 | nil => rfl
 | cons x l ih => obtain ⟨a, b, c⟩ := x; simp only [evps, ← ih, ← evF_eq]; rfl
noncomputable def obindF {α : Type} (e : Env) (h : Hp) (o : Option Opd) (k : Option Int → Option α) : Option α :=
 match o with
 | none => k none
 | some x => (evF x e h).bind fun v => (asJ v).bind fun n => k (some n)
theorem obindF_eq {α : Type} (e : Env) (h : Hp) (o : Option Opd) (k : Option Int → Option α) : obindF e h o k = obind e h o k := by
 cases o with
 | none => rfl
 | some x => simp only [obindF, obind, evF_eq]
noncomputable def srcF (h : Hp) (esz : Nat) (v : AV) : Option (List Nat × Nat × List AV × Bool) := match v with
 | .ns => some ([], 0, [], true)
 | .s l => some ([], l.length, l.map (fun b => .i .u8 b.toNat), Nat.beq esz 1)
 | .sl b o len _ => (hgetF h b).bind fun k => some ([b], len, cellsAt k.cells o (len * esz), decide ((cellsAt k.cells o (len * esz)).length = len * esz))
 | .sg b o len => (hgetF h b).bind fun k => some ([b], len, cellsAt k.cells o (len * esz), decide ((cellsAt k.cells o (len * esz)).length = len * esz))
 | .fz l len => some ([], len, cellsAt l 0 (len * esz), decide ((cellsAt l 0 (len * esz)).length = len * esz))
 | .ze => some ([], 0, [], true)
 | .en => some ([], 0, [], true)
 | _ => none
theorem srcF_eq (h : Hp) (z : Nat) (v : AV) : srcF h z v = srcCells h z v := by
 cases v <;> simp only [srcF, srcCells, hgetF_eq]
noncomputable def s_mv (x : Opd) (e : Env) (h : Hp) (n : Nat) : Option (Bool × Eff) := (evF x e h).bind fun v => pe v n
theorem s_mv_eq (x0 : Opd) (e : Env) (h : Hp) (n : Nat) : s_mv x0 e h n = step (.mv x0) e h n := by
 simp only [s_mv, evF_eq, evsF_eq, evpsF_eq, obindF_eq, hgetF_eq, srcF_eq]
 try rfl
noncomputable def s_pick (c : Opd) (a : Opd) (b : Opd) (e : Env) (h : Hp) (n : Nat) : Option (Bool × Eff) := (evF c e h).bind fun v => match v with
 | .b true => (evF a e h).bind fun v => pe v n
 | .b false => (evF b e h).bind fun v => pe v n
 | _ => none
theorem s_pick_eq (x0 : Opd) (x1 : Opd) (x2 : Opd) (e : Env) (h : Hp) (n : Nat) : s_pick x0 x1 x2 e h n = step (.pick x0 x1 x2) e h n := by
 simp only [s_pick, evF_eq, evsF_eq, evpsF_eq, obindF_eq, hgetF_eq, srcF_eq]
 try rfl
noncomputable def s_new (z : List AV) (e : Env) (h : Hp) (n : Nat) : Option (Bool × Eff) := some (true, { v := .p n 0, n := n + 1, nw := [(n, { cells := z })] })
theorem s_new_eq (x0 : List AV) (e : Env) (h : Hp) (n : Nat) : s_new x0 e h n = step (.new x0) e h n := by
 simp only [s_new, evF_eq, evsF_eq, evpsF_eq, obindF_eq, hgetF_eq, srcF_eq]
 try rfl
noncomputable def s_box (x : Opd) (e : Env) (h : Hp) (n : Nat) : Option (Bool × Eff) := (evF x e h).bind fun v => some (!v.isAny, { v := .p n 0, n := n + 1, nw := [(n, { cells := v.cells })] })
theorem s_box_eq (x0 : Opd) (e : Env) (h : Hp) (n : Nat) : s_box x0 e h n = step (.box x0) e h n := by
 simp only [s_box, evF_eq, evsF_eq, evpsF_eq, obindF_eq, hgetF_eq, srcF_eq]
 try rfl
noncomputable def s_build (z : List AV) (ps : List (Nat × Nat × Opd)) (e : Env) (h : Hp) (n : Nat) : Option (Bool × Eff) := (evpsF e h ps).bind fun l => (fills z l).bind fun cs => pe (.agg cs) n
theorem s_build_eq (x0 : List AV) (x1 : List (Nat × Nat × Opd)) (e : Env) (h : Hp) (n : Nat) : s_build x0 x1 e h n = step (.build x0 x1) e h n := by
 simp only [s_build, evF_eq, evsF_eq, evpsF_eq, obindF_eq, hgetF_eq, srcF_eq]
 try rfl
noncomputable def s_bsl (z : List AV) (len : Nat) (ps : List (Nat × Nat × Opd)) (e : Env) (h : Hp) (n : Nat) : Option (Bool × Eff) := (evpsF e h ps).bind fun l => (fills z l).bind fun cs => some (true, { v := .sl n 0 len len, n := n + 1, nw := [(n, { cells := cs })] })
theorem s_bsl_eq (x0 : List AV) (x1 : Nat) (x2 : List (Nat × Nat × Opd)) (e : Env) (h : Hp) (n : Nat) : s_bsl x0 x1 x2 e h n = step (.bsl x0 x1 x2) e h n := by
 simp only [s_bsl, evF_eq, evsF_eq, evpsF_eq, obindF_eq, hgetF_eq, srcF_eq]
 try rfl
noncomputable def s_ld (agg : Bool) (z : Nat) (a : Opd) (e : Env) (h : Hp) (n : Nat) : Option (Bool × Eff) := (evF a e h).bind fun v => match v with
 | .p b o => (hgetF h b).bind fun k =>
  match agg with
  | true => some (decide ((cellsAt k.cells o z).length = z), { v := .agg (cellsAt k.cells o z), n, rd := [b] })
  | false => (k.cells[o]?).bind fun v => some (true, { v, n, rd := [b] })
 | .fp l o => match agg with
  | true => some (decide ((cellsAt l o z).length = z), { v := .agg (cellsAt l o z), n })
  | false => (l[o]?).bind fun v => some (true, { v, n })
 | _ => none
theorem s_ld_eq (x0 : Bool) (x1 : Nat) (x2 : Opd) (e : Env) (h : Hp) (n : Nat) : s_ld x0 x1 x2 e h n = step (.ld x0 x1 x2) e h n := by
 simp only [s_ld, evF_eq, evsF_eq, evpsF_eq, obindF_eq, hgetF_eq, srcF_eq]
 try rfl
noncomputable def s_st (z : Nat) (a : Opd) (x : Opd) (e : Env) (h : Hp) (n : Nat) : Option (Bool × Eff) := (evF a e h).bind fun v => match v with
 | .p b o => (hgetF h b).bind fun k => (evF x e h).bind fun y =>
  match k.ro with
  | true => none
  | false => some (oneAll y.cells && Nat.beq y.cells.length z && decide (o + z ≤ k.cells.length), { v := .tup [], n, rd := [b], md := [(b, some { k with cells := splice k.cells o y.cells })] })
 | _ => none
theorem s_st_eq (x0 : Nat) (x1 : Opd) (x2 : Opd) (e : Env) (h : Hp) (n : Nat) : s_st x0 x1 x2 e h n = step (.st x0 x1 x2) e h n := by
 simp only [s_st, evF_eq, evsF_eq, evpsF_eq, obindF_eq, hgetF_eq, srcF_eq]
 try rfl
noncomputable def s_nck (x : Opd) (e : Env) (h : Hp) (n : Nat) : Option (Bool × Eff) := (evF x e h).bind fun v => match v with
 | .p b o => pe (.p b o) n
 | .fn f l => pe (.fn f l) n
 | .bm f l => pe (.bm f l) n
 | .fp l o => pe (.fp l o) n
 | _ => none
theorem s_nck_eq (x0 : Opd) (e : Env) (h : Hp) (n : Nat) : s_nck x0 e h n = step (.nck x0) e h n := by
 simp only [s_nck, evF_eq, evsF_eq, evpsF_eq, obindF_eq, hgetF_eq, srcF_eq]
 try rfl
noncomputable def s_bin (op : BinOp) (x : Opd) (y : Opd) (e : Env) (h : Hp) (n : Nat) : Option (Bool × Eff) := (evF x e h).bind fun a => (evF y e h).bind fun b => (bin op a b).bind fun r => some (r.1, { v := r.2, n })
theorem s_bin_eq (x0 : BinOp) (x1 : Opd) (x2 : Opd) (e : Env) (h : Hp) (n : Nat) : s_bin x0 x1 x2 e h n = step (.bin x0 x1 x2) e h n := by
 simp only [s_bin, evF_eq, evsF_eq, evpsF_eq, obindF_eq, hgetF_eq, srcF_eq]
 try rfl
noncomputable def s_eqk (neg : Bool) (agg : Bool) (ks : List Kd) (x : Opd) (y : Opd) (e : Env) (h : Hp) (n : Nat) : Option (Bool × Eff) := (evF x e h).bind fun a => (evF y e h).bind fun b => (eqk agg ks a b).bind fun r => pe (.b (bif neg then !r else r)) n
theorem s_eqk_eq (x0 : Bool) (x1 : Bool) (x2 : List Kd) (x3 : Opd) (x4 : Opd) (e : Env) (h : Hp) (n : Nat) : s_eqk x0 x1 x2 x3 x4 e h n = step (.eqk x0 x1 x2 x3 x4) e h n := by
 simp only [s_eqk, evF_eq, evsF_eq, evpsF_eq, obindF_eq, hgetF_eq, srcF_eq]
 try rfl
noncomputable def s_eqn (neg : Bool) (k : Nat) (x : Opd) (y : Opd) (e : Env) (h : Hp) (n : Nat) : Option (Bool × Eff) := (evF x e h).bind fun a => (evF y e h).bind fun b => (eqn k a b).bind fun r => pe (.b (bif neg then !r else r)) n
theorem s_eqn_eq (x0 : Bool) (x1 : Nat) (x2 : Opd) (x3 : Opd) (e : Env) (h : Hp) (n : Nat) : s_eqn x0 x1 x2 x3 e h n = step (.eqn x0 x1 x2 x3) e h n := by
 simp only [s_eqn, evF_eq, evsF_eq, evpsF_eq, obindF_eq, hgetF_eq, srcF_eq]
 try rfl
noncomputable def s_not (x : Opd) (e : Env) (h : Hp) (n : Nat) : Option (Bool × Eff) := (evF x e h).bind fun v => match v with
 | .b c => pe (.b !c) n
 | _ => none
theorem s_not_eq (x0 : Opd) (e : Env) (h : Hp) (n : Nat) : s_not x0 e h n = step (.not x0) e h n := by
 simp only [s_not, evF_eq, evsF_eq, evpsF_eq, obindF_eq, hgetF_eq, srcF_eq]
 try rfl
noncomputable def s_neg (x : Opd) (e : Env) (h : Hp) (n : Nat) : Option (Bool × Eff) := (evF x e h).bind fun v => match v with
 | .i k m => pe (.i k (k.wrap (0 - m))) n
 | _ => none
theorem s_neg_eq (x0 : Opd) (e : Env) (h : Hp) (n : Nat) : s_neg x0 e h n = step (.neg x0) e h n := by
 simp only [s_neg, evF_eq, evsF_eq, evpsF_eq, obindF_eq, hgetF_eq, srcF_eq]
 try rfl
noncomputable def s_i2i (k : IntKind) (x : Opd) (e : Env) (h : Hp) (n : Nat) : Option (Bool × Eff) := (evF x e h).bind fun v => match v with
 | .i _ m => pe (.i k (k.wrap m)) n
 | _ => none
theorem s_i2i_eq (x0 : IntKind) (x1 : Opd) (e : Env) (h : Hp) (n : Nat) : s_i2i x0 x1 e h n = step (.i2i x0 x1) e h n := by
 simp only [s_i2i, evF_eq, evsF_eq, evpsF_eq, obindF_eq, hgetF_eq, srcF_eq]
 try rfl
noncomputable def s_s2b (x : Opd) (e : Env) (h : Hp) (n : Nat) : Option (Bool × Eff) := (evF x e h).bind fun v => match v with
 | .s l => some (true, { v := .sg n 0 l.length, n := n + 1, nw := [(n, { cells := l.map fun b => .i .u8 b.toNat, gr := some 1 })] })
 | _ => none
theorem s_s2b_eq (x0 : Opd) (e : Env) (h : Hp) (n : Nat) : s_s2b x0 e h n = step (.s2b x0) e h n := by
 simp only [s_s2b, evF_eq, evsF_eq, evpsF_eq, obindF_eq, hgetF_eq, srcF_eq]
 try rfl
noncomputable def s_b2s (x : Opd) (e : Env) (h : Hp) (n : Nat) : Option (Bool × Eff) := (evF x e h).bind fun v => match v with
 | .ns => pe (.s []) n
 | v => (slParts v).bind fun q => (hgetF h q.1).bind fun k => (bytesOf (cellsAt k.cells q.2.1 q.2.2)).bind fun l =>
  some (decide (l.length = q.2.2), { v := .s l, n, rd := [q.1] })
theorem s_b2s_eq (x0 : Opd) (e : Env) (h : Hp) (n : Nat) : s_b2s x0 e h n = step (.b2s x0) e h n := by
 simp only [s_b2s, evF_eq, evsF_eq, evpsF_eq, obindF_eq, hgetF_eq, srcF_eq]
 try rfl
noncomputable def s_idc (x : Opd) (e : Env) (h : Hp) (n : Nat) : Option (Bool × Eff) := (evF x e h).bind fun v => match v with
 | .s l => pe (.s l) n
 | _ => none
theorem s_idc_eq (x0 : Opd) (e : Env) (h : Hp) (n : Nat) : s_idc x0 e h n = step (.idc x0) e h n := by
 simp only [s_idc, evF_eq, evsF_eq, evpsF_eq, obindF_eq, hgetF_eq, srcF_eq]
 try rfl
noncomputable def s_mkf (f : FuncId) (caps : List Opd) (e : Env) (h : Hp) (n : Nat) : Option (Bool × Eff) := (evsF e h caps).bind fun l => pe (.fn f l) n
theorem s_mkf_eq (x0 : FuncId) (x1 : List Opd) (e : Env) (h : Hp) (n : Nat) : s_mkf x0 x1 e h n = step (.mkf x0 x1) e h n := by
 simp only [s_mkf, evF_eq, evsF_eq, evpsF_eq, obindF_eq, hgetF_eq, srcF_eq]
 try rfl
noncomputable def s_slS (x : Opd) (lo : Option Opd) (hi : Option Opd) (e : Env) (h : Hp) (n : Nat) : Option (Bool × Eff) := (evF x e h).bind fun v => match v with
 | .s l => obindF e h lo fun lo => obindF e h hi fun hi =>
  let r := sbound l.length l.length lo hi none
  some (r.1, { v := .s ((l.take r.2.2.1).drop r.2.1), n })
 | _ => none
theorem s_slS_eq (x0 : Opd) (x1 : Option Opd) (x2 : Option Opd) (e : Env) (h : Hp) (n : Nat) : s_slS x0 x1 x2 e h n = step (.slS x0 x1 x2) e h n := by
 simp only [s_slS, evF_eq, evsF_eq, evpsF_eq, obindF_eq, hgetF_eq, srcF_eq]
 try rfl
noncomputable def s_slV (z : Nat) (x : Opd) (lo : Option Opd) (hi : Option Opd) (mx : Option Opd) (e : Env) (h : Hp) (n : Nat) : Option (Bool × Eff) := (evF x e h).bind fun v => match v with
 | .ns => obindF e h lo fun lo => obindF e h hi fun hi => obindF e h mx fun mx =>
  let r := sbound 0 0 lo hi mx
  some (r.1, { v := .ns, n })
 | .sl b o len cap => obindF e h lo fun lo => obindF e h hi fun hi => obindF e h mx fun mx =>
  let r := sbound len cap lo hi mx
  some (r.1, { v := .sl b (if r.2.2.2 = r.2.1 then o else o + r.2.1 * z) (r.2.2.1 - r.2.1) (r.2.2.2 - r.2.1), n })
 | .sg b o len => match mx with
  | some _ => none
  | none => (hgetF h b).bind fun k => obindF e h lo fun lo => obindF e h hi fun hi =>
   let r := sbound len len lo hi none
   match k.gr with
   | some z' => match decide (r.2.1 = 0 ∨ r.2.1 < len) with
    | true => some (r.1 && Nat.beq z z', { v := .sg b (o + r.2.1 * z) (r.2.2.1 - r.2.1), n, rd := [b] })
    | false => some (r.1 && Nat.beq z z', { v := .en, n, rd := [b] })
   | none => none
 | .fz l len => obindF e h lo fun lo => obindF e h hi fun hi => obindF e h mx fun mx =>
  let r := sbound len len lo hi mx
  some (r.1, { v := if mx.isSome ∧ r.2.2.2 = r.2.1 then .ze else .fz (l.drop (r.2.1 * z)) (r.2.2.1 - r.2.1), n })
 | .ze => obindF e h lo fun lo => obindF e h hi fun hi => obindF e h mx fun mx =>
  let r := sbound 0 0 lo hi mx
  some (r.1, { v := .ze, n })
 | _ => none
theorem s_slV_eq (x0 : Nat) (x1 : Opd) (x2 : Option Opd) (x3 : Option Opd) (x4 : Option Opd) (e : Env) (h : Hp) (n : Nat) : s_slV x0 x1 x2 x3 x4 e h n = step (.slV x0 x1 x2 x3 x4) e h n := by
 simp only [s_slV, evF_eq, evsF_eq, evpsF_eq, obindF_eq, hgetF_eq, srcF_eq]
 try rfl
noncomputable def s_slA (m : Nat) (z : Nat) (x : Opd) (lo : Option Opd) (hi : Option Opd) (mx : Option Opd) (e : Env) (h : Hp) (n : Nat) : Option (Bool × Eff) := (evF x e h).bind fun v => match v with
 | .p b o => obindF e h lo fun lo => obindF e h hi fun hi => obindF e h mx fun mx =>
  let r := sbound m m lo hi mx
  some (r.1, { v := .sl b (if r.2.2.2 = r.2.1 then o else o + r.2.1 * z) (r.2.2.1 - r.2.1) (r.2.2.2 - r.2.1), n })
 | _ => none
theorem s_slA_eq (x0 : Nat) (x1 : Nat) (x2 : Opd) (x3 : Option Opd) (x4 : Option Opd) (x5 : Option Opd) (e : Env) (h : Hp) (n : Nat) : s_slA x0 x1 x2 x3 x4 x5 e h n = step (.slA x0 x1 x2 x3 x4 x5) e h n := by
 simp only [s_slA, evF_eq, evsF_eq, evpsF_eq, obindF_eq, hgetF_eq, srcF_eq]
 try rfl
noncomputable def s_fa (off : Nat) (x : Opd) (e : Env) (h : Hp) (n : Nat) : Option (Bool × Eff) := (evF x e h).bind fun v => match v with
 | .p b o => pe (.p b (o + off)) n
 | .fp l o => pe (.fp l (o + off)) n
 | _ => none
theorem s_fa_eq (x0 : Nat) (x1 : Opd) (e : Env) (h : Hp) (n : Nat) : s_fa x0 x1 e h n = step (.fa x0 x1) e h n := by
 simp only [s_fa, evF_eq, evsF_eq, evpsF_eq, obindF_eq, hgetF_eq, srcF_eq]
 try rfl
noncomputable def s_fld (agg : Bool) (z : Nat) (off : Nat) (x : Opd) (e : Env) (h : Hp) (n : Nat) : Option (Bool × Eff) := (evF x e h).bind fun v => match v with
 | .agg l => match agg with
  | true => some (decide (off + z ≤ l.length), { v := .agg (cellsAt l off z), n })
  | false => (l[off]?).bind fun v => pe v n
 | _ => none
theorem s_fld_eq (x0 : Bool) (x1 : Nat) (x2 : Nat) (x3 : Opd) (e : Env) (h : Hp) (n : Nat) : s_fld x0 x1 x2 x3 e h n = step (.fld x0 x1 x2 x3) e h n := by
 simp only [s_fld, evF_eq, evsF_eq, evpsF_eq, obindF_eq, hgetF_eq, srcF_eq]
 try rfl
noncomputable def s_ixaA (m : Nat) (z : Nat) (x : Opd) (i : Opd) (e : Env) (h : Hp) (n : Nat) : Option (Bool × Eff) := (evF x e h).bind fun v => (evF i e h).bind fun i => (asJ i).bind fun i => match v with
 | .p b o => some (decide (0 ≤ i ∧ i < m), { v := .p b (o + i.toNat * z), n })
 | .fp l o => some (decide (0 ≤ i ∧ i < m), { v := .fp l (o + i.toNat * z), n })
 | _ => none
theorem s_ixaA_eq (x0 : Nat) (x1 : Nat) (x2 : Opd) (x3 : Opd) (e : Env) (h : Hp) (n : Nat) : s_ixaA x0 x1 x2 x3 e h n = step (.ixaA x0 x1 x2 x3) e h n := by
 simp only [s_ixaA, evF_eq, evsF_eq, evpsF_eq, obindF_eq, hgetF_eq, srcF_eq]
 try rfl
noncomputable def s_ixaV (z : Nat) (x : Opd) (i : Opd) (e : Env) (h : Hp) (n : Nat) : Option (Bool × Eff) := (evF x e h).bind fun v => (evF i e h).bind fun i => (asJ i).bind fun i => match v with
 | .fz l len => some (decide (0 ≤ i ∧ i < len), { v := .fp l (i.toNat * z), n })
 | v => (slParts v).bind fun q => some (decide (0 ≤ i ∧ i < q.2.2), { v := .p q.1 (q.2.1 + i.toNat * z), n })
theorem s_ixaV_eq (x0 : Nat) (x1 : Opd) (x2 : Opd) (e : Env) (h : Hp) (n : Nat) : s_ixaV x0 x1 x2 e h n = step (.ixaV x0 x1 x2) e h n := by
 simp only [s_ixaV, evF_eq, evsF_eq, evpsF_eq, obindF_eq, hgetF_eq, srcF_eq]
 try rfl
noncomputable def s_ixA (m : Nat) (z : Nat) (agg : Bool) (x : Opd) (i : Opd) (e : Env) (h : Hp) (n : Nat) : Option (Bool × Eff) := (evF x e h).bind fun v => (evF i e h).bind fun i => (asJ i).bind fun i => match v with
 | .agg l => match agg with
  | true => some (decide (0 ≤ i ∧ i < m) && decide (i.toNat * z + z ≤ l.length), { v := .agg (cellsAt l (i.toNat * z) z), n })
  | false => (l[i.toNat * z]?).bind fun v => some (decide (0 ≤ i ∧ i < m), { v, n })
 | _ => none
theorem s_ixA_eq (x0 : Nat) (x1 : Nat) (x2 : Bool) (x3 : Opd) (x4 : Opd) (e : Env) (h : Hp) (n : Nat) : s_ixA x0 x1 x2 x3 x4 e h n = step (.ixA x0 x1 x2 x3 x4) e h n := by
 simp only [s_ixA, evF_eq, evsF_eq, evpsF_eq, obindF_eq, hgetF_eq, srcF_eq]
 try rfl
noncomputable def s_ixS (x : Opd) (i : Opd) (e : Env) (h : Hp) (n : Nat) : Option (Bool × Eff) := (evF x e h).bind fun v => (evF i e h).bind fun i => (asJ i).bind fun i => match v with
 | .s l => some (decide (0 ≤ i ∧ i < l.length), { v := .i .u8 ((l[i.toNat]?).getD 0).toNat, n })
 | _ => none
theorem s_ixS_eq (x0 : Opd) (x1 : Opd) (e : Env) (h : Hp) (n : Nat) : s_ixS x0 x1 e h n = step (.ixS x0 x1) e h n := by
 simp only [s_ixS, evF_eq, evsF_eq, evpsF_eq, obindF_eq, hgetF_eq, srcF_eq]
 try rfl
noncomputable def s_ext (x : Opd) (i : Nat) (e : Env) (h : Hp) (n : Nat) : Option (Bool × Eff) := (evF x e h).bind fun v => match v with
 | .tup l => (l[i]?).bind fun v => pe v n
 | _ => none
theorem s_ext_eq (x0 : Opd) (x1 : Nat) (e : Env) (h : Hp) (n : Nat) : s_ext x0 x1 e h n = step (.ext x0 x1) e h n := by
 simp only [s_ext, evF_eq, evsF_eq, evpsF_eq, obindF_eq, hgetF_eq, srcF_eq]
 try rfl
noncomputable def s_lenS (x : Opd) (e : Env) (h : Hp) (n : Nat) : Option (Bool × Eff) := (evF x e h).bind fun v => match v with
 | .s l => pe (.i .i64 l.length) n
 | _ => none
theorem s_lenS_eq (x0 : Opd) (e : Env) (h : Hp) (n : Nat) : s_lenS x0 e h n = step (.lenS x0) e h n := by
 simp only [s_lenS, evF_eq, evsF_eq, evpsF_eq, obindF_eq, hgetF_eq, srcF_eq]
 try rfl
noncomputable def s_lenV (x : Opd) (e : Env) (h : Hp) (n : Nat) : Option (Bool × Eff) := (evF x e h).bind fun v => match v with
 | .ns => pe (.i .i64 0) n
 | .fz _ len => pe (.i .i64 len) n
 | .ze => pe (.i .i64 0) n
 | v => (slParts v).bind fun q => pe (.i .i64 q.2.2) n
theorem s_lenV_eq (x0 : Opd) (e : Env) (h : Hp) (n : Nat) : s_lenV x0 e h n = step (.lenV x0) e h n := by
 simp only [s_lenV, evF_eq, evsF_eq, evpsF_eq, obindF_eq, hgetF_eq, srcF_eq]
 try rfl
noncomputable def s_lenC (m : Nat) (e : Env) (h : Hp) (n : Nat) : Option (Bool × Eff) := pe (.i .i64 m) n
theorem s_lenC_eq (x0 : Nat) (e : Env) (h : Hp) (n : Nat) : s_lenC x0 e h n = step (.lenC x0) e h n := by
 simp only [s_lenC, evF_eq, evsF_eq, evpsF_eq, obindF_eq, hgetF_eq, srcF_eq]
 try rfl
noncomputable def s_capV (x : Opd) (e : Env) (h : Hp) (n : Nat) : Option (Bool × Eff) := (evF x e h).bind fun v => match v with
 | .ns => pe (.i .i64 0) n
 | .sl _ _ _ cap => pe (.i .i64 cap) n
 | .ze => pe (.i .i64 0) n
 | _ => none
theorem s_capV_eq (x0 : Opd) (e : Env) (h : Hp) (n : Nat) : s_capV x0 e h n = step (.capV x0) e h n := by
 simp only [s_capV, evF_eq, evsF_eq, evpsF_eq, obindF_eq, hgetF_eq, srcF_eq]
 try rfl
noncomputable def s_mn (x : Opd) (xs : List Opd) (e : Env) (h : Hp) (n : Nat) : Option (Bool × Eff) := (evF x e h).bind fun v => (asK v).bind fun a => (evsF e h xs).bind fun l => (minI a.1 a.2 l).bind fun m => pe (.i a.1 m) n
theorem s_mn_eq (x0 : Opd) (x1 : List Opd) (e : Env) (h : Hp) (n : Nat) : s_mn x0 x1 e h n = step (.mn x0 x1) e h n := by
 simp only [s_mn, evF_eq, evsF_eq, evpsF_eq, obindF_eq, hgetF_eq, srcF_eq]
 try rfl
noncomputable def s_mx (x : Opd) (xs : List Opd) (e : Env) (h : Hp) (n : Nat) : Option (Bool × Eff) := (evF x e h).bind fun v => (asK v).bind fun a => (evsF e h xs).bind fun l => (maxI a.1 a.2 l).bind fun m => pe (.i a.1 m) n
theorem s_mx_eq (x0 : Opd) (x1 : List Opd) (e : Env) (h : Hp) (n : Nat) : s_mx x0 x1 e h n = step (.mx x0 x1) e h n := by
 simp only [s_mx, evF_eq, evsF_eq, evpsF_eq, obindF_eq, hgetF_eq, srcF_eq]
 try rfl
noncomputable def s_mks (z : Nat) (bytes : Nat) (zs : List AV) (l : Opd) (c : Opd) (e : Env) (h : Hp) (n : Nat) : Option (Bool × Eff) := (evF l e h).bind fun l => (asI l).bind fun l => (evF c e h).bind fun c => (asI c).bind fun c =>
 some (decide (0 ≤ l ∧ l ≤ c ∧ bytes * c ≤ 281474976710656 ∧ c ≤ 9223372036854775807), { v := .sl n 0 l.toNat c.toNat, n := n + 1, nw := [(n, { cells := zeros zs c.toNat })] })
theorem s_mks_eq (x0 : Nat) (x1 : Nat) (x2 : List AV) (x3 : Opd) (x4 : Opd) (e : Env) (h : Hp) (n : Nat) : s_mks x0 x1 x2 x3 x4 e h n = step (.mks x0 x1 x2 x3 x4) e h n := by
 simp only [s_mks, evF_eq, evsF_eq, evpsF_eq, obindF_eq, hgetF_eq, srcF_eq]
 try rfl
noncomputable def s_app (z : Nat) (bytes : Nat) (zs : List AV) (s : Opd) (x : Opd) (e : Env) (h : Hp) (n : Nat) : Option (Bool × Eff) := (evF s e h).bind fun s => (evF x e h).bind fun x => (srcF h z x).bind fun r =>
 if r.2.1 = 0 then (match s with
  | .ns => some (r.2.2.2, { v := .ns, n, rd := r.1 })
  | .sl b o len cap => some (r.2.2.2 && decide (len ≤ cap), { v := .sl b o len cap, n, rd := r.1 })
  | .sg b o len => some (r.2.2.2, { v := .sg b o len, n, rd := r.1 })
  | .ze => some (r.2.2.2, { v := .ze, n, rd := r.1 })
  | .fz l len => some (r.2.2.2, { v := .fz l len, n, rd := r.1 })
  | _ => none)
 else match s with
 | .ns => some (r.2.2.2 && decide (bytes * r.2.1 ≤ growMax), { v := .sg n 0 r.2.1, n := n + 1, rd := r.1, nw := [(n, { cells := r.2.2.1, gr := some z })] })
 | .ze => some (r.2.2.2 && decide (bytes * r.2.1 ≤ growMax), { v := .sg n 0 r.2.1, n := n + 1, rd := r.1, nw := [(n, { cells := r.2.2.1, gr := some z })] })
 | .sl b o len cap => (hgetF h b).bind fun k =>
  if len + r.2.1 ≤ cap then
   match k.ro with
   | true => none
   | false => some (r.2.2.2 && decide (o + len * z + r.2.2.1.length ≤ k.cells.length) && oneAll r.2.2.1, { v := .sl b o (len + r.2.1) cap, n, rd := b :: r.1, md := [(b, some { k with cells := splice k.cells (o + len * z) r.2.2.1 })] })
  else some (r.2.2.2 && decide (bytes * (len + r.2.1) ≤ growMax) && decide ((cellsAt k.cells o (len * z)).length = len * z) && decide (len ≤ cap), { v := .sg n 0 (len + r.2.1), n := n + 1, rd := b :: r.1, nw := [(n, { cells := cellsAt k.cells o (len * z) ++ r.2.2.1, gr := some z })] })
 | .sg b o len => (hgetF h b).bind fun k =>
  match k.gr with
  | some z' => some (r.2.2.2 && decide (bytes * (len + r.2.1) ≤ growMax) && Nat.beq z z' && decide (k.cells.length = o + len * z) && oneAll r.2.2.1, { v := .sg n 0 (len + r.2.1), n := n + 1, rd := b :: r.1, md := [(b, none)], nw := [(n, { cells := k.cells.drop o ++ r.2.2.1, gr := some z })] })
  | none => none
 | _ => none
theorem s_app_eq (x0 : Nat) (x1 : Nat) (x2 : List AV) (x3 : Opd) (x4 : Opd) (e : Env) (h : Hp) (n : Nat) : s_app x0 x1 x2 x3 x4 e h n = step (.app x0 x1 x2 x3 x4) e h n := by
 simp only [s_app, evF_eq, evsF_eq, evpsF_eq, obindF_eq, hgetF_eq, srcF_eq]
 try rfl
noncomputable def s_apz (z : Nat) (bytes : Nat) (zs : List AV) (s : Opd) (x : Opd) (e : Env) (h : Hp) (n : Nat) : Option (Bool × Eff) := (evF s e h).bind fun s => (evF x e h).bind fun x => (asI x).bind fun m => match s with
 | .sl b o len cap => (hgetF h b).bind fun k =>
  some (decide (0 < m) && decide (cap < len + m.toNat) && decide (bytes * (len + m.toNat) ≤ growMax) && decide ((cellsAt k.cells o (len * z)).length = len * z), { v := .sg n 0 (len + m.toNat), n := n + 1, rd := [b], nw := [(n, { cells := cellsAt k.cells o (len * z) ++ zeros zs m.toNat, gr := some z })] })
 | _ => none
theorem s_apz_eq (x0 : Nat) (x1 : Nat) (x2 : List AV) (x3 : Opd) (x4 : Opd) (e : Env) (h : Hp) (n : Nat) : s_apz x0 x1 x2 x3 x4 e h n = step (.apz x0 x1 x2 x3 x4) e h n := by
 simp only [s_apz, evF_eq, evsF_eq, evpsF_eq, obindF_eq, hgetF_eq, srcF_eq]
 try rfl
noncomputable def s_cpy (z : Nat) (d : Opd) (s : Opd) (e : Env) (h : Hp) (n : Nat) : Option (Bool × Eff) := (evF d e h).bind fun d => (evF s e h).bind fun s => (srcF h z s).bind fun r =>
 match d with
 | .ns => some (r.2.2.2, { v := .i .i64 0, n, rd := r.1 })
 | .en => some (r.2.2.2, { v := .i .i64 0, n, rd := r.1 })
 | d => (slParts d).bind fun q => (hgetF h q.1).bind fun k =>
  match k.ro with
  | true => none
  | false => some (r.2.2.2 && (oneAll r.2.2.1 || oneAll (r.2.2.1.take (Nat.min r.2.1 q.2.2 * z))) && decide (q.2.1 + Nat.min r.2.1 q.2.2 * z ≤ k.cells.length), { v := .i .i64 (Nat.min r.2.1 q.2.2), n, rd := q.1 :: r.1, md := [(q.1, some { k with cells := splice k.cells q.2.1 (r.2.2.1.take (Nat.min r.2.1 q.2.2 * z)) })] })
theorem s_cpy_eq (x0 : Nat) (x1 : Opd) (x2 : Opd) (e : Env) (h : Hp) (n : Nat) : s_cpy x0 x1 x2 e h n = step (.cpy x0 x1 x2) e h n := by
 simp only [s_cpy, evF_eq, evsF_eq, evpsF_eq, obindF_eq, hgetF_eq, srcF_eq]
 try rfl
noncomputable def s_clr (z : Nat) (zs : List AV) (x : Opd) (e : Env) (h : Hp) (n : Nat) : Option (Bool × Eff) := (evF x e h).bind fun v => match v with
 | .ns => pe (.tup []) n
 | v => (slParts v).bind fun q => (hgetF h q.1).bind fun k =>
  match k.ro with
  | true => none
  | false => some (oneAll zs && Nat.beq zs.length z && decide (q.2.1 + q.2.2 * z ≤ k.cells.length), { v := .tup [], n, rd := [q.1], md := [(q.1, some { k with cells := splice k.cells q.2.1 (zeros zs q.2.2) })] })
theorem s_clr_eq (x0 : Nat) (x1 : List AV) (x2 : Opd) (e : Env) (h : Hp) (n : Nat) : s_clr x0 x1 x2 e h n = step (.clr x0 x1 x2) e h n := by
 simp only [s_clr, evF_eq, evsF_eq, evpsF_eq, obindF_eq, hgetF_eq, srcF_eq]
 try rfl
noncomputable def s_call (cx : Cx) (f : Opd) (args : List Opd) (e : Env) (h : Hp) (n : Nat) : Option (Bool × Eff) := (evF f e h).bind fun v => match v with
 | .fn g caps => (evsF e h args).bind fun l => cx g (l ++ caps) h n
 | .bm g fs => (evsF e h args).bind fun l => cx g (fs ++ l) h n
 | .yl L r ts cs => (evsF e h args).bind fun l => cx YB (.yl L r ts cs :: l) h n
 | _ => none
theorem s_call_eq (cx : Cx) (f : Opd) (args : List Opd) (e : Env) (h : Hp) (n : Nat) : s_call cx f args e h n = stepC cx (.call f args) e h n := by
 simp only [s_call, evF_eq, evsF_eq]
 rfl
noncomputable def s_bad (e : Env) (h : Hp) (n : Nat) : Option (Bool × Eff) := none
noncomputable def stF (cx : Cx) (o : IOp) : Env → Hp → Nat → Option (Bool × Eff) := match o with
 | .mv x0 => s_mv x0
 | .pick x0 x1 x2 => s_pick x0 x1 x2
 | .new x0 => s_new x0
 | .box x0 => s_box x0
 | .build x0 x1 => s_build x0 x1
 | .bsl x0 x1 x2 => s_bsl x0 x1 x2
 | .ld x0 x1 x2 => s_ld x0 x1 x2
 | .st x0 x1 x2 => s_st x0 x1 x2
 | .nck x0 => s_nck x0
 | .bin x0 x1 x2 => s_bin x0 x1 x2
 | .eqk x0 x1 x2 x3 x4 => s_eqk x0 x1 x2 x3 x4
 | .eqn x0 x1 x2 x3 => s_eqn x0 x1 x2 x3
 | .not x0 => s_not x0
 | .neg x0 => s_neg x0
 | .i2i x0 x1 => s_i2i x0 x1
 | .s2b x0 => s_s2b x0
 | .b2s x0 => s_b2s x0
 | .idc x0 => s_idc x0
 | .mkf x0 x1 => s_mkf x0 x1
 | .slS x0 x1 x2 => s_slS x0 x1 x2
 | .slV x0 x1 x2 x3 x4 => s_slV x0 x1 x2 x3 x4
 | .slA x0 x1 x2 x3 x4 x5 => s_slA x0 x1 x2 x3 x4 x5
 | .fa x0 x1 => s_fa x0 x1
 | .fld x0 x1 x2 x3 => s_fld x0 x1 x2 x3
 | .ixaA x0 x1 x2 x3 => s_ixaA x0 x1 x2 x3
 | .ixaV x0 x1 x2 => s_ixaV x0 x1 x2
 | .ixA x0 x1 x2 x3 x4 => s_ixA x0 x1 x2 x3 x4
 | .ixS x0 x1 => s_ixS x0 x1
 | .ext x0 x1 => s_ext x0 x1
 | .lenS x0 => s_lenS x0
 | .lenV x0 => s_lenV x0
 | .lenC x0 => s_lenC x0
 | .capV x0 => s_capV x0
 | .mn x0 x1 => s_mn x0 x1
 | .mx x0 x1 => s_mx x0 x1
 | .mks x0 x1 x2 x3 x4 => s_mks x0 x1 x2 x3 x4
 | .app x0 x1 x2 x3 x4 => s_app x0 x1 x2 x3 x4
 | .apz x0 x1 x2 x3 x4 => s_apz x0 x1 x2 x3 x4
 | .cpy x0 x1 x2 => s_cpy x0 x1 x2
 | .clr x0 x1 x2 => s_clr x0 x1 x2
 | .mkm x0 x1 => stepC cx (.mkm x0 x1)
 | .mki x0 x1 => stepC cx (.mki x0 x1)
 | .tas x0 x1 x2 => stepC cx (.tas x0 x1 x2)
 | .eqi x0 x1 => stepC cx (.eqi x0 x1)
 | .pan x0 => stepC cx (.pan x0)
 | .rcv => stepC cx (.rcv)
 | .dfr x0 x1 => stepC cx (.dfr x0 x1)
 | .call f args => s_call cx f args
 | .bad => s_bad
theorem stF_eq (cx : Cx) (o : IOp) (e : Env) (h : Hp) (n : Nat) : stF cx o e h n = stepC cx o e h n := by
 cases o with
 | mv x0 => exact s_mv_eq x0 e h n
 | pick x0 x1 x2 => exact s_pick_eq x0 x1 x2 e h n
 | new x0 => exact s_new_eq x0 e h n
 | box x0 => exact s_box_eq x0 e h n
 | build x0 x1 => exact s_build_eq x0 x1 e h n
 | bsl x0 x1 x2 => exact s_bsl_eq x0 x1 x2 e h n
 | ld x0 x1 x2 => exact s_ld_eq x0 x1 x2 e h n
 | st x0 x1 x2 => exact s_st_eq x0 x1 x2 e h n
 | nck x0 => exact s_nck_eq x0 e h n
 | bin x0 x1 x2 => exact s_bin_eq x0 x1 x2 e h n
 | eqk x0 x1 x2 x3 x4 => exact s_eqk_eq x0 x1 x2 x3 x4 e h n
 | eqn x0 x1 x2 x3 => exact s_eqn_eq x0 x1 x2 x3 e h n
 | not x0 => exact s_not_eq x0 e h n
 | neg x0 => exact s_neg_eq x0 e h n
 | i2i x0 x1 => exact s_i2i_eq x0 x1 e h n
 | s2b x0 => exact s_s2b_eq x0 e h n
 | b2s x0 => exact s_b2s_eq x0 e h n
 | idc x0 => exact s_idc_eq x0 e h n
 | mkf x0 x1 => exact s_mkf_eq x0 x1 e h n
 | slS x0 x1 x2 => exact s_slS_eq x0 x1 x2 e h n
 | slV x0 x1 x2 x3 x4 => exact s_slV_eq x0 x1 x2 x3 x4 e h n
 | slA x0 x1 x2 x3 x4 x5 => exact s_slA_eq x0 x1 x2 x3 x4 x5 e h n
 | fa x0 x1 => exact s_fa_eq x0 x1 e h n
 | fld x0 x1 x2 x3 => exact s_fld_eq x0 x1 x2 x3 e h n
 | ixaA x0 x1 x2 x3 => exact s_ixaA_eq x0 x1 x2 x3 e h n
 | ixaV x0 x1 x2 => exact s_ixaV_eq x0 x1 x2 e h n
 | ixA x0 x1 x2 x3 x4 => exact s_ixA_eq x0 x1 x2 x3 x4 e h n
 | ixS x0 x1 => exact s_ixS_eq x0 x1 e h n
 | ext x0 x1 => exact s_ext_eq x0 x1 e h n
 | lenS x0 => exact s_lenS_eq x0 e h n
 | lenV x0 => exact s_lenV_eq x0 e h n
 | lenC x0 => exact s_lenC_eq x0 e h n
 | capV x0 => exact s_capV_eq x0 e h n
 | mn x0 x1 => exact s_mn_eq x0 x1 e h n
 | mx x0 x1 => exact s_mx_eq x0 x1 e h n
 | mks x0 x1 x2 x3 x4 => exact s_mks_eq x0 x1 x2 x3 x4 e h n
 | app x0 x1 x2 x3 x4 => exact s_app_eq x0 x1 x2 x3 x4 e h n
 | apz x0 x1 x2 x3 x4 => exact s_apz_eq x0 x1 x2 x3 x4 e h n
 | cpy x0 x1 x2 => exact s_cpy_eq x0 x1 x2 e h n
 | clr x0 x1 x2 => exact s_clr_eq x0 x1 x2 e h n
 | mkm x0 x1 => rfl
 | mki x0 x1 => rfl
 | tas x0 x1 x2 => rfl
 | eqi x0 x1 => rfl
 | pan x0 => rfl
 | rcv => rfl
 | dfr x0 x1 => rfl
 | call f args => exact s_call_eq cx f args e h n
 | bad => rfl
/-! ### the executor -/
noncomputable def forceN {R : Type} (m : Nat) (k : Nat → R) : R := Nat.rec (k 0) (fun j _ => k (j + 1)) m
theorem forceN_eq {R : Type} (m : Nat) (k : Nat → R) : forceN m k = k m := by cases m <;> rfl
noncomputable def forceI {R : Type} (m : Int) (k : Int → R) : R := Int.rec (fun j => forceN j fun j => k (Int.ofNat j)) (fun j => forceN j fun j => k (Int.negSucc j)) m
theorem forceI_eq {R : Type} (m : Int) (k : Int → R) : forceI m k = k m := by
 cases m with
 | ofNat j => show forceN j (fun j => k (Int.ofNat j)) = _; rw [forceN_eq]
 | negSucc j => show forceN j (fun j => k (Int.negSucc j)) = _; rw [forceN_eq]
noncomputable def forceV {R : Type} (v : AV) (k : AV → R) : R := match v with
 | .i t m => forceI m fun m => k (.i t m)
 | .b c => bif c then k (.b true) else k (.b false)
 | .p b o => forceN b fun b => forceN o fun o => k (.p b o)
 | v => k v
theorem forceV_eq {R : Type} (v : AV) (k : AV → R) : forceV v k = k v := by
 cases v with
 | i t m => show forceI m (fun m => k (.i t m)) = _; rw [forceI_eq]
 | b c => cases c <;> rfl
 | p b o => simp only [forceV, forceN_eq]
 | _ => rfl
noncomputable def forceL {R : Type} (l : List AV) (k : List AV → R) : R := (List.rec (motive := fun _ => (List AV → R) → R) (fun k => k []) (fun a _ ih k => forceV a fun a => ih fun l => k (a :: l)) l) k
theorem forceL_eq {R : Type} (l : List AV) : ∀ k : List AV → R, forceL l k = k l := by
 induction l with
 | nil => intro k; rfl
 | cons a l ih =>
  intro k
  show forceV a (fun a => forceL l fun l => k (a :: l)) = _
  rw [forceV_eq, ih]
noncomputable def forceW {R : Type} (v : AV) (k : AV → R) : R := match v with
 | .agg l => forceL l fun l => k (.agg l)
 | .tup l => forceL l fun l => k (.tup l)
 | v => forceV v k
theorem forceW_eq {R : Type} (v : AV) (k : AV → R) : forceW v k = k v := by
 cases v with
 | agg l => simp only [forceW, forceL_eq]
 | tup l => simp only [forceW, forceL_eq]
 | _ => simp only [forceW, forceV_eq]
noncomputable def forceB {R : Type} (b : Blk) (k : Blk → R) : R := match b with
 | ⟨c, ro, gr, gid⟩ => forceL c fun c => k ⟨c, ro, gr, gid⟩
theorem forceB_eq {R : Type} (b : Blk) (k : Blk → R) : forceB b k = k b := by
 obtain ⟨c, ro, gr, gid⟩ := b
 simp only [forceB, forceL_eq]
noncomputable def forceMd {R : Type} (l : List (Nat × Option Blk)) (k : List (Nat × Option Blk) → R) : R := (List.rec (motive := fun _ => (List (Nat × Option Blk) → R) → R) (fun k => k []) (fun a _ ih k => match a with
 | (b, some x) => forceN b fun b => forceB x fun x => ih fun l => k ((b, some x) :: l)
 | (b, none) => forceN b fun b => ih fun l => k ((b, none) :: l)) l) k
theorem forceMd_eq {R : Type} (l : List (Nat × Option Blk)) : ∀ k : List (Nat × Option Blk) → R, forceMd l k = k l := by
 induction l with
 | nil => intro k; rfl
 | cons a l ih =>
  intro k
  obtain ⟨b, x⟩ := a
  cases x with
  | none =>
   show forceN b (fun b => forceMd l fun l => k ((b, none) :: l)) = _
   rw [forceN_eq, ih]
  | some x =>
   show forceN b (fun b => forceB x fun x => forceMd l fun l => k ((b, some x) :: l)) = _
   rw [forceN_eq, forceB_eq, ih]
noncomputable def forceNw {R : Type} (l : List (Nat × Blk)) (k : List (Nat × Blk) → R) : R := (List.rec (motive := fun _ => (List (Nat × Blk) → R) → R) (fun k => k []) (fun a _ ih k => match a with
 | (b, x) => forceN b fun b => forceB x fun x => ih fun l => k ((b, x) :: l)) l) k
theorem forceNw_eq {R : Type} (l : List (Nat × Blk)) : ∀ k : List (Nat × Blk) → R, forceNw l k = k l := by
 induction l with
 | nil => intro k; rfl
 | cons a l ih =>
  intro k
  obtain ⟨b, x⟩ := a
  show forceN b (fun b => forceB x fun x => forceNw l fun l => k ((b, x) :: l)) = _
  rw [forceN_eq, forceB_eq, ih]
noncomputable def forceE {R : Type} (E : Eff) (k : Eff → R) : R := match E with
 | ⟨v, n, rd, md, nw, pn⟩ => forceW v fun v => forceN n fun n => forceMd md fun md => forceNw nw fun nw => k ⟨v, n, rd, md, nw, pn⟩
theorem forceE_eq {R : Type} (E : Eff) (k : Eff → R) : forceE E k = k E := by
 obtain ⟨v, n, rd, md, nw, pn⟩ := E
 simp only [forceE, forceW_eq, forceN_eq, forceMd_eq, forceNw_eq]
noncomputable def wantF (e : Env) (g : Option (Nat × Bool)) : Option Bool := match g with
 | none => some true
 | some tb => (egetF e tb.1).bind fun v => match v with
  | .b c => some (bif tb.2 then c else !c)
  | .tup [] => some false
  | _ => none
theorem wantF_eq (e : Env) (g : Option (Nat × Bool)) : wantF e g = wantedI e g := by
 cases g with
 | none => rfl
 | some tb =>
  obtain ⟨t, b⟩ := tb
  simp only [wantF, wantedI, egetF_eq]
  cases eget e t with
  | none => rfl
  | some v =>
   cases v with
   | b c => cases b <;> cases c <;> rfl
   | tup l => cases l <;> rfl
   | _ => rfl
noncomputable def one (cx : Cx) (o : IOper) (ih : Env → Hp → Nat → Option (Env × Hp × Nat)) (e : Env) (h : Hp) (n : Nat) : Option (Env × Hp × Nat) := match wantF e o.guard with
 | some true => match stF cx o.op e h n with
  | some (true, E) => forceE E fun E => match E.pn with
   | none => ih (eput o.dst E.v e) (E.appL h) E.n
   | some _ => none
  | _ => none
 | some false => ih (eput o.dst (.tup []) e) h n
 | none => none
noncomputable def opsF (cx : Cx) (l : List IOper) : Env → Hp → Nat → Option (Env × Hp × Nat) := List.rec (fun e h n => some (e, h, n)) (fun o _ ih => one cx o ih) l
theorem opsF_eq (cx : Cx) (l : List IOper) : ∀ (e : Env) (h : Hp) (n : Nat), opsF cx l e h n = xOps cx l e h n := by
 induction l with
 | nil => intro e h n; rfl
 | cons o l ih =>
  intro e h n
  show one cx o (opsF cx l) e h n = _
  simp only [one, xOps, wantF_eq, stF_eq, forceE_eq, ih]
  cases wantedI e o.guard with
  | none => rfl
  | some b => cases b <;> rfl
noncomputable def oneD (cx : Cx) (o : IOper) (un : List Nat) (ih : Nat → List (Nat × Eff) → Env → Hp → Nat → Option (Env × Hp × Nat)) (i : Nat) (dn : List (Nat × Eff)) (e : Env) (h : Hp) (n : Nat) : Option (Env × Hp × Nat) := match wantF e o.guard with
 | some true => match stF cx o.op e h n with
  | some (true, E) => forceE E fun E => match effOK h n E && okAll un E dn, E.pn with
   | true, none => forceN i fun i => ih (i + 1) (pushD i E dn) (eput o.dst E.v e) (E.appL h) E.n
   | _, _ => none
  | _ => none
 | some false => ih (i + 1) dn (eput o.dst (.tup []) e) h n
 | none => none
noncomputable def drF (cx : Cx) (l : List (IOper × List Nat)) : Nat → List (Nat × Eff) → Env → Hp → Nat → Option (Env × Hp × Nat) := List.rec (fun _ _ e h n => some (e, h, n)) (fun o _ ih => oneD cx o.1 o.2 ih) l
theorem drF_eq (cx : Cx) (l : List (IOper × List Nat)) : ∀ (i : Nat) (dn : List (Nat × Eff)) (e : Env) (h : Hp) (n : Nat), drF cx l i dn e h n = xDr cx l i dn e h n := by
 induction l with
 | nil => intro i dn e h n; rfl
 | cons o l ih =>
  intro i dn e h n
  obtain ⟨o, un⟩ := o
  show oneD cx o un (drF cx l) i dn e h n = _
  simp only [oneD, xDr, wantF_eq, stF_eq, forceE_eq, forceN_eq, ih]
  cases wantedI e o.guard with
  | none => rfl
  | some b => cases b <;> rfl
noncomputable def recap (ks : List Nat) (e : Env) : Env := List.rec [] (fun k _ ih => match egetF e k with
 | some v => (k, v) :: ih
 | none => ih) ks
theorem recap_sub (e : Env) : ∀ (ks : List Nat) (t : Nat) (v : AV), eget (recap ks e) t = some v → eget e t = some v
 | [], t, v, h => by cases h
 | k :: ks, t, v, h => by
  have hr : recap (k :: ks) e = match egetF e k with
   | some v => (k, v) :: recap ks e
   | none => recap ks e := rfl
  rw [hr, egetF_eq] at h
  cases hk : eget e k with
  | none => rw [hk] at h; exact recap_sub e ks t v h
  | some u =>
   rw [hk] at h
   simp only [eget] at h
   cases hb : Nat.beq k t
   · rw [hb] at h; exact recap_sub e ks t v h
   · rw [hb] at h
     have := Nat.eq_of_beq_eq_true hb
     subst this
     simp only [cond_true, Option.some.injEq] at h
     subst h; exact hk
noncomputable def inF (l : List Nat) (b : Nat) : Bool := List.rec false (fun c _ ih => bif Nat.beq c b then true else ih) l
noncomputable def keysF (e : Env) : List Nat := List.rec (fun acc => acc) (fun x _ ih acc => bif inF acc x.1 then ih acc else ih (x.1 :: acc)) e []
noncomputable def lpF (run : XR) (c : ICode) (ks : List Nat) (m : Nat) : Env → Hp → Nat → Option XO := Nat.rec (fun _ _ _ => none) (fun _ ih e h n => (run c e h n).bind fun o => match o with
 | (.n, e, h, n) => ih (recap ks e) h n
 | o => some o) m
noncomputable def bodyF (T : List (Nat × IFn)) (m : Nat) (run : XR) (cx : Cx) (c : ICode) : Env → Hp → Nat → Option XO :=
 match c with
 | .skip => fun e h n => some (.n, e, h, n)
 | .reg ops => fun e h n => (opsF cx ops e h n).bind fun o => some (.n, o)
 | .dreg ops => fun e h n => (drF cx ops 0 [] e h n).bind fun o => some (.n, o)
 | .seq a b => fun e h n => (run a e h n).bind fun o => match o with
  | (.n, e, h, n) => run b e h n
  | o => some o
 | .cond c a b => fun e h n => (evF c e h).bind fun v => match v with
  | .b true => run a e h n
  | .b false => run b e h n
  | _ => none
 | .block id c => fun e h n => (run c e h n).bind fun o => match o with
  | (.x i, e, h, n) => bif Nat.beq i id then some (.n, e, h, n) else some (.x i, e, h, n)
  | o => some o
 | .loop c => fun e h n => lpF run c (keysF e) m (recap (keysF e) e) h n
 | .scope c => fun e h n => run c e h n
 | .exit id => fun e h n => some (.x id, e, h, n)
 | .ret => fun e h n => some (.r, e, h, n)
 | .bad => fun _ _ _ => none
 | .rfunc _ _ _ _ => fun _ _ _ => none
section
variable {P : Program} {ct : List Nat} {N n0 : Nat}
theorem WP.sub {c : Code} {K : Kont} {e e2 : Env} {h : Hp} {n : Nat} (hs : ∀ t v, eget e2 t = some v → eget e t = some v) (hw : WP P N n0 c K e2 h n) : WP P N n0 c K e h n := fun ro hro B D0 φ0 H0 w0 h1 h2 D φ a w hR hS =>
 hw ro hro B D0 φ0 H0 w0 h1 h2 D φ a w ⟨hR.lt, fun t v ht => hR.env t v (hs t v ht), hR.heap, hR.size, hR.defers⟩ hS
end
theorem bodyG_ok {P : Program} {T : List (Nat × IFn)} {cx : Cx} (hm : P.follows .mixedOrders = true) (m : Nat) {run : XR} (hrun : RunOK P run) (hcx : Sound P cx) : RunOK P (bodyF T m run cx) := by
 intro ct N n0 c e h n out hx c' hc'
 have viaI : iw ⟨P, cx, ct, N, n0⟩ c (isOut out) e h n → WP P N n0 c' (isOut out) e h n := fun hi =>
  iw_sound ⟨P, cx, ct, N, n0⟩ hcx hm c' _ _ _ _ (by show iw _ (compC P ct N c') _ _ _ _; rw [hc']; exact hi)
 cases c with
 | loop a =>
  simp only [bodyF] at hx
  obtain ⟨a', rfl, ha⟩ := inv_loop hc'
  refine WP.sub (recap_sub e (keysF e)) ?_
  generalize recap (keysF e) e = e0 at hx
  generalize keysF e = ks at hx
  intro ro hro B D0 φ0 H0 w0 h1 h2 D φ ac w hR hS
  refine wpIn_loop_rounds m ?_
  clear hc' viaI e
  induction m generalizing e0 h n D φ ac w with
  | zero => cases hx
  | succ m ih =>
   have hx : (run a e0 h n).bind (fun o => match o with
    | (.n, e, h, n) => lpF run a ks m (recap ks e) h n
    | o => some o) = some out := hx
   simp only [Option.bind_eq_some_iff] at hx
   obtain ⟨⟨x, e1, h1', n1⟩, ho, hx⟩ := hx
   refine wpIn_mono (hrun _ N n0 _ _ _ _ _ ho a' ha ro hro B D0 φ0 H0 w0 h1 h2 D φ ac w hR hS) (fun ex ac' w' hp => ?_)
   obtain ⟨D', φ', e', h', n', ⟨rfl, rfl, rfl, rfl⟩, hn', hR', hS'⟩ := hp
   cases x with
   | n => exact ih h' n' (recap ks e') hx hn' D' φ' ac' w' ⟨hR'.lt, fun t v ht => hR'.env t v (recap_sub e' ks t v ht), hR'.heap, hR'.size, hR'.defers⟩ hS'
   | x i => simp only [Option.some.injEq] at hx; subst hx; exact ⟨D', φ', _, _, _, ⟨rfl, rfl, rfl, rfl⟩, hn', hR', hS'⟩
   | r => simp only [Option.some.injEq] at hx; subst hx; exact ⟨D', φ', _, _, _, ⟨rfl, rfl, rfl, rfl⟩, hn', hR', hS'⟩
 | reg ops =>
  simp only [bodyF, Option.bind_eq_some_iff, Option.some.injEq] at hx
  obtain ⟨⟨e', h', n'⟩, ho, rfl⟩ := hx
  rw [opsF_eq] at ho
  exact viaI (xOps_run ho ⟨rfl, rfl, rfl, rfl⟩)
 | dreg ops =>
  simp only [bodyF, Option.bind_eq_some_iff, Option.some.injEq] at hx
  obtain ⟨⟨e', h', n'⟩, ho, rfl⟩ := hx
  rw [drF_eq] at ho
  exact viaI (xDr_run ho ⟨rfl, rfl, rfl, rfl⟩)
 | cond x a b =>
  simp only [bodyF, evF_eq, Option.bind_eq_some_iff] at hx
  obtain ⟨v, hv, hx⟩ := hx
  obtain ⟨y, a', b', rfl, hy, hg, ha, hb⟩ := inv_cond hc'
  split at hx
  · exact WP.cond hy hg hv (hrun _ _ _ _ _ _ _ _ hx a' ha)
  · exact WP.cond hy hg hv (hrun _ _ _ _ _ _ _ _ hx b' hb)
  · cases hx
 | skip => simp only [bodyF, Option.some.injEq] at hx; subst hx; exact viaI ⟨rfl, rfl, rfl, rfl⟩
 | seq a b => exact xBody_ok hm Valid.nil m hrun _ _ _ _ _ _ _ _ (by rw [← hx]; rfl) c' hc'
 | block id a => exact xBody_ok hm Valid.nil m hrun _ _ _ _ _ _ _ _ (by rw [← hx]; rfl) c' hc'
 | scope a => exact xBody_ok hm Valid.nil m hrun _ _ _ _ _ _ _ _ (by rw [← hx]; rfl) c' hc'
 | exit id => simp only [bodyF, Option.some.injEq] at hx; subst hx; exact viaI ⟨rfl, rfl, rfl, rfl⟩
 | ret => simp only [bodyF, Option.some.injEq] at hx; subst hx; exact viaI ⟨rfl, rfl, rfl, rfl⟩
 | bad => cases hx
 | rfunc g ps x y => cases hx
/-! ### calls that are known -/
structure MEnt where
 f : Nat
 a : List AV
 h : Hp
 k : Nat
 v : AV
 hR : Hp
 kR : Nat
noncomputable def blkSame (j k : Blk) : Bool := (bif j.ro then k.ro else !k.ro) && sameL j.cells k.cells && onEq j.gr k.gr && onEq j.gid k.gid
theorem blkSame_eq {j k : Blk} (h : blkSame j k = true) : j = k := by
 simp only [blkSame, Bool.and_eq_true] at h
 obtain ⟨c, r, g, d⟩ := k
 obtain ⟨c', r', g', d'⟩ := j
 simp only at h
 have hr : r' = r := by
  have := h.1.1.1
  cases r <;> cases r' <;> simp_all
 rw [sameL_eq h.1.1.2, onEq_eq h.1.2, onEq_eq h.2, hr]
noncomputable def sameH : Hp → Hp → Bool
 | [], [] => true
 | (b, j) :: l, (c, k) :: m => Nat.beq b c && blkSame j k && sameH l m
 | _, _ => false
theorem sameH_eq : ∀ {l m : Hp}, sameH l m = true → l = m
 | [], [], _ => rfl
 | (b, j) :: l, (c, k) :: m, h => by
  simp only [sameH, Bool.and_eq_true] at h
  rw [Nat.eq_of_beq_eq_true h.1.1, blkSame_eq h.1.2, sameH_eq h.2]
 | [], _ :: _, h => by cases h
 | _ :: _, [], h => by cases h
noncomputable def MEnt.fits (m : MEnt) (f : Nat) (a : List AV) (h : Hp) (k : Nat) : Bool := Nat.beq m.f f && Nat.beq m.k k && sameL m.a a && sameH m.h h
noncomputable def mfind (M : List MEnt) (f : Nat) (a : List AV) (h : Hp) (k : Nat) : Option (AV × Hp × Nat) := List.rec none (fun m _ ih => bif m.fits f a h k then some (m.v, m.hR, m.kR) else ih) M
structure MEnt.ok (P : Program) (m : MEnt) : Prop where
 call : callable P m.f = true
 ftl : FTL P m.f m.a m.h m.k m.v m.hR m.kR
 le : m.k ≤ m.kR
 names : hOK m.h m.k m.kR m.hR = true
noncomputable def MOK (P : Program) (M : List MEnt) : Prop := ∀ m ∈ M, m.ok P
theorem MOK.nil {P : Program} : MOK P [] := fun m h => by cases h
theorem MOK.cons {P : Program} {m : MEnt} {M : List MEnt} (h : m.ok P) (hM : MOK P M) : MOK P (m :: M) := fun x hx => by
 rcases List.mem_cons.1 hx with rfl | hx
 · exact h
 · exact hM x hx
theorem mfind_ok {P : Program} {f : Nat} {a : List AV} {h : Hp} {k : Nat} {v : AV} {hR : Hp} {kR : Nat} : ∀ {M : List MEnt}, MOK P M → mfind M f a h k = some (v, hR, kR) → callable P f = true ∧ FTL P f a h k v hR kR ∧ k ≤ kR ∧ hOK h k kR hR = true
 | [], _, hm => by cases hm
 | m :: M, hM, hm => by
  have hm : (bif m.fits f a h k then some (m.v, m.hR, m.kR) else mfind M f a h k) = some (v, hR, kR) := hm
  cases hf : m.fits f a h k
  · rw [hf] at hm
    exact mfind_ok (fun x hx => hM x (List.mem_cons_of_mem _ hx)) hm
  · rw [hf] at hm
    simp only [cond_true, Option.some.injEq, Prod.mk.injEq] at hm
    obtain ⟨rfl, rfl, rfl⟩ := hm
    simp only [MEnt.fits, Bool.and_eq_true] at hf
    obtain ⟨⟨⟨h1, h2⟩, h3⟩, h4⟩ := hf
    obtain ⟨q1, q2, q3, q4⟩ := hM m List.mem_cons_self
    rw [Nat.eq_of_beq_eq_true h1, sameL_eq h3, sameH_eq h4, Nat.eq_of_beq_eq_true h2] at q2
    rw [Nat.eq_of_beq_eq_true h1] at q1
    rw [Nat.eq_of_beq_eq_true h2] at q3
    rw [sameH_eq h4, Nat.eq_of_beq_eq_true h2] at q4
    exact ⟨q1, q2, q3, q4⟩
noncomputable def tryF (M : List MEnt) (T : List (Nat × IFn)) (run : XR) (f : Nat) (a : List AV) (h : Hp) (k : Nat) : Option (AV × Hp × Nat) :=
 match mfind M f a h k with
 | some r => some r
 | none => (iget T f).bind fun I => xFn run I a h k
noncomputable def cxM (M : List MEnt) (T : List (Nat × IFn)) (run : XR) : Cx := fun f args h n =>
 let R := reach h 100000 [] (gidsOf h ++ namesL args)
 match nodup R && inRL R args with
 | true => (mkL R h R 0).bind fun hL => (tryF M T run f (renL (idx R) args) hL R.length).bind fun o =>
  match o with
  | (v, hR, k) => some (true, { v := v.ren (chi R n), n := n + (k - R.length), rd := R, md := mdOf (chi R n) hL hR R 0, nw := nwOf (chi R n) R.length hR })
 | false => none
theorem cxM_sound {P : Program} {M : List MEnt} {T : List (Nat × IFn)} (hM : MOK P M) (hT : Valid P T) {run : XR} (hrun : RunOK P run) : Sound P (cxM M T run) := by
 intro f args h n c E hx hc
 simp only [cxM] at hx
 generalize hR0 : reach h 100000 [] (gidsOf h ++ namesL args) = R at hx
 split at hx
 · rename_i hnd
   simp only [Bool.and_eq_true] at hnd
   obtain ⟨hnd, hin⟩ := hnd
   simp only [Option.bind_eq_some_iff] at hx
   obtain ⟨hL, hmk, ⟨v, hR, k⟩, hxf, hx⟩ := hx
   simp only [Option.some.injEq, Prod.mk.injEq] at hx
   obtain ⟨_, rfl⟩ := hx
   unfold tryF at hxf
   split at hxf
   · rename_i r hr
     cases hxf
     obtain ⟨q1, q2, q3, q4⟩ := mfind_ok hM hr
     exact call_sound q1 hnd hin hmk q2 q3 q4
   · simp only [Option.bind_eq_some_iff] at hxf
     obtain ⟨I, hI, hxf⟩ := hxf
     obtain ⟨fn, hf, hcomp, hcall⟩ := hT f I hI
     obtain ⟨hft, hk, hvb, hok⟩ := xFn_FTL hrun hf hcomp hxf
     exact call_sound hcall hnd hin hmk hft hk hok
 · cases hx
noncomputable def runM (M : List MEnt) (T : List (Nat × IFn)) (fuel : Nat) : XR :=
 Nat.rec (fun _ _ _ _ => none) (fun m run => bodyF T m run (cxM M T run)) fuel
theorem runM_ok {P : Program} {M : List MEnt} {T : List (Nat × IFn)} (hm : P.follows .mixedOrders = true) (hM : MOK P M) (hT : Valid P T) : ∀ fuel, RunOK P (runM M T fuel)
 | 0 => fun ct N n0 c e h n out hx => by cases hx
 | m + 1 => bodyG_ok (T := T) hm m (runM_ok hm hM hT m) (cxM_sound hM hT (runM_ok hm hM hT m))
theorem FTL.of_runM {P : Program} {M : List MEnt} {T : List (Nat × IFn)} (fuel : Nat) (hm : P.follows .mixedOrders = true) (hM : MOK P M) (hT : Valid P T) {f : FuncId} {fn : Func} {I : IFn} (hf : P.funcs[f]? = some fn) (hI : compF P fn = some I) {args : List AV} {h : Hp} {n : Nat} {v : AV}
 (hx : (xFn (runM M T fuel) I args h n).map (·.1) = some v) (hv : v.bel n = true) : FTL P f args h n v [] n := by
 obtain ⟨⟨v', hR, k⟩, h1, rfl⟩ := Option.map_eq_some_iff.1 hx
 exact FTL.forget (xFn_FTL (runM_ok hm hM hT fuel) hf hI h1).1 hv
end Go.Ab
