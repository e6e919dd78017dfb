/- The abstract layer, part 21: what simp needs to run a body. -/
import Derived.Test.YtiacdfhaopnekaaAbSimp
namespace Go.Ab
set_option linter.unusedVariables false

theorem eget_cons {c : Nat} {k : AV} {r : Env} {b : Nat} : eget ((c, k) :: r) b = if c = b then some k else eget r b := by
  simp only [eget]
  by_cases h : c = b
  · subst h; simp
  · rw [if_neg h, beq_ne (fun e => h e.symm)]; rfl
theorem hget_nil {b : Nat} : hget [] b = none := (rfl)
theorem hget_cons {c : Nat} {k : Blk} {r : Hp} {b : Nat} : hget ((c, k) :: r) b = if c = b then some k else hget r b := by
  simp only [hget]
  by_cases h : c = b
  · subst h; simp
  · rw [if_neg h, beq_ne (fun e => h e.symm)]; rfl
theorem hset_cons {c : Nat} {k x : Blk} {r : Hp} {b : Nat} : hset ((c, k) :: r) b x = if c = b then (c, x) :: r else (c, k) :: hset r b x := by
  simp only [hset]
  by_cases h : c = b
  · subst h; simp
  · rw [if_neg h, beq_ne (fun e => h e.symm)]; rfl
theorem hdel_nil {b : Nat} : hdel [] b = [] := (rfl)
theorem hdel_cons {c : Nat} {k : Blk} {r : Hp} {b : Nat} : hdel ((c, k) :: r) b = if c = b then hdel r b else (c, k) :: hdel r b := by
  simp only [hdel]
  by_cases h : c = b
  · subst h; simp
  · rw [if_neg h, beq_ne (fun e => h e.symm)]; rfl

theorem ev_t {e : Env} {h : Hp} {n : Nat} : (Opd.t n).ev e h = eget e n := (rfl)
theorem ev_c {e : Env} {h : Hp} {v : AV} : (Opd.c v).ev e h = some v := (rfl)
theorem evs_nil {e : Env} {h : Hp} : evs e h [] = some [] := (rfl)
theorem evs_cons {e : Env} {h : Hp} {x : Opd} {r : List Opd} : evs e h (x :: r) = (x.ev e h).bind fun v => (evs e h r).bind fun vs => some (v :: vs) := (rfl)
theorem evps_nil {e : Env} {h : Hp} : evps e h [] = some [] := (rfl)
theorem evps_cons {e : Env} {h : Hp} {o z : Nat} {x : Opd} {r : List (Nat × Nat × Opd)} : evps e h ((o, z, x) :: r) = (x.ev e h).bind fun v => (evps e h r).bind fun vs => some ((o, z, v) :: vs) := (rfl)

theorem appL_nil {v : AV} {n : Nat} {rd : List Nat} {h : Hp} : (Eff.mk v n rd [] []).appL h = h := (rfl)
theorem appL_new {v : AV} {n : Nat} {rd : List Nat} {x : Nat × Blk} {h : Hp} : (Eff.mk v n rd [] [x]).appL h = x :: h := (rfl)
theorem appL_new2 {v : AV} {n : Nat} {rd : List Nat} {x y : Nat × Blk} {h : Hp} : (Eff.mk v n rd [] [x, y]).appL h = x :: y :: h := (rfl)
theorem appL_set {v : AV} {n : Nat} {rd : List Nat} {b : Nat} {k : Blk} {h : Hp} : (Eff.mk v n rd [(b, some k)] []).appL h = hset h b k := (rfl)
theorem appL_grow {v : AV} {n : Nat} {rd : List Nat} {b : Nat} {x : Nat × Blk} {h : Hp} : (Eff.mk v n rd [(b, none)] [x]).appL h = hdel (x :: h) b := (rfl)

theorem eput_some {t : Nat} {v : AV} {e : Env} : eput (some t) v e = (t, v) :: e := (rfl)
theorem eput_none {v : AV} {e : Env} : eput none v e = e := (rfl)

theorem spB_t {a b : Prop} : spB true a b = a := by simp [spB]
theorem spB_f {a b : Prop} : spB false a b = b := by simp [spB]
theorem fin1_n {v : AV} {k : AV → Prop} : fin1 false v k = k v := (rfl)
theorem fin1_t {k : AV → Prop} : fin1 true (.b true) k = k (.b true) := by simp [fin1, spB]
theorem fin1_f {k : AV → Prop} : fin1 true (.b false) k = k (.b false) := by simp [fin1, spB]
theorem fin1_b {c : Bool} {k : AV → Prop} : fin1 true (.b c) k = spB c (k (.b true)) (k (.b false)) := (rfl)
theorem fin1_u {l : List AV} {k : AV → Prop} : fin1 true (.tup l) k = k (.tup l) := (rfl)

section
variable {cx : Cx} {e : Env} {h : Hp} {n : Nat}
theorem st_mv {x : Opd} : stepC cx (.mv x) e h n = (x.ev e h).bind fun v => some (true, { v, n }) := (rfl)
def pickK (v : AV) (a b : Option (Bool × Eff)) : Option (Bool × Eff) := match v with
  | .b true => a
  | .b false => b
  | _ => none
@[congr] theorem pickK_congr {v v' : AV} {a b : Option (Bool × Eff)} (h : v = v') : pickK v a b = pickK v' a b := by rw [h]
theorem pickK_t {a b : Option (Bool × Eff)} : pickK (.b true) a b = a := (rfl)
theorem pickK_f {a b : Option (Bool × Eff)} : pickK (.b false) a b = b := (rfl)
theorem st_pick {c a b : Opd} : stepC cx (.pick c a b) e h n = (c.ev e h).bind fun v => pickK v ((a.ev e h).bind fun v => some (true, { v, n })) ((b.ev e h).bind fun v => some (true, { v, n })) := (rfl)
theorem st_new {z : List AV} : stepC cx (.new z) e h n = some (true, { v := .p n 0, n := n + 1, nw := [(n, { cells := z })] }) := (rfl)
theorem st_box {x : Opd} : stepC cx (.box x) e h n = (x.ev e h).bind fun v => some (true, { v := .p n 0, n := n + 1, nw := [(n, { cells := v.cells })] }) := (rfl)
theorem st_build {z : List AV} {ps : List (Nat × Nat × Opd)} : stepC cx (.build z ps) e h n = (evps e h ps).bind fun l => (fills z l).bind fun cs => some (true, { v := .agg cs, n }) := (rfl)
theorem st_bsl {z : List AV} {len : Nat} {ps : List (Nat × Nat × Opd)} : stepC cx (.bsl z len ps) e h n = (evps e h ps).bind fun l => (fills z l).bind fun cs => some (true, { v := .sl n 0 len len, n := n + 1, nw := [(n, { cells := cs })] }) := (rfl)
def getP (v : AV) (k : Nat → Nat → Option (Bool × Eff)) : Option (Bool × Eff) := match v with
  | .p b o => k b o
  | _ => none
@[congr] theorem getP_congr {v v' : AV} {k : Nat → Nat → Option (Bool × Eff)} (h : v = v') : getP v k = getP v' k := by rw [h]
theorem getP_p {b o : Nat} {k : Nat → Nat → Option (Bool × Eff)} : getP (.p b o) k = k b o := (rfl)
theorem st_ldt {z : Nat} {a : Opd} : stepC cx (.ld true z a) e h n = (a.ev e h).bind fun v => getP v fun b o => (hget h b).bind fun k => some (decide ((cellsAt k.cells o z).length = z), { v := .agg (cellsAt k.cells o z), n, rd := [b] }) := (rfl)
theorem st_ldf {z : Nat} {a : Opd} : stepC cx (.ld false z a) e h n = (a.ev e h).bind fun v => getP v fun b o => (hget h b).bind fun k => (k.cells[o]?).bind fun v => some (true, { v, n, rd := [b] }) := (rfl)
def roK (r : Bool) (k : Option (Bool × Eff)) : Option (Bool × Eff) := match r with
  | true => none
  | false => k
@[congr] theorem roK_congr {v v' : Bool} {k : Option (Bool × Eff)} (h : v = v') : roK v k = roK v' k := by rw [h]
theorem roK_f {k : Option (Bool × Eff)} : roK false k = k := (rfl)
theorem st_st {z : Nat} {a x : Opd} : stepC cx (.st z a x) e h n = (a.ev e h).bind fun v => getP v fun b o => (hget h b).bind fun k => (x.ev e h).bind fun y =>
    roK k.ro (some (oneAll y.cells && Nat.beq y.cells.length z && decide (o + z ≤ k.cells.length), { v := .tup [], n, rd := [b], md := [(b, some { k with cells := splice k.cells o y.cells })] })) := (rfl)
def nckK (v : AV) (k : AV → Option (Bool × Eff)) : Option (Bool × Eff) := match v with
  | .p b o => k (.p b o)
  | .fn f l => k (.fn f l)
  | _ => none
@[congr] theorem nckK_congr {v v' : AV} {k : AV → Option (Bool × Eff)} (h : v = v') : nckK v k = nckK v' k := by rw [h]
theorem nckK_p {b o : Nat} {k : AV → Option (Bool × Eff)} : nckK (.p b o) k = k (.p b o) := (rfl)
theorem nckK_f {f : FuncId} {l : List AV} {k : AV → Option (Bool × Eff)} : nckK (.fn f l) k = k (.fn f l) := (rfl)
theorem st_nck {x : Opd} : stepC cx (.nck x) e h n = (x.ev e h).bind fun v => nckK v fun v => some (true, { v, n }) := (rfl)
theorem st_bin {op : BinOp} {x y : Opd} : stepC cx (.bin op x y) e h n = (x.ev e h).bind fun a => (y.ev e h).bind fun b => (bin op a b).bind fun r => some (r.1, { v := r.2, n }) := (rfl)
theorem st_eqk {neg agg : Bool} {ks : List Kd} {x y : Opd} : stepC cx (.eqk neg agg ks x y) e h n = (x.ev e h).bind fun a => (y.ev e h).bind fun b => (eqk agg ks a b).bind fun r => some (true, { v := .b (bif neg then !r else r), n }) := (rfl)
theorem st_eqn {neg : Bool} {k : Nat} {x y : Opd} : stepC cx (.eqn neg k x y) e h n = (x.ev e h).bind fun a => (y.ev e h).bind fun b => (eqn k a b).bind fun r => some (true, { v := .b (bif neg then !r else r), n }) := (rfl)
def getB (v : AV) (k : Bool → Option (Bool × Eff)) : Option (Bool × Eff) := match v with
  | .b c => k c
  | _ => none
@[congr] theorem getB_congr {v v' : AV} {k : Bool → Option (Bool × Eff)} (h : v = v') : getB v k = getB v' k := by rw [h]
theorem getB_b {c : Bool} {k : Bool → Option (Bool × Eff)} : getB (.b c) k = k c := (rfl)
theorem st_not {x : Opd} : stepC cx (.not x) e h n = (x.ev e h).bind fun v => getB v fun c => some (true, { v := .b !c, n }) := (rfl)
def getI (v : AV) (k : IntKind → Int → Option (Bool × Eff)) : Option (Bool × Eff) := match v with
  | .i t c => k t c
  | _ => none
@[congr] theorem getI_congr {v v' : AV} {k : IntKind → Int → Option (Bool × Eff)} (h : v = v') : getI v k = getI v' k := by rw [h]
theorem getI_i {t : IntKind} {c : Int} {k : IntKind → Int → Option (Bool × Eff)} : getI (.i t c) k = k t c := (rfl)
theorem st_neg {x : Opd} : stepC cx (.neg x) e h n = (x.ev e h).bind fun v => getI v fun k m => some (true, { v := .i k (k.wrap (0 - m)), n }) := (rfl)
theorem st_i2i {t : IntKind} {x : Opd} : stepC cx (.i2i t x) e h n = (x.ev e h).bind fun v => getI v fun k m => some (true, { v := .i t (t.wrap m), n }) := (rfl)
def getS (v : AV) (k : List UInt8 → Option (Bool × Eff)) : Option (Bool × Eff) := match v with
  | .s l => k l
  | _ => none
@[congr] theorem getS_congr {v v' : AV} {k : List UInt8 → Option (Bool × Eff)} (h : v = v') : getS v k = getS v' k := by rw [h]
theorem getS_s {l : List UInt8} {k : List UInt8 → Option (Bool × Eff)} : getS (.s l) k = k l := (rfl)
theorem st_s2b {x : Opd} : stepC cx (.s2b x) e h n = (x.ev e h).bind fun v => getS v fun l => some (true, { v := .sg n 0 l.length, n := n + 1, nw := [(n, { cells := l.map fun b => .i .u8 b.toNat, gr := some 1 })] }) := (rfl)
theorem st_b2s {x : Opd} : stepC cx (.b2s x) e h n = (x.ev e h).bind fun v => match v with
    | .ns => some (true, { v := .s [], n })
    | v => (slParts v).bind fun q => (hget h q.1).bind fun k => (bytesOf (cellsAt k.cells q.2.1 q.2.2)).bind fun l =>
      some (decide (l.length = q.2.2), { v := .s l, n, rd := [q.1] }) := (rfl)
theorem st_idc {x : Opd} : stepC cx (.idc x) e h n = (x.ev e h).bind fun v => getS v fun l => some (true, { v := .s l, n }) := (rfl)
theorem st_mkf {f : FuncId} {caps : List Opd} : stepC cx (.mkf f caps) e h n = (evs e h caps).bind fun l => some (true, { v := .fn f l, n }) := (rfl)
theorem st_slS {x : Opd} {lo hi : Option Opd} : stepC cx (.slS x lo hi) e h n = (x.ev e h).bind fun v => getS v fun l => obind e h lo fun lo => obind e h hi fun hi =>
    some ((sbound l.length l.length lo hi none).1, { v := .s ((l.take (sbound l.length l.length lo hi none).2.2.1).drop (sbound l.length l.length lo hi none).2.1), n }) := (rfl)
theorem st_fa {off : Nat} {x : Opd} : stepC cx (.fa off x) e h n = (x.ev e h).bind fun v => getP v fun b o => some (true, { v := .p b (o + off), n }) := (rfl)
def getA (v : AV) (k : List AV → Option (Bool × Eff)) : Option (Bool × Eff) := match v with
  | .agg l => k l
  | _ => none
@[congr] theorem getA_congr {v v' : AV} {k : List AV → Option (Bool × Eff)} (h : v = v') : getA v k = getA v' k := by rw [h]
theorem getA_a {l : List AV} {k : List AV → Option (Bool × Eff)} : getA (.agg l) k = k l := (rfl)
theorem st_fldt {z off : Nat} {x : Opd} : stepC cx (.fld true z off x) e h n = (x.ev e h).bind fun v => getA v fun l => some (decide (off + z ≤ l.length), { v := .agg (cellsAt l off z), n }) := (rfl)
theorem st_fldf {z off : Nat} {x : Opd} : stepC cx (.fld false z off x) e h n = (x.ev e h).bind fun v => getA v fun l => (l[off]?).bind fun v => some (true, { v, n }) := (rfl)
theorem st_ixaA {m z : Nat} {x i : Opd} : stepC cx (.ixaA m z x i) e h n = (x.ev e h).bind fun v => (i.ev e h).bind fun i => (asJ i).bind fun i => getP v fun b o => some (decide (0 ≤ i ∧ i < m), { v := .p b (o + i.toNat * z), n }) := (rfl)
theorem st_ixaV {z : Nat} {x i : Opd} : stepC cx (.ixaV z x i) e h n = (x.ev e h).bind fun v => (i.ev e h).bind fun i => (asJ i).bind fun i => (slParts v).bind fun q =>
      some (decide (0 ≤ i ∧ i < q.2.2), { v := .p q.1 (q.2.1 + i.toNat * z), n }) := (rfl)
theorem st_ixAt {m z : Nat} {x i : Opd} : stepC cx (.ixA m z true x i) e h n = (x.ev e h).bind fun v => (i.ev e h).bind fun i => (asJ i).bind fun i => getA v fun l => some (decide (0 ≤ i ∧ i < m) && decide (i.toNat * z + z ≤ l.length), { v := .agg (cellsAt l (i.toNat * z) z), n }) := (rfl)
theorem st_ixAf {m z : Nat} {x i : Opd} : stepC cx (.ixA m z false x i) e h n = (x.ev e h).bind fun v => (i.ev e h).bind fun i => (asJ i).bind fun i => getA v fun l => (l[i.toNat * z]?).bind fun v => some (decide (0 ≤ i ∧ i < m), { v, n }) := (rfl)
theorem st_ixS {x i : Opd} : stepC cx (.ixS x i) e h n = (x.ev e h).bind fun v => (i.ev e h).bind fun i => (asJ i).bind fun i => getS v fun l => some (decide (0 ≤ i ∧ i < l.length), { v := .i .u8 ((l[i.toNat]?).getD 0).toNat, n }) := (rfl)
def getT (v : AV) (k : List AV → Option (Bool × Eff)) : Option (Bool × Eff) := match v with
  | .tup l => k l
  | _ => none
@[congr] theorem getT_congr {v v' : AV} {k : List AV → Option (Bool × Eff)} (h : v = v') : getT v k = getT v' k := by rw [h]
theorem getT_t {l : List AV} {k : List AV → Option (Bool × Eff)} : getT (.tup l) k = k l := (rfl)
theorem st_ext {x : Opd} {i : Nat} : stepC cx (.ext x i) e h n = (x.ev e h).bind fun v => getT v fun l => (l[i]?).bind fun v => some (true, { v, n }) := (rfl)
theorem st_lenS {x : Opd} : stepC cx (.lenS x) e h n = (x.ev e h).bind fun v => getS v fun l => some (true, { v := .i .i64 l.length, n }) := (rfl)
theorem st_lenV {x : Opd} : stepC cx (.lenV x) e h n = (x.ev e h).bind fun v => match v with
    | .ns => some (true, { v := .i .i64 0, n })
    | v => (slParts v).bind fun q => some (true, { v := .i .i64 q.2.2, n }) := (rfl)
theorem st_lenC {m : Nat} : stepC cx (.lenC m) e h n = some (true, { v := .i .i64 m, n }) := (rfl)
theorem st_mn {x : Opd} {xs : List Opd} : stepC cx (.mn x xs) e h n = (x.ev e h).bind fun v => (asK v).bind fun a => (evs e h xs).bind fun l => (minI a.1 a.2 l).bind fun m => some (true, { v := .i a.1 m, n }) := (rfl)
theorem st_mx {x : Opd} {xs : List Opd} : stepC cx (.mx x xs) e h n = (x.ev e h).bind fun v => (asK v).bind fun a => (evs e h xs).bind fun l => (maxI a.1 a.2 l).bind fun m => some (true, { v := .i a.1 m, n }) := (rfl)
def getF (v : AV) (k : FuncId → List AV → Option (Bool × Eff)) : Option (Bool × Eff) := match v with
  | .fn g l => k g l
  | _ => none
@[congr] theorem getF_congr {v v' : AV} {k : FuncId → List AV → Option (Bool × Eff)} (h : v = v') : getF v k = getF v' k := by rw [h]
theorem getF_f {g : FuncId} {l : List AV} {k : FuncId → List AV → Option (Bool × Eff)} : getF (.fn g l) k = k g l := (rfl)
theorem st_call {f : Opd} {args : List Opd} : stepC cx (.call f args) e h n = (f.ev e h).bind fun v => getF v fun g caps => (evs e h args).bind fun l => cx g (l ++ caps) h n := (rfl)
end

theorem stepD_eq {cx : Cx} {o : IOp} {e : Env} {h : Hp} {n : Nat} : stepD cx o e h n = (stepC cx o e h n).bind fun r => some (r.1, r.2.v, r.2.appL h, r.2.n) := (rfl)
theorem stepE_eq {cx : Cx} {un : List Nat} {i : Nat} {dn : List (Nat × Eff)} {o : IOp} {e : Env} {h : Hp} {n : Nat} : stepE cx un i dn o e h n = (stepC cx o e h n).bind fun r => some (r.1 && effOK h n r.2 && okAll un r.2 dn, r.2.v, r.2.appL h, r.2.n, pushD i r.2 dn) := (rfl)
theorem pushD_0 {i : Nat} {v : AV} {n : Nat} {dn : List (Nat × Eff)} : pushD i (Eff.mk v n [] [] []) dn = dn := (rfl)
theorem pushD_1 {i : Nat} {v : AV} {n : Nat} {dn : List (Nat × Eff)} {x : Nat} {rd : List Nat} {md : List (Nat × Option Blk)} {nw : List (Nat × Blk)} : pushD i (Eff.mk v n (x :: rd) md nw) dn = (i, Eff.mk v n (x :: rd) md nw) :: dn := (rfl)
theorem pushD_2 {i : Nat} {v : AV} {n : Nat} {dn : List (Nat × Eff)} {x : Nat × Option Blk} {md : List (Nat × Option Blk)} {nw : List (Nat × Blk)} : pushD i (Eff.mk v n [] (x :: md) nw) dn = (i, Eff.mk v n [] (x :: md) nw) :: dn := (rfl)
theorem pushD_3 {i : Nat} {v : AV} {n : Nat} {dn : List (Nat × Eff)} {x : Nat × Blk} {nw : List (Nat × Blk)} : pushD i (Eff.mk v n [] [] (x :: nw)) dn = (i, Eff.mk v n [] [] (x :: nw)) :: dn := (rfl)
theorem effOK_eq {h : Hp} {n : Nat} {v : AV} {m : Nat} {rd : List Nat} {md : List (Nat × Option Blk)} {nw : List (Nat × Blk)} : effOK h n (Eff.mk v m rd md nw) = (decide (n ≤ m) && subM md rd && rngN n m nw && hasM h md) := (rfl)
theorem inl_nil {b : Nat} : inl [] b = false := (rfl)
theorem inl_cons {c b : Nat} {r : List Nat} : inl (c :: r) b = if c = b then true else inl r b := by
  simp only [inl]
  by_cases h : c = b
  · subst h; simp
  · rw [if_neg h, beq_ne (fun e => h e.symm)]; rfl
theorem jw_skip {F : Fx} {K : Kont} {e : Env} {h : Hp} {n : Nat} : jw F .skip K e h n = K .normal e h n := (rfl)
theorem jw_reg {F : Fx} {ops : List IOper} {K : Kont} {e : Env} {h : Hp} {n : Nat} : jw F (.reg ops) K e h n = rOps F.cx ops e h n (fun e h n => K .normal e h n) := (rfl)
theorem jw_dreg {F : Fx} {ops : List (IOper × List Nat)} {K : Kont} {e : Env} {h : Hp} {n : Nat} : jw F (.dreg ops) K e h n = rD F.cx ops 0 [] e h n (fun e h n => K .normal e h n) := (rfl)
theorem jw_seq {F : Fx} {a b : ICode} {K : Kont} {e : Env} {h : Hp} {n : Nat} : jw F (.seq a b) K e h n = jw F a (thenK K (jw F b K)) e h n := (rfl)
theorem jw_cond {F : Fx} {c : Opd} {a b : ICode} {K : Kont} {e : Env} {h : Hp} {n : Nat} : jw F (.cond c a b) K e h n = gd (c.ev e h) fun v => condB v (jw F a K e h n) (jw F b K e h n) := (rfl)
theorem jw_block {F : Fx} {i : Nat} {c : ICode} {K : Kont} {e : Env} {h : Hp} {n : Nat} : jw F (.block i c) K e h n = jw F c (blockK i K) e h n := (rfl)
theorem jw_loop {F : Fx} {c : ICode} {K : Kont} {e : Env} {h : Hp} {n : Nat} : jw F (.loop c) K e h n = Loop F.P F.ct F.N F.n0 c K e h n := (rfl)
theorem jw_scope {F : Fx} {c : ICode} {K : Kont} {e : Env} {h : Hp} {n : Nat} : jw F (.scope c) K e h n = jw F c (scopeK K) e h n := (rfl)
theorem scopeK_n {K : Kont} {e : Env} {h : Hp} {n : Nat} : scopeK K .normal e h n = K .normal e h n := (rfl)
theorem scopeK_r {K : Kont} {e : Env} {h : Hp} {n : Nat} : scopeK K .ret e h n = K .ret e h n := (rfl)
theorem scopeK_e {K : Kont} {i : Nat} {e : Env} {h : Hp} {n : Nat} : scopeK K (.exit i) e h n = K (.exit i) e h n := (rfl)
theorem jw_exit {F : Fx} {i : Nat} {K : Kont} {e : Env} {h : Hp} {n : Nat} : jw F (.exit i) K e h n = K (.exit i) e h n := (rfl)
theorem jw_ret {F : Fx} {K : Kont} {e : Env} {h : Hp} {n : Nat} : jw F .ret K e h n = K .ret e h n := (rfl)
theorem thenK_n {K : Kont} {k : Env → Hp → Nat → Prop} {e : Env} {h : Hp} {n : Nat} : thenK K k .normal e h n = k e h n := (rfl)
theorem thenK_r {K : Kont} {k : Env → Hp → Nat → Prop} {e : Env} {h : Hp} {n : Nat} : thenK K k .ret e h n = K .ret e h n := (rfl)
theorem thenK_e {K : Kont} {k : Env → Hp → Nat → Prop} {i : Nat} {e : Env} {h : Hp} {n : Nat} : thenK K k (.exit i) e h n = K (.exit i) e h n := (rfl)
theorem blockK_n {K : Kont} {i : Nat} {e : Env} {h : Hp} {n : Nat} : blockK i K .normal e h n = K .normal e h n := (rfl)
theorem blockK_r {K : Kont} {i : Nat} {e : Env} {h : Hp} {n : Nat} : blockK i K .ret e h n = K .ret e h n := (rfl)
theorem blockK_e {K : Kont} {i j : Nat} {e : Env} {h : Hp} {n : Nat} : blockK i K (.exit j) e h n = if j = i then K .normal e h n else K (.exit j) e h n := (rfl)

/-- A flagged or plain value goes on. -/
theorem spB_i {c : Bool} {a b : Prop} (h1 : c = true → a) (h2 : c = false → b) : spB c a b := ⟨h1, h2⟩

theorem retVs_nil {e : Env} {h : Hp} : retVs e h [] = some (true, []) := (rfl)
theorem retVs_t {e : Env} {h : Hp} {n : Nat} {r : List IRes} : retVs e h (.t n :: r) = (eget e n).bind fun v => (retVs e h r).bind fun q => some (q.1, v :: q.2) := (rfl)
def gd2 (x : Option (Bool × AV)) (k : Bool → AV → Prop) : Prop :=
  match x with
  | some (c, v) => k c v
  | none => False
@[congr] theorem gd2_congr {x y : Option (Bool × AV)} {k : Bool → AV → Prop} (h : x = y) : gd2 x k = gd2 y k := by rw [h]
theorem gd2_some {c : Bool} {v : AV} {k : Bool → AV → Prop} : gd2 (some (c, v)) k = k c v := (rfl)
theorem gd2_eq {x : Option (Bool × AV)} {Q : AV → Prop} : (gd x fun r => r.1 = true ∧ Q r.2) = gd2 x fun c v => andB c (Q v) := by cases x <;> rfl
theorem retK_n {rs : List IRes} {Q : AV → Hp → Nat → Prop} {e : Env} {h : Hp} {n : Nat} : retK rs Q .normal e h n = gd2 (retV rs e h) fun c v => andB c (Q v h n) := gd2_eq (Q := fun v => Q v h n)
theorem retK_r {rs : List IRes} {Q : AV → Hp → Nat → Prop} {e : Env} {h : Hp} {n : Nat} : retK rs Q .ret e h n = gd2 (retV rs e h) fun c v => andB c (Q v h n) := gd2_eq (Q := fun v => Q v h n)

end Go.Ab
