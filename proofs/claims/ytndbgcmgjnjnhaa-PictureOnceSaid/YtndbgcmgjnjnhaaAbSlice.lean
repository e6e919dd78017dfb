/- The abstract layer, part 31: how simp runs operations on slices. -/
import Derived.Test.YtndbgcmgjnjnhaaAbLoop
import Derived.Test.YtndbgcmgjnjnhaaAbNum
namespace Go.Ab
set_option linter.unusedVariables false

def onV {α : Type} (v : AV) (kn : Option α) (ks : Nat → Nat → Nat → Nat → Option α) (kg : Nat → Nat → Nat → Option α) : Option α := match v with
  | .ns => kn
  | .sl b o l c => ks b o l c
  | .sg b o l => kg b o l
  | _ => none
@[congr] theorem onV_congr {α : Type} {v v' : AV} {kn : Option α} {ks : Nat → Nat → Nat → Nat → Option α} {kg : Nat → Nat → Nat → Option α} (h : v = v') : onV v kn ks kg = onV v' kn ks kg := by rw [h]
theorem onV_n {α : Type} {kn : Option α} {ks : Nat → Nat → Nat → Nat → Option α} {kg : Nat → Nat → Nat → Option α} : onV .ns kn ks kg = kn := (rfl)
theorem onV_s {α : Type} {b o l c : Nat} {kn : Option α} {ks : Nat → Nat → Nat → Nat → Option α} {kg : Nat → Nat → Nat → Option α} : onV (.sl b o l c) kn ks kg = ks b o l c := (rfl)
theorem onV_g {α : Type} {b o l : Nat} {kn : Option α} {ks : Nat → Nat → Nat → Nat → Option α} {kg : Nat → Nat → Nat → Option α} : onV (.sg b o l) kn ks kg = kg b o l := (rfl)
/-- Which way, by a test that is a proposition. -/
def iteD {α : Type} (c : Bool) (a b : Option α) : Option α := bif c then a else b
@[congr] theorem iteD_congr {α : Type} {c c' : Bool} {a b : Option α} (h : c = c') : iteD c a b = iteD c' a b := by rw [h]
theorem iteD_t {α : Type} {a b : Option α} : iteD true a b = a := (rfl)
theorem iteD_f {α : Type} {a b : Option α} : iteD false a b = b := (rfl)
theorem iteD_eq {α : Type} {p : Prop} [Decidable p] {a b : Option α} : (if p then a else b) = iteD (decide p) a b := by
  by_cases h : p <;> simp [iteD, h]
def grK (g : Option Nat) (k : Nat → Option (Bool × Eff)) : Option (Bool × Eff) := match g with
  | some z => k z
  | none => none
@[congr] theorem grK_congr {v v' : Option Nat} {k : Nat → Option (Bool × Eff)} (h : v = v') : grK v k = grK v' k := by rw [h]
theorem grK_s {z : Nat} {k : Nat → Option (Bool × Eff)} : grK (some z) k = k z := (rfl)

section
variable {cx : Cx} {e : Env} {h : Hp} {n : Nat}
theorem sv_lenV {x : Opd} : stepC cx (.lenV x) e h n = (x.ev e h).bind fun v => onV v (some (true, { v := .i .i64 0, n })) (fun b o l c => some (true, { v := .i .i64 (l : Int), n })) (fun b o l => some (true, { v := .i .i64 (l : Int), n })) := by
  rw [st_lenV]; congr 1; funext v; cases v <;> rfl
theorem sv_capV {x : Opd} : stepC cx (.capV x) e h n = (x.ev e h).bind fun v => onV v (some (true, { v := .i .i64 0, n })) (fun b o l c => some (true, { v := .i .i64 (c : Int), n })) (fun b o l => none) := by
  show (x.ev e h).bind _ = _; congr 1; funext v; cases v <;> rfl
theorem sv_b2s {x : Opd} : stepC cx (.b2s x) e h n = (x.ev e h).bind fun v => onV v (some (true, { v := .s [], n }))
    (fun b o l c => (hget h b).bind fun k => (bytesOf (cellsAt k.cells o l)).bind fun s => some (decide (s.length = l), { v := .s s, n, rd := [b] }))
    (fun b o l => (hget h b).bind fun k => (bytesOf (cellsAt k.cells o l)).bind fun s => some (decide (s.length = l), { v := .s s, n, rd := [b] })) := by
  rw [st_b2s]; congr 1; funext v; cases v <;> rfl
theorem sv_slA {m z : Nat} {x : Opd} {lo hi mx : Option Opd} : stepC cx (.slA m z x lo hi mx) e h n = (x.ev e h).bind fun v => getP v fun b o => obind e h lo fun lo => obind e h hi fun hi => obind e h mx fun mx =>
    some ((sbound m m lo hi mx).1, { v := .sl b (if (sbound m m lo hi mx).2.2.2 = (sbound m m lo hi mx).2.1 then o else o + (sbound m m lo hi mx).2.1 * z) ((sbound m m lo hi mx).2.2.1 - (sbound m m lo hi mx).2.1) ((sbound m m lo hi mx).2.2.2 - (sbound m m lo hi mx).2.1), n }) := (rfl)
theorem sv_slV {z : Nat} {x : Opd} {lo hi : Option Opd} : stepC cx (.slV z x lo hi none) e h n = (x.ev e h).bind fun v => onV v
    (obind e h lo fun lo => obind e h hi fun hi => some ((sbound 0 0 lo hi none).1, { v := .ns, n }))
    (fun b o len cap => obind e h lo fun lo => obind e h hi fun hi => some ((sbound len cap lo hi none).1, { v := .sl b (if (sbound len cap lo hi none).2.2.2 = (sbound len cap lo hi none).2.1 then o else o + (sbound len cap lo hi none).2.1 * z) ((sbound len cap lo hi none).2.2.1 - (sbound len cap lo hi none).2.1) ((sbound len cap lo hi none).2.2.2 - (sbound len cap lo hi none).2.1), n }))
    (fun b o len => (hget h b).bind fun k => obind e h lo fun lo => obind e h hi fun hi => grK k.gr fun z' =>
      some ((sbound len len lo hi none).1 && decide ((sbound len len lo hi none).2.1 = 0 ∨ (sbound len len lo hi none).2.1 < len) && Nat.beq z z', { v := .sg b (o + (sbound len len lo hi none).2.1 * z) ((sbound len len lo hi none).2.2.1 - (sbound len len lo hi none).2.1), n, rd := [b] })) := by
  show (x.ev e h).bind _ = _; congr 1
theorem sv_slV3 {z : Nat} {x : Opd} {lo hi : Option Opd} {m : Opd} : stepC cx (.slV z x lo hi (some m)) e h n = (x.ev e h).bind fun v => onV v
    (obind e h lo fun lo => obind e h hi fun hi => obind e h (some m) fun mx => some ((sbound 0 0 lo hi mx).1, { v := .ns, n }))
    (fun b o len cap => obind e h lo fun lo => obind e h hi fun hi => obind e h (some m) fun mx => some ((sbound len cap lo hi mx).1, { v := .sl b (if (sbound len cap lo hi mx).2.2.2 = (sbound len cap lo hi mx).2.1 then o else o + (sbound len cap lo hi mx).2.1 * z) ((sbound len cap lo hi mx).2.2.1 - (sbound len cap lo hi mx).2.1) ((sbound len cap lo hi mx).2.2.2 - (sbound len cap lo hi mx).2.1), n }))
    (fun b o len => none) := by
  show (x.ev e h).bind _ = _; congr 1
theorem sv_mks {z bytes : Nat} {zs : List AV} {l c : Opd} : stepC cx (.mks z bytes zs l c) e h n = (l.ev e h).bind fun l => (asI l).bind fun l => (c.ev e h).bind fun c => (asI c).bind fun c =>
      some (decide (0 ≤ l ∧ l ≤ c ∧ bytes * c ≤ 281474976710656 ∧ c ≤ 9223372036854775807), { v := .sl n 0 l.toNat c.toNat, n := n + 1, nw := [(n, { cells := zeros zs c.toNat })] }) := (rfl)
theorem sv_clr {z : Nat} {zs : List AV} {x : Opd} : stepC cx (.clr z zs x) e h n = (x.ev e h).bind fun v => onV v (some (true, { v := .tup [], n }))
    (fun b o l c => (hget h b).bind fun k => roK k.ro (some (oneAll zs && Nat.beq zs.length z && decide (o + l * z ≤ k.cells.length), { v := .tup [], n, rd := [b], md := [(b, some { k with cells := splice k.cells o (zeros zs l) })] })))
    (fun b o l => (hget h b).bind fun k => roK k.ro (some (oneAll zs && Nat.beq zs.length z && decide (o + l * z ≤ k.cells.length), { v := .tup [], n, rd := [b], md := [(b, some { k with cells := splice k.cells o (zeros zs l) })] }))) := by
  show (x.ev e h).bind _ = _; congr 1; funext v; cases v <;> rfl
/-- What an append takes: blocks looked at, how many, the cells, the condition. -/
def srcK (h : Hp) (z : Nat) (x : AV) (k : List Nat → Nat → List AV → Bool → Option (Bool × Eff)) : Option (Bool × Eff) := (srcCells h z x).bind fun r => k r.1 r.2.1 r.2.2.1 r.2.2.2
@[congr] theorem srcK_congr {z : Nat} {x x' : AV} {k : List Nat → Nat → List AV → Bool → Option (Bool × Eff)} (hx : x = x') : srcK h z x k = srcK h z x' k := by rw [hx]
section
variable {z : Nat} {k : List Nat → Nat → List AV → Bool → Option (Bool × Eff)}
theorem srcK_n : srcK h z .ns k = k [] 0 [] true := (rfl)
theorem srcK_str {l : List UInt8} : srcK h z (.s l) k = k [] l.length (l.map (fun b => .i .u8 b.toNat)) (Nat.beq z 1) := (rfl)
theorem srcK_sl {b o len cap : Nat} : srcK h z (.sl b o len cap) k = (hget h b).bind fun q => k [b] len (cellsAt q.cells o (len * z)) (decide ((cellsAt q.cells o (len * z)).length = len * z)) := by
  show ((hget h b).bind _).bind _ = _
  cases hget h b <;> rfl
theorem srcK_sg {b o len : Nat} : srcK h z (.sg b o len) k = (hget h b).bind fun q => k [b] len (cellsAt q.cells o (len * z)) (decide ((cellsAt q.cells o (len * z)).length = len * z)) := by
  show ((hget h b).bind _).bind _ = _
  cases hget h b <;> rfl
end
theorem sv_app {z bytes : Nat} {zs : List AV} {s x : Opd} : stepC cx (.app z bytes zs s x) e h n = (s.ev e h).bind fun s => (x.ev e h).bind fun x => srcK h z x fun r0 m cs ok =>
    onV s
      (iteD (decide (m = 0)) (some (ok, { v := .ns, n, rd := r0 })) (some (ok && decide (bytes * m ≤ growMax), { v := .sg n 0 m, n := n + 1, rd := r0, nw := [(n, { cells := cs, gr := some z })] })))
      (fun b o len cap => iteD (decide (m = 0)) (some (ok && decide (len ≤ cap), { v := .sl b o len cap, n, rd := r0 }))
        ((hget h b).bind fun k => iteD (decide (len + m ≤ cap))
          (roK k.ro (some (ok && decide (o + len * z + cs.length ≤ k.cells.length) && oneAll cs, { v := .sl b o (len + m) cap, n, rd := b :: r0, md := [(b, some { k with cells := splice k.cells (o + len * z) cs })] })))
          (some (ok && decide (bytes * (len + m) ≤ growMax) && decide ((cellsAt k.cells o (len * z)).length = len * z) && decide (len ≤ cap), { v := .sg n 0 (len + m), n := n + 1, rd := b :: r0, nw := [(n, { cells := cellsAt k.cells o (len * z) ++ cs, gr := some z })] }))))
      (fun b o len => iteD (decide (m = 0)) (some (ok, { v := .sg b o len, n, rd := r0 }))
        ((hget h b).bind fun k => grK k.gr fun z' => some (ok && decide (bytes * (len + m) ≤ growMax) && Nat.beq z z' && Nat.beq o 0 && decide (k.cells.length = len * z) && oneAll cs, { v := .sg n 0 (len + m), n := n + 1, rd := b :: r0, md := [(b, none)], nw := [(n, { cells := k.cells ++ cs, gr := some z })] }))) := by
  show (s.ev e h).bind _ = _
  congr 1; funext s; congr 1; funext x
  unfold srcK
  cases srcCells h z x with
  | none => rfl
  | some r =>
    obtain ⟨r0, m, cs, ok⟩ := r
    simp only [Option.bind_some]
    show (if m = 0 then _ else _) = _
    by_cases hm : m = 0
    · subst hm; simp only [if_true, decide_true, iteD_t]; cases s <;> rfl
    · simp only [hm, if_false, decide_false, iteD_f]
      cases s with
      | sl b o len cap =>
        show (hget h b).bind _ = (hget h b).bind _
        congr 1; funext k
        by_cases hc : len + m ≤ cap
        · simp only [hc, if_true, decide_true, iteD_t]; cases k.ro <;> rfl
        · simp only [hc, if_false, decide_false, iteD_f]
      | _ => rfl
theorem sv_cpy {z : Nat} {d s : Opd} : stepC cx (.cpy z d s) e h n = (d.ev e h).bind fun d => (s.ev e h).bind fun s => srcK h z s fun r0 m cs ok => onV d (some (ok, { v := .i .i64 0, n, rd := r0 }))
    (fun b o l c => (hget h b).bind fun k => roK k.ro (some (ok && oneAll cs && decide (o + Nat.min m l * z ≤ k.cells.length), { v := .i .i64 (Nat.min m l), n, rd := b :: r0, md := [(b, some { k with cells := splice k.cells o (cs.take (Nat.min m l * z)) })] })))
    (fun b o l => (hget h b).bind fun k => roK k.ro (some (ok && oneAll cs && decide (o + Nat.min m l * z ≤ k.cells.length), { v := .i .i64 (Nat.min m l), n, rd := b :: r0, md := [(b, some { k with cells := splice k.cells o (cs.take (Nat.min m l * z)) })] }))) := by
  show (d.ev e h).bind _ = _
  congr 1; funext d; congr 1; funext s
  unfold srcK
  cases srcCells h z s with
  | none => rfl
  | some r => obtain ⟨r0, m, cs, ok⟩ := r; cases d <;> rfl
end
theorem zeros_z {z : List AV} : zeros z 0 = [] := (rfl)
theorem zeros_s {z : List AV} {n : Nat} : zeros z (n + 1) = z ++ zeros z n := (rfl)
attribute [go_sem ↓] sv_lenV sv_capV sv_b2s sv_slA sv_slV sv_slV3 sv_mks sv_clr sv_app sv_cpy onV_n onV_s onV_g iteD_t iteD_f grK_s srcK_n srcK_str srcK_sl srcK_sg zeros_z zeros_s
attribute [go_sem] sbound Option.getD_none
end Go.Ab
