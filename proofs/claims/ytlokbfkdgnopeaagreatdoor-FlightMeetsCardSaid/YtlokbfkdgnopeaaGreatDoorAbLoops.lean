/- Texts laid as one: AbLoop AbNum AbSlice AbLoop2. -/
import Derived.Test.YtlokbfkdgnopeaaGreatDoorAbSimps
section
/- The abstract layer, part 28: loops that count. -/
namespace Go.Ab
set_option linter.unusedVariables false
theorem Loop.by {F : Fx} (hcx : Sound F.P F.cx) (hm : F.P.follows .mixedOrders = true) {c : ICode} {K : Kont} {X : Type} (ok : X → Prop) (μ : X → Nat) (E : X → Env) (H : X → Hp) (n2 : Nat) (x0 : X) {e : Env} {h : Hp} {n : Nat} (hn : F.n0 ≤ n2)
 (h0 : ok x0) (he : EnvIn n2 e (E x0)) (hh : HpIn n2 h (H x0))
 (round : ∀ x, ok x → jw F c (thenK K fun e' h' n' => ∃ x', (ok x' ∧ μ x' < μ x) ∧ EnvIn n2 e' (E x') ∧ HpIn n2 h' (H x')) (E x) (H x) n2) : Loop F.P F.ct F.N F.n0 c K e h n := by
 refine Loop.inv (F := F) hcx hm (X := { x : X // ok x }) (fun k => (E k.1, H k.1, n2)) (fun k => μ k.1) ⟨x0, h0⟩ _root_.id (Wk.keep hn he hh) (fun k => ?_)
 refine iw_mono (fun ex e' h' n' hx => ?_) (iw_of_jw (round k.1 k.2))
 cases ex with
 | normal =>
  obtain ⟨x', ⟨h1, h2⟩, h3, h4⟩ := hx
  exact ⟨⟨x', h1⟩, _root_.id, Wk.keep hn h3 h4, h2⟩
 | _ => exact hx
theorem nblt {a b : Nat} : Nat.blt a b = decide (a < b) := by
 unfold Nat.blt
 rw [nble]
 exact decide_eq_decide.2 Nat.succ_le_iff
end Go.Ab
end
section
/- The abstract layer, part 30: facts on numbers. -/
namespace Go.Ab
set_option linter.unusedVariables false
set_option linter.unusedSimpArgs false
theorem wrapL {n : Int} (h : -9223372036854775808 ≤ n) (h' : n ≤ 9223372036854775807) : IntKind.i64.wrap n = n := by
 simp only [IntKind.wrap, IntKind.bits, IntKind.signed]
 simp
 split <;> omega
theorem wrapU8 (n : Int) : IntKind.u8.wrap n = n % 256 := by
 simp [IntKind.wrap, IntKind.bits, IntKind.signed]
theorem spB_TT {c : Bool} : spB c True True = True := by cases c <;> simp [spB]
end Go.Ab
end
section
/- The abstract layer, part 31: how simp runs operations on slices. -/
namespace Go.Ab
set_option linter.unusedVariables false
def onV {α : Type} (v : AV) (kn : Option α) (ks : Nat → Nat → Nat → Nat → Option α) (kg : Nat → Nat → Nat → Option α) : Option α := match v with
 | .ns => kn
 | .sl b o l c => ks b o l c
 | .sg b o l => kg b o l
 | _ => none
def onSl {α : Type} (v : AV) (ks : Nat → Nat → Nat → Nat → Option α) : Option α := match v with
 | .sl b o l c => ks b o l c
 | _ => none
@[congr] theorem onSl_congr {α : Type} {v v' : AV} {ks : Nat → Nat → Nat → Nat → Option α} (h : v = v') : onSl v ks = onSl v' ks := by rw [h]
theorem onSl_sl {α : Type} {b o l c : Nat} {ks : Nat → Nat → Nat → Nat → Option α} : onSl (.sl b o l c) ks = ks b o l c := (rfl)
@[congr] theorem onV_congr {α : Type} {v v' : AV} {kn : Option α} {ks : Nat → Nat → Nat → Nat → Option α} {kg : Nat → Nat → Nat → Option α} (h : v = v') : onV v kn ks kg = onV v' kn ks kg := by rw [h]
theorem onV_n {α : Type} {kn : Option α} {ks : Nat → Nat → Nat → Nat → Option α} {kg : Nat → Nat → Nat → Option α} : onV .ns kn ks kg = kn := (rfl)
theorem onV_s {α : Type} {b o l c : Nat} {kn : Option α} {ks : Nat → Nat → Nat → Nat → Option α} {kg : Nat → Nat → Nat → Option α} : onV (.sl b o l c) kn ks kg = ks b o l c := (rfl)
theorem onV_g {α : Type} {b o l : Nat} {kn : Option α} {ks : Nat → Nat → Nat → Nat → Option α} {kg : Nat → Nat → Nat → Option α} : onV (.sg b o l) kn ks kg = kg b o l := (rfl)
def onEn {α : Type} (v : AV) (ke k : Option α) : Option α := match v with
 | .en => ke
 | _ => k
@[congr] theorem onEn_congr {α : Type} {v v' : AV} {ke k : Option α} (h : v = v') : onEn v ke k = onEn v' ke k := by rw [h]
theorem onEn_e {α : Type} {ke k : Option α} : onEn .en ke k = ke := (rfl)
theorem onEn_f {α : Type} {l : List AV} {m : Nat} {ke k : Option α} : onEn (.fz l m) ke k = k := (rfl)
theorem onEn_z {α : Type} {ke k : Option α} : onEn .ze ke k = k := (rfl)
theorem onEn_n {α : Type} {ke k : Option α} : onEn .ns ke k = k := (rfl)
theorem onEn_s {α : Type} {b o l c : Nat} {ke k : Option α} : onEn (.sl b o l c) ke k = k := (rfl)
theorem onEn_g {α : Type} {b o l : Nat} {ke k : Option α} : onEn (.sg b o l) ke k = k := (rfl)
def iteD {α : Type} (c : Bool) (a b : Option α) : Option α := bif c then a else b
@[congr] theorem iteD_congr {α : Type} {c c' : Bool} {a b : Option α} (h : c = c') : iteD c a b = iteD c' a b := by rw [h]
theorem iteD_t {α : Type} {a b : Option α} : iteD true a b = a := (rfl)
theorem iteD_f {α : Type} {a b : Option α} : iteD false a b = b := (rfl)
def grK (g : Option Nat) (k : Nat → Option (Bool × Eff)) : Option (Bool × Eff) := match g with
 | some z => k z
 | none => none
@[congr] theorem grK_congr {v v' : Option Nat} {k : Nat → Option (Bool × Eff)} (h : v = v') : grK v k = grK v' k := by rw [h]
theorem grK_s {z : Nat} {k : Nat → Option (Bool × Eff)} : grK (some z) k = k z := (rfl)
section
variable {cx : Cx} {e : Env} {h : Hp} {n : Nat}
theorem sv_lenV {x : Opd} : stepC cx (.lenV x) e h n = (x.ev e h).bind fun v => onEn v (some (true, { v := .i .i64 0, n })) <| onF v (fun l m => some (true, { v := .i .i64 (m : Int), n })) (some (true, { v := .i .i64 0, n })) fun v => onV v (some (true, { v := .i .i64 0, n })) (fun b o l c => some (true, { v := .i .i64 (l : Int), n })) (fun b o l => some (true, { v := .i .i64 (l : Int), n })) := by
 rw [st_lenV]; congr 1; funext v; cases v <;> rfl
theorem sv_capV {x : Opd} : stepC cx (.capV x) e h n = (x.ev e h).bind fun v => onF v (fun l m => none) (some (true, { v := .i .i64 0, n })) fun v => onV v (some (true, { v := .i .i64 0, n })) (fun b o l c => some (true, { v := .i .i64 (c : Int), n })) (fun b o l => none) := by
 show (x.ev e h).bind _ = _; congr 1; funext v; cases v <;> rfl
theorem sv_b2s {x : Opd} : stepC cx (.b2s x) e h n = (x.ev e h).bind fun v => onF v (fun l m => (bytesOf (List.take m l)).bind fun s => some (decide (s.length = m), { v := .s s, n })) none fun v => onV v (some (true, { v := .s [], n }))
 (fun b o l c => (hget h b).bind fun k => (bytesOf (cellsAt k.cells o l)).bind fun s => some (decide (s.length = l), { v := .s s, n, rd := [b] }))
 (fun b o l => (hget h b).bind fun k => (bytesOf (cellsAt k.cells o l)).bind fun s => some (decide (s.length = l), { v := .s s, n, rd := [b] })) := by
 rw [st_b2s]; congr 1; funext v; cases v <;> rfl
theorem sv_slA {m z : Nat} {x : Opd} {lo hi mx : Option Opd} : stepC cx (.slA m z x lo hi mx) e h n = (x.ev e h).bind fun v => getP v fun b o => obind e h lo fun lo => obind e h hi fun hi => obind e h mx fun mx =>
 some ((sbound m m lo hi mx).1, { v := .sl b (if (sbound m m lo hi mx).2.2.2 = (sbound m m lo hi mx).2.1 then o else o + (sbound m m lo hi mx).2.1 * z) ((sbound m m lo hi mx).2.2.1 - (sbound m m lo hi mx).2.1) ((sbound m m lo hi mx).2.2.2 - (sbound m m lo hi mx).2.1), n }) := (rfl)
theorem iteD_m {α : Type} {c : Bool} {a b : Option α} : (match c with | true => a | false => b) = iteD c a b := by cases c <;> rfl
theorem sv_slV {z : Nat} {x : Opd} {lo hi : Option Opd} : stepC cx (.slV z x lo hi none) e h n = (x.ev e h).bind fun v => onF v (fun l len => obind e h lo fun lo => obind e h hi fun hi => some ((sbound len len lo hi none).1, { v := .fz (l.drop ((sbound len len lo hi none).2.1 * z)) ((sbound len len lo hi none).2.2.1 - (sbound len len lo hi none).2.1), n }))
 (obind e h lo fun lo => obind e h hi fun hi => some ((sbound 0 0 lo hi none).1, { v := .ze, n })) fun v => onV v
 (obind e h lo fun lo => obind e h hi fun hi => some ((sbound 0 0 lo hi none).1, { v := .ns, n }))
 (fun b o len cap => obind e h lo fun lo => obind e h hi fun hi => some ((sbound len cap lo hi none).1, { v := .sl b (if (sbound len cap lo hi none).2.2.2 = (sbound len cap lo hi none).2.1 then o else o + (sbound len cap lo hi none).2.1 * z) ((sbound len cap lo hi none).2.2.1 - (sbound len cap lo hi none).2.1) ((sbound len cap lo hi none).2.2.2 - (sbound len cap lo hi none).2.1), n }))
 (fun b o len => (hget h b).bind fun k => obind e h lo fun lo => obind e h hi fun hi => grK k.gr fun z' =>
   iteD (decide ((sbound len len lo hi none).2.1 = 0 ∨ (sbound len len lo hi none).2.1 < len)) (some ((sbound len len lo hi none).1 && Nat.beq z z', { v := .sg b (o + (sbound len len lo hi none).2.1 * z) ((sbound len len lo hi none).2.2.1 - (sbound len len lo hi none).2.1), n, rd := [b] })) (some ((sbound len len lo hi none).1 && Nat.beq z z', { v := .en, n, rd := [b] }))) := by
 show (x.ev e h).bind _ = _; congr 1; funext v; cases v <;> first | rfl | (simp only [onF_g, onV_g]; congr 1; funext k; congr 1; funext lo; congr 1; funext hi; cases k.gr with | none => rfl | some z' => exact iteD_m) | (simp only [onF_f, obind_none, Option.isSome_none, Bool.false_eq_true, false_and, if_false])
theorem sv_slV3 {z : Nat} {x : Opd} {lo hi : Option Opd} {m : Opd} : stepC cx (.slV z x lo hi (some m)) e h n = (x.ev e h).bind fun v => onF v (fun l len => obind e h lo fun lo => obind e h hi fun hi => obind e h (some m) fun mx => some ((sbound len len lo hi mx).1, { v := if mx.isSome ∧ (sbound len len lo hi mx).2.2.2 = (sbound len len lo hi mx).2.1 then .ze else .fz (l.drop ((sbound len len lo hi mx).2.1 * z)) ((sbound len len lo hi mx).2.2.1 - (sbound len len lo hi mx).2.1), n }))
 (obind e h lo fun lo => obind e h hi fun hi => obind e h (some m) fun mx => some ((sbound 0 0 lo hi mx).1, { v := .ze, n })) fun v => onV v
 (obind e h lo fun lo => obind e h hi fun hi => obind e h (some m) fun mx => some ((sbound 0 0 lo hi mx).1, { v := .ns, n }))
 (fun b o len cap => obind e h lo fun lo => obind e h hi fun hi => obind e h (some m) fun mx => some ((sbound len cap lo hi mx).1, { v := .sl b (if (sbound len cap lo hi mx).2.2.2 = (sbound len cap lo hi mx).2.1 then o else o + (sbound len cap lo hi mx).2.1 * z) ((sbound len cap lo hi mx).2.2.1 - (sbound len cap lo hi mx).2.1) ((sbound len cap lo hi mx).2.2.2 - (sbound len cap lo hi mx).2.1), n }))
 (fun b o len => none) := by
 show (x.ev e h).bind _ = _; congr 1; funext v; cases v <;> first | rfl | (simp only [onF_f, obind_none, Option.isSome_none, Bool.false_eq_true, false_and, if_false])
theorem sv_mks {z bytes : Nat} {zs : List AV} {l c : Opd} : stepC cx (.mks z bytes zs l c) e h n = (l.ev e h).bind fun l => (asI l).bind fun l => (c.ev e h).bind fun c => (asI c).bind fun c =>
 some (decide (0 ≤ l ∧ l ≤ c ∧ bytes * c ≤ 281474976710656 ∧ c ≤ 9223372036854775807), { v := .sl n 0 l.toNat c.toNat, n := n + 1, nw := [(n, { cells := zeros zs c.toNat })] }) := (rfl)
theorem sv_clr {z : Nat} {zs : List AV} {x : Opd} : stepC cx (.clr z zs x) e h n = (x.ev e h).bind fun v => onV v (some (true, { v := .tup [], n }))
 (fun b o l c => (hget h b).bind fun k => roK k.ro (some (oneAll zs && Nat.beq zs.length z && decide (o + l * z ≤ k.cells.length), { v := .tup [], n, rd := [b], md := [(b, some { k with cells := splice k.cells o (zeros zs l) })] })))
 (fun b o l => (hget h b).bind fun k => roK k.ro (some (oneAll zs && Nat.beq zs.length z && decide (o + l * z ≤ k.cells.length), { v := .tup [], n, rd := [b], md := [(b, some { k with cells := splice k.cells o (zeros zs l) })] }))) := by
 show (x.ev e h).bind _ = _; congr 1; funext v; cases v <;> rfl
def srcK (h : Hp) (z : Nat) (x : AV) (k : List Nat → Nat → List AV → Bool → Option (Bool × Eff)) : Option (Bool × Eff) := (srcCells h z x).bind fun r => k r.1 r.2.1 r.2.2.1 r.2.2.2
@[congr] theorem srcK_congr {z : Nat} {x x' : AV} {k : List Nat → Nat → List AV → Bool → Option (Bool × Eff)} (hx : x = x') : srcK h z x k = srcK h z x' k := by rw [hx]
section
variable {z : Nat} {k : List Nat → Nat → List AV → Bool → Option (Bool × Eff)}
theorem srcK_n : srcK h z .ns k = k [] 0 [] true := (rfl)
theorem srcK_str {l : List UInt8} : srcK h z (.s l) k = k [] l.length (l.map (fun b => .i .u8 b.toNat)) (Nat.beq z 1) := (rfl)
theorem srcK_e : srcK h z .en k = k [] 0 [] true := (rfl)
theorem srcK_z : srcK h z .ze k = k [] 0 [] true := (rfl)
theorem srcK_f {l : List AV} {len : Nat} : srcK h z (.fz l len) k = k [] len (cellsAt l 0 (len * z)) (decide ((cellsAt l 0 (len * z)).length = len * z)) := (rfl)
theorem srcK_sl {b o len cap : Nat} : srcK h z (.sl b o len cap) k = (hget h b).bind fun q => k [b] len (cellsAt q.cells o (len * z)) (decide ((cellsAt q.cells o (len * z)).length = len * z)) := by
 show ((hget h b).bind _).bind _ = _
 cases hget h b <;> rfl
theorem srcK_sg {b o len : Nat} : srcK h z (.sg b o len) k = (hget h b).bind fun q => k [b] len (cellsAt q.cells o (len * z)) (decide ((cellsAt q.cells o (len * z)).length = len * z)) := by
 show ((hget h b).bind _).bind _ = _
 cases hget h b <;> rfl
end
theorem sv_app {z bytes : Nat} {zs : List AV} {s x : Opd} : stepC cx (.app z bytes zs s x) e h n = (s.ev e h).bind fun s => (x.ev e h).bind fun x => srcK h z x fun r0 m cs ok =>
 onF s (fun l len => iteD (decide (m = 0)) (some (ok, { v := .fz l len, n, rd := r0 })) none) (iteD (decide (m = 0)) (some (ok, { v := .ze, n, rd := r0 })) (some (ok && decide (bytes * m ≤ growMax), { v := .sg n 0 m, n := n + 1, rd := r0, nw := [(n, { cells := cs, gr := some z })] }))) fun s => onV s
  (iteD (decide (m = 0)) (some (ok, { v := .ns, n, rd := r0 })) (some (ok && decide (bytes * m ≤ growMax), { v := .sg n 0 m, n := n + 1, rd := r0, nw := [(n, { cells := cs, gr := some z })] })))
  (fun b o len cap => iteD (decide (m = 0)) (some (ok && decide (len ≤ cap), { v := .sl b o len cap, n, rd := r0 }))
    ((hget h b).bind fun k => iteD (decide (len + m ≤ cap))
      (roK k.ro (some (ok && decide (o + len * z + cs.length ≤ k.cells.length) && oneAll cs, { v := .sl b o (len + m) cap, n, rd := b :: r0, md := [(b, some { k with cells := splice k.cells (o + len * z) cs })] })))
      (some (ok && decide (bytes * (len + m) ≤ growMax) && decide ((cellsAt k.cells o (len * z)).length = len * z) && decide (len ≤ cap), { v := .sg n 0 (len + m), n := n + 1, rd := b :: r0, nw := [(n, { cells := cellsAt k.cells o (len * z) ++ cs, gr := some z })] }))))
  (fun b o len => iteD (decide (m = 0)) (some (ok, { v := .sg b o len, n, rd := r0 }))
    ((hget h b).bind fun k => grK k.gr fun z' => some (ok && decide (bytes * (len + m) ≤ growMax) && Nat.beq z z' && decide (k.cells.length = o + len * z) && oneAll cs, { v := .sg n 0 (len + m), n := n + 1, rd := b :: r0, md := [(b, none)], nw := [(n, { cells := k.cells.drop o ++ cs, gr := some z })] }))) := by
 show (s.ev e h).bind _ = _
 congr 1; funext s; congr 1; funext x
 unfold srcK
 cases srcCells h z x with
 | none => rfl
 | some r =>
  obtain ⟨r0, m, cs, ok⟩ := r
  simp only [Option.bind_some]
  show (if m = 0 then _ else _) = _
  by_cases hm : m = 0
  · subst hm; simp only [if_true, decide_true, iteD_t]; cases s <;> rfl
  · simp only [hm, if_false, decide_false, iteD_f]
    cases s with
    | sl b o len cap =>
     show (hget h b).bind _ = (hget h b).bind _
     congr 1; funext k
     by_cases hc : len + m ≤ cap
     · simp only [hc, if_true, decide_true, iteD_t]; cases k.ro <;> rfl
     · simp only [hc, if_false, decide_false, iteD_f]
    | _ => rfl
theorem sv_cpy {z : Nat} {d s : Opd} : stepC cx (.cpy z d s) e h n = (d.ev e h).bind fun d => (s.ev e h).bind fun s => srcK h z s fun r0 m cs ok => onEn d (some (ok, { v := .i .i64 0, n, rd := r0 })) <| onV d (some (ok, { v := .i .i64 0, n, rd := r0 }))
 (fun b o l c => (hget h b).bind fun k => roK k.ro (some (ok && (oneAll cs || oneAll (cs.take (Nat.min m l * z))) && decide (o + Nat.min m l * z ≤ k.cells.length), { v := .i .i64 (Nat.min m l), n, rd := b :: r0, md := [(b, some { k with cells := splice k.cells o (cs.take (Nat.min m l * z)) })] })))
 (fun b o l => (hget h b).bind fun k => roK k.ro (some (ok && (oneAll cs || oneAll (cs.take (Nat.min m l * z))) && decide (o + Nat.min m l * z ≤ k.cells.length), { v := .i .i64 (Nat.min m l), n, rd := b :: r0, md := [(b, some { k with cells := splice k.cells o (cs.take (Nat.min m l * z)) })] }))) := by
 show (d.ev e h).bind _ = _
 congr 1; funext d; congr 1; funext s
 unfold srcK
 cases srcCells h z s with
 | none => rfl
 | some r => obtain ⟨r0, m, cs, ok⟩ := r; cases d <;> rfl
theorem sv_apz {z bytes : Nat} {zs : List AV} {s x : Opd} : stepC cx (.apz z bytes zs s x) e h n = (s.ev e h).bind fun s => (x.ev e h).bind fun x => (asI x).bind fun m => onSl s fun b o len cap => (hget h b).bind fun k =>
 some (decide (0 < m) && decide (cap < len + m.toNat) && decide (bytes * (len + m.toNat) ≤ growMax) && decide ((cellsAt k.cells o (len * z)).length = len * z), { v := .sg n 0 (len + m.toNat), n := n + 1, rd := [b], nw := [(n, { cells := cellsAt k.cells o (len * z) ++ zeros zs m.toNat, gr := some z })] }) := by
 show (s.ev e h).bind _ = _
 cases s <;> rfl
end
theorem zeros_z {z : List AV} : zeros z 0 = [] := (rfl)
theorem zeros_s {z : List AV} {n : Nat} : zeros z (n + 1) = z ++ zeros z n := (rfl)
attribute [go_sem ↓] onEn_e onEn_f onEn_z onEn_n onEn_s onEn_g sv_lenV sv_capV sv_b2s sv_slA sv_slV sv_slV3 sv_mks sv_clr sv_app sv_cpy sv_apz onSl_sl onV_n onV_s onV_g iteD_t iteD_f grK_s srcK_n srcK_z srcK_e srcK_f srcK_str srcK_sl srcK_sg zeros_z zeros_s
attribute [go_sem] sbound Option.getD_none
attribute [go_sem] beq_self_eq_true bne_self_eq_false Int.cast_ofNat_Int Int.lt_irrefl Int.le_refl IntKind.bits Nat.zero_ne_one Nat.one_ne_zero and_self and_true true_and Option.getD_some Option.isSome_some wrapL gt_iff_lt ge_iff_le Int.toNat_natCast Nat.sub_zero ite_self spB_TT Nat.zero_add Nat.add_zero
end Go.Ab
end
section
/- The abstract layer, part 32: loops that count, with what holds at each head. -/
namespace Go.Ab
set_option linter.unusedVariables false
theorem Loop.countI {F : Fx} (hcx : Sound F.P F.cx) (hm : F.P.follows .mixedOrders = true) {c : ICode} {K : Kont} (m : Nat) (ok : Nat → Prop) (E : Nat → Env) (H : Nat → Hp) (n2 : Nat) {e : Env} {h : Hp} {n : Nat} (hn : F.n0 ≤ n2)
 (h0 : ok 0) (he : EnvIn n2 e (E 0)) (hh : HpIn n2 h (H 0))
 (round : ∀ k, k ≤ m → ok k → jw F c (thenK K fun e' h' n' => (k < m ∧ ok (k + 1)) ∧ EnvIn n2 e' (E (k + 1)) ∧ HpIn n2 h' (H (k + 1))) (E k) (H k) n2) : Loop F.P F.ct F.N F.n0 c K e h n := by
 refine Loop.by (F := F) hcx hm (X := Nat) (fun k => k ≤ m ∧ ok k) (fun k => m - k) E H n2 0 hn ⟨Nat.zero_le _, h0⟩ he hh (fun k hk => ?_)
 have h1 := round k hk.1 hk.2
 have key : ∀ {c : ICode} {K K' : Kont} {e : Env} {h : Hp} {n : Nat}, (∀ ex e h n, K ex e h n → K' ex e h n) → jw F c K e h n → jw F c K' e h n := by
  intro c
  induction c with
  | skip => intro K K' e h n hk hi; exact hk _ _ _ _ hi
  | reg ops =>
   intro K K' e h n hk hi
   have mono : ∀ {l : List IOper} {e : Env} {h : Hp} {n : Nat} {K K' : Kont}, (∀ ex e h n, K ex e h n → K' ex e h n) → rOps F.cx l e h n K → rOps F.cx l e h n K' := by
    intro l
    induction l with
    | nil => intro e h n K K' hk hr; exact hk _ _ _ _ hr
    | cons o os ih =>
     intro e h n K K' hk hr
     have g4 : ∀ {d : Option Nat} {op : IOp} {s : Bool} {e : Env} {h : Hp} {n : Nat}, (gd4 (stepD F.cx op e h n) fun c p v h n => andB c (pnK p K e h n (fin1 s v fun v => rOps F.cx os (eput d v e) h n K))) → gd4 (stepD F.cx op e h n) fun c p v h n => andB c (pnK p K' e h n (fin1 s v fun v => rOps F.cx os (eput d v e) h n K')) := by
      intro d op s e h n hg
      cases hx : stepD F.cx op e h n with
      | none => rw [hx] at hg; exact hg.elim
      | some r => rw [hx] at hg; exact ⟨hg.1, pnK_mono hk (fin1_mono (fun v hv => ih hk hv)) hg.2⟩
     obtain ⟨d, op, g, s⟩ := o
     cases g with
     | none => simp only [rOps] at hr ⊢; exact g4 hr
     | some g =>
      obtain ⟨t, b⟩ := g
      simp only [rOps] at hr ⊢
      refine gd_mono (fun v hv => ?_) hr
      unfold wantB at hv ⊢
      split at hv <;> first
       | exact g4 hv
       | exact ih hk hv
       | exact hv.elim
   exact mono hk hi
  | dreg ops =>
   intro K K' e h n hk hi
   have mono : ∀ {l : List (IOper × List Nat)} {i : Nat} {dn : List (Nat × Eff)} {e : Env} {h : Hp} {n : Nat} {K K' : Kont}, (∀ ex e h n, K ex e h n → K' ex e h n) → rD F.cx l i dn e h n K → rD F.cx l i dn e h n K' := by
    intro l
    induction l with
    | nil => intro i dn e h n K K' hk hr; exact hk _ _ _ _ hr
    | cons o os ih =>
     intro i dn e h n K K' hk hr
     have g5 : ∀ {un : List Nat} {d : Option Nat} {op : IOp} {s : Bool} {e : Env} {h : Hp} {n : Nat}, (gd5 (stepE F.cx un i dn op e h n) fun c p v h n dn => andB c (pnD p un os K e h n (fin1 s v fun v => rD F.cx os (i + 1) dn (eput d v e) h n K))) → gd5 (stepE F.cx un i dn op e h n) fun c p v h n dn => andB c (pnD p un os K' e h n (fin1 s v fun v => rD F.cx os (i + 1) dn (eput d v e) h n K')) := by
      intro un d op s e h n hg
      cases hx : stepE F.cx un i dn op e h n with
      | none => rw [hx] at hg; exact hg.elim
      | some r => rw [hx] at hg; exact ⟨hg.1, pnD_mono hk (fin1_mono (fun v hv => ih hk hv)) hg.2⟩
     obtain ⟨⟨d, op, g, s⟩, un⟩ := o
     cases g with
     | none => simp only [rD] at hr ⊢; exact g5 hr
     | some g =>
      obtain ⟨t, b⟩ := g
      simp only [rD] at hr ⊢
      refine gd_mono (fun v hv => ?_) hr
      unfold wantB at hv ⊢
      split at hv <;> first
       | exact g5 hv
       | exact ih hk hv
       | exact hv.elim
   exact mono hk hi
  | seq a b iha ihb =>
   intro K K' e h n hk hi
   exact iha (fun ex e h n hx => by cases ex <;> first | exact ihb hk hx | exact hk _ _ _ _ hx) hi
  | cond c a b iha ihb =>
   intro K K' e h n hk hi
   refine gd_mono (fun v hv => ?_) hi
   unfold condB at hv ⊢
   split at hv
   · exact iha hk hv
   · exact ihb hk hv
   · exact hv.elim
  | block id c ih =>
   intro K K' e h n hk hi
   exact ih (fun ex e h n hx => by
    cases ex with
    | exit i => simp only [blockK] at hx ⊢; split <;> rename_i hid <;> simp only [hid, if_true, if_false] at hx <;> exact hk _ _ _ _ hx
    | _ => exact hk _ _ _ _ hx) hi
  | loop c ih => intro K K' e h n hk hi; exact Loop.mono hk hi
  | rfunc g ps a b => intro K K' e h n hk hi; exact RFunc.mono hk hi
  | scope c ih => intro K K' e h n hk hi; exact ih (fun ex e h n hx => by cases ex <;> first | exact hx.elim | exact hk _ _ _ _ hx) hi
  | exit id => intro K K' e h n hk hi; exact hk _ _ _ _ hi
  | ret => intro K K' e h n hk hi; exact hk _ _ _ _ hi
  | bad => intro K K' e h n hk hi; exact hi.elim
 refine key (fun ex e' h' n' hx => ?_) h1
 cases ex with
 | normal =>
  obtain ⟨⟨h1, h2⟩, h3, h4⟩ := hx
  exact ⟨k + 1, ⟨⟨h1, h2⟩, by omega⟩, h3, h4⟩
 | _ => exact hx
end Go.Ab
end
