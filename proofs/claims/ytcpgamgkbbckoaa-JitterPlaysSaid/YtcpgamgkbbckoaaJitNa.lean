/- Texts laid as one: JitN1 JitN2. -/
import Derived.Test.YtcpgamgkbbckoaaJitCf
import Derived.Test.YtcpgamgkbbckoaaJitI47
import Derived.Test.YtcpgamgkbbckoaaAbAnys
section
/- Insert, Clone and start where the copy stays open; learn, begin. -/
namespace Go.Proofs.Jit
open Go.Ab
set_option maxRecDepth 100000
set_option maxHeartbeats 4000000
set_option linter.unusedSimpArgs false
set_option linter.unusedVariables false
abbrev zs10 : List AV := [.b false, .i .i64 0, .i .i64 0, .i .i64 0, .i .i64 0, .ns, .ns, .i .i64 0, .s [], .i .i64 0]
theorem i47_gen : compF Try.prog Try.f47 = some (insI 10 120 zs10 58 59) := i47_eq
theorem s58 : SoundAt Try.prog 58 ovlK := ovl_ok (by decide) Try.func58 (by kernel_rfl) (by kernel_rfl) (by kernel_rfl) (by kernel_rfl) (by kernel_rfl)
def k47 : Ct
 | [.ze, .i .i64 i, y], h, n => vwK h 10 y fun rd m cs ok => (unrows 10 hd10 m cs).bind fun xs => some (ok && (wrt h rd && (decide (i = 0) && (decide (0 < xs.length) && decide (xs.length ≤ 1000000)))), { v := .fz cs m, n, rd, md := dels rd })
 | [.sg b o q, .i .i64 i, y], h, n => vwK h 10 y fun rd m cs ok => (unrows 10 hd10 m cs).bind fun xs => (gvK h 10 (.sg b o q)).bind fun g => (unrows 10 hd10 g.2.1 g.2.2.1).bind fun l =>
  some (ok && (wrt h rd && (g.2.2.2 && (!(inl rd g.1) && (decide (0 ≤ i ∧ i.toNat ≤ l.length) && (decide (0 < xs.length) && decide (l.length + xs.length ≤ 1000000)))))), { v := .fz (rows Hd.l (Go.Ab.insL l xs i.toNat)) (l.length + xs.length), n, rd := g.1 :: rd, md := dels (g.1 :: rd) })
 | _, _, _ => none
theorem s47 : SoundAt Try.prog 47 k47 := fun args h n c E hc ht => by
 unfold k47 at hc
 split at hc
 · rename_i i y
   rw [vwK_eq] at hc
   simp only [Option.bind_eq_some_iff, Option.some.injEq, Prod.mk.injEq] at hc
   obtain ⟨⟨rd, m, cs, ok⟩, hv, xs, hx, hok, rfl⟩ := hc
   dsimp only at hx hok
   rw [ht] at hok
   simp only [Bool.and_eq_true, decide_eq_true_eq] at hok
   obtain ⟨rfl, hw, rfl, h0, h1⟩ := hok
   obtain ⟨rfl, rfl⟩ := unrows_eq (f := Hd.l) (fun c a h => hd10_eq h) hx
   dsimp only at hw ⊢
   exact CallOK.give (by kernel_rfl) (argsF := [.ze, .i .i64 0, .fz (rows Hd.l xs) xs.length]) ⟨VwV.same rfl, VwV.same rfl, vwK_sub hv (hrB _ _) (fun b h => h), trivial⟩ (hrB _ _) hw (ins_ze mo Try.func47 i47_gen Hd.len Hd.bel xs h0 (by simp only [growMax]; omega))
 · rename_i b o q i y
   rw [vwK_eq] at hc
   simp only [Option.bind_eq_some_iff, Option.some.injEq, Prod.mk.injEq] at hc
   obtain ⟨⟨rd, m, cs, ok⟩, hv, xs, hx, ⟨b', q', cs', ok'⟩, hg, l, hl, hok, rfl⟩ := hc
   dsimp only at hx hok
   rw [ht] at hok
   simp only [Bool.and_eq_true, decide_eq_true_eq, Bool.not_eq_true'] at hok
   obtain ⟨rfl, hw, rfl, hbr, hi, h0, h1⟩ := hok
   obtain ⟨rfl, rfl⟩ := unrows_eq (f := Hd.l) (fun c a h => hd10_eq h) hx
   dsimp only at hl hbr
   obtain ⟨rfl, rfl⟩ := unrows_eq (f := Hd.l) (fun c a h => hd10_eq h) hl
   dsimp only at hw ⊢
   refine CallOK.giveG (by kernel_rfl) hg (hrB _ _) (postF := [.i .i64 i, .fz (rows Hd.l xs) xs.length]) ⟨VwV.same rfl, vwK_sub hv (hrB _ _) (fun b h => h), trivial⟩ hbr (by decide) (hrB _ _) hw (fun p c hpc => ?_)
   have := ins_sl (P := Try.prog) (row := Hd.l) mo Try.func47 i47_gen s58 Hd.len (by decide) rfl Hd.bel Hd.one l xs i.toNat p c hi.2 hpc h0 (by simp only [growMax]; omega) (by omega)
   rwa [Int.toNat_of_nonneg hi.1] at this
 · cases hc
/-! Clone, the copy left open -/
theorem w55L (l : List Hd) (h0 : 0 < l.length) (hl : l.length ≤ 1000000) : FTL Try.prog 55 [.fz (rows Hd.l l) l.length] [] 0 (.sg 0 0 l.length) [(0, { cells := rows Hd.l l, gr := some 10 })] 1 := by
 refine FTL.of_iw (cx := cxT []) Sound.nil mo Try.func55 i55_eq (by simp [i55]) (iw_of_jw ?_)
 dsimp only [i55]
 obtain ⟨m, hm⟩ : ∃ m, l.length = m + 1 := ⟨l.length - 1, by omega⟩
 have hL : (rows Hd.l l).length = l.length * 10 := rows_len Hd.len
 have h1 : List.take ((m + 1) * 10) (rows Hd.l l) = rows Hd.l l := List.take_of_length_le (by omega)
 have h2 : decide (120 * (m + 1) ≤ growMax) = true := decide_eq_true (by simp only [growMax]; omega)
 have hone := rows_one1 Hd.one l
 rw [hm] at hL ⊢
 simp (maxSteps := 400000) only [go_sem, h1, h2, hL, hone, List.drop_zero, simprocAttr]
 exact Ends.R [(0, 1)] (by decide) (by decide) rfl rfl (by simp only [HpR, hget, rn, Blk.ren, hrR, hrB, AV.ren, belL, AV.bel]; simp)
def k55L : Ct
 | [.fz L m], _, n => (unrows 10 hd10 m L).bind fun l => if l.length = 0 then some (true, { v := .ze, n }) else some (decide (l.length ≤ 1000000), { v := .sg n 0 m, n := n + 1, nw := [(n, { cells := L, gr := some 10 })] })
 | _, _, _ => none
theorem s55L : SoundAt Try.prog 55 k55L := fun args h n c E hc ht => by
 unfold k55L at hc
 split at hc
 · rename_i L m
   simp only [Option.bind_eq_some_iff] at hc
   obtain ⟨l, hl, hc⟩ := hc
   obtain ⟨rfl, hm⟩ := unrows_eq (f := Hd.l) (fun c a h => hd10_eq h) hl
   subst hm
   split at hc
   · rename_i h0
     cases hc
     rw [h0]
     exact CallOK.pure (by kernel_rfl) (by simp only [belL, AV.bel, hrB, Bool.and_self]) rfl (cln_0 mo Try.func55 (z := 10) (bytes := 120) (zs := zs10) i55_eq _) _ _
   · rename_i h0
     cases hc
     have := CallOK.new1 (h := h) (n := n) (by kernel_rfl) (by simp only [belL, AV.bel, hrB, Bool.and_self]) (hrB 0 l) rfl (w55L l (by omega) (of_decide_eq_true ht))
     simpa [AV.ren] using this
 · cases hc
end Go.Proofs.Jit
end
section
/- start, begin, learn over the open copy. -/
namespace Go.Proofs.Jit
open Go.Ab
set_option maxRecDepth 100000
set_option maxHeartbeats 4000000
set_option linter.unusedSimpArgs false
set_option linter.unusedVariables false
def T40L : List (Nat × Ct) := [(12, k12), (34, k34), (55, k55L)]
theorem hT40L : Sound Try.prog (cxT T40L) := Sound.cons s12 (Sound.cons s34 (Sound.cons s55L Sound.nil))
theorem w40L (b : Bf) (now : Int) (hf : finB b.l = true) (hg : b.rg = true) (he : lateB b now = 0) (h0 : b.l.length ≠ 0) : FTL Try.prog 40 [.agg b.a, .i .i64 now] [] 0 (.tup [.p 0 0, .i .i64 0]) [(0, { cells := Bf.c { b with ti := now } (.sg 1 0 b.l.length) }), (1, { cells := rows Hd.l b.l, gr := some 10 })] 2 := by
 have hba := bfA_a b
 obtain ⟨hgd, a1⟩ := lateB_0 he
 have hln := good_len hgd
 have hll : decide (b.l.length ≤ 9223372036854775807) = true := decide_eq_true (by omega)
 have hk : ∀ (h : Hp) n, k12 [.agg b.a] h n = some (true, { v := .i .i64 0, n }) := fun h n => by simp only [k12, hba, Option.bind_some, hll, hf, hg, hgd, if_true, Bool.and_self]
 have hun := hd_un b.l
 have hl9 : decide (b.l.length ≤ 1000000) = true := decide_eq_true (by omega)
 have h55 : ∀ (h : Hp) n, k55L [.fz (rows Hd.l b.l) b.l.length] h n = some (true, { v := .sg n 0 b.l.length, n := n + 1, nw := [(n, { cells := rows Hd.l b.l, gr := some 10 })] }) := fun h n => by simp only [k55L, hun, Option.bind_some, hl9, h0, if_false]
 obtain ⟨ck, ti, sd, wh, nx, mr, of, tr, ji, lo, l⟩ := b
 dsimp only at a1 h55 h0
 simp only [Bf.a] at hk ⊢
 have hLb : ∀ j, belL j (rows Hd.l l) = true := fun j => hrB j l
 have hLr : ∀ ψ, renL ψ (rows Hd.l l) = rows Hd.l l := fun ψ => hrR ψ l
 refine FTL.of_iw hT40L mo Try.func40 i40_eq (by simp [i40]) (iw_of_jw ?_)
 dsimp only [i40, T40L]
 simp (maxSteps := 400000) only [go_sem, hk, k34, a1, h55, simprocAttr]
 refine Ends.R [(0, 1), (1, 2)] ?_ ?_ ?_ ?_ ?_
 · decide
 · decide
 · simp (maxSteps := 400000) only [go_sem, AV.ren, renL, AV.bel, belL, nblt, simprocAttr]
 · simp (maxSteps := 400000) only [go_sem, AV.ren, renL, AV.bel, belL, nblt, hLb, simprocAttr]
 · simp (maxSteps := 400000) only [go_sem, AV.ren, renL, AV.bel, belL, nblt, Blk.ren, hLb, hLr, Bf.c, simprocAttr]
theorem w40Z (b : Bf) (now : Int) (hf : finB b.l = true) (hg : b.rg = true) (he : lateB b now = 0) (h0 : b.l.length = 0) : FTL Try.prog 40 [.agg b.a, .i .i64 now] [] 0 (.tup [.p 0 0, .i .i64 0]) [(0, { cells := Bf.c { b with ti := now } .ze })] 1 := by
 have hba := bfA_a b
 obtain ⟨hgd, a1⟩ := lateB_0 he
 have hln := good_len hgd
 have hll : decide (b.l.length ≤ 9223372036854775807) = true := decide_eq_true (by omega)
 have hk : ∀ (h : Hp) n, k12 [.agg b.a] h n = some (true, { v := .i .i64 0, n }) := fun h n => by simp only [k12, hba, Option.bind_some, hll, hf, hg, hgd, if_true, Bool.and_self]
 have hun := hd_un b.l
 have h55 : ∀ (h : Hp) n, k55L [.fz (rows Hd.l b.l) b.l.length] h n = some (true, { v := .ze, n }) := fun h n => by simp only [k55L, hun, Option.bind_some]; rw [if_pos h0]
 obtain ⟨ck, ti, sd, wh, nx, mr, of, tr, ji, lo, l⟩ := b
 dsimp only at a1 h55 h0
 simp only [Bf.a] at hk ⊢
 have hLb : ∀ j, belL j (rows Hd.l l) = true := fun j => hrB j l
 have hLr : ∀ ψ, renL ψ (rows Hd.l l) = rows Hd.l l := fun ψ => hrR ψ l
 refine FTL.of_iw hT40L mo Try.func40 i40_eq (by simp [i40]) (iw_of_jw ?_)
 dsimp only [i40, T40L]
 simp (maxSteps := 400000) only [go_sem, hk, k34, a1, h55, simprocAttr]
 refine Ends.R [(0, 1)] ?_ ?_ ?_ ?_ ?_
 · decide
 · decide
 · simp (maxSteps := 400000) only [go_sem, AV.ren, renL, AV.bel, belL, nblt, simprocAttr]
 · simp (maxSteps := 400000) only [go_sem, AV.ren, renL, AV.bel, belL, nblt, hLb, simprocAttr]
 · simp (maxSteps := 400000) only [go_sem, AV.ren, renL, AV.bel, belL, nblt, Blk.ren, hLb, hLr, Bf.c, simprocAttr]
def k40L : Ct
 | [.agg c, .i .i64 now], _, n => (bfA c).bind fun b => if lateB b now = 0 then
  (if b.l.length = 0 then some (finB b.l && b.rg, { v := .tup [.p n 0, .i .i64 0], n := n + 1, nw := [(n, { cells := Bf.c { b with ti := now } .ze })] })
   else some (finB b.l && b.rg, { v := .tup [.p n 0, .i .i64 0], n := n + 2, nw := [(n, { cells := Bf.c { b with ti := now } (.sg (n + 1) 0 b.l.length) }), (n + 1, { cells := rows Hd.l b.l, gr := some 10 })] }))
  else some (decide (b.l.length ≤ 9223372036854775807) && (finB b.l && b.rg), { v := .tup [.np, .i .i64 (lateB b now)], n })
 | _, _, _ => none
theorem s40L : SoundAt Try.prog 40 k40L := fun args h n c E hc ht => by
 unfold k40L at hc
 split at hc
 · rename_i cc now
   simp only [Option.bind_eq_some_iff] at hc
   obtain ⟨b, hd, hc⟩ := hc
   rw [bfA_eq hd]
   have hb : belL 0 [AV.agg b.a, AV.i .i64 now] = true := by simp only [belL, AV.bel, Bf.bel, Bool.and_self]
   split at hc
   · rename_i h0
     split at hc
     · rename_i hz
       cases hc
       simp only [Bool.and_eq_true] at ht
       have := CallOK.new1 (h := h) (n := n) (by kernel_rfl) hb rfl rfl (w40Z b _ ht.1 ht.2 h0 hz)
       simpa [AV.ren, renL] using this
     · rename_i hz
       cases hc
       simp only [Bool.and_eq_true] at ht
       have hm : ∀ {c : Nat} {kk : Blk}, (c, kk) ∈ [(0, ({ cells := Bf.c { b with ti := now } (.sg 1 0 b.l.length) } : Blk)), (1, { cells := rows Hd.l b.l, gr := some 10 })] → (c = 0 ∧ kk = { cells := Bf.c { b with ti := now } (.sg 1 0 b.l.length) }) ∨ (c = 1 ∧ kk = { cells := rows Hd.l b.l, gr := some 10 }) := fun hh => by simpa using hh
       refine (CallOK.gen (k := 0) (kR := 2) (n := n) (h := h) (fun i => i) (fun _ => false) (by kernel_rfl) (Nat.zero_le _) hb (w40L b _ ht.1 ht.2 h0 hz) (fun c kk hh => by cases hh) (fun c kk hh => ?_) (fun c hc => absurd hc (by omega)) (fun c kk hh => by cases hh) (fun c kk hh => by cases hh) (fun c1 c2 k1 k2 q1 => by cases q1) (fun c kk hh => by cases hh) (fun c kk hh _ => ?_) (fun c kk hh => by cases hh) (fun c kk hh => ?_)).cast (renL_fix0 _ hb) ?_
       · rcases hm hh with ⟨rfl, rfl⟩ | ⟨rfl, rfl⟩ <;> rfl
       · rcases hm hh with ⟨rfl, rfl⟩ | ⟨rfl, rfl⟩ <;> rfl
       · rcases hm hh with ⟨rfl, rfl⟩ | ⟨rfl, rfl⟩ <;> decide
       · simp [mdG, nwG, rdG, chiG, hget, Blk.ren, AV.ren, renL, Bf.c, hrR]
         rfl
   · rename_i h0
     cases hc
     simp only [Bool.and_eq_true, decide_eq_true_eq] at ht
     exact CallOK.pure (by kernel_rfl) hb rfl (w40e b _ ht.1 ht.2.1 ht.2.2 h0) _ _
 · cases hc
/-! begin -/
def begS (b : Bf) (p : Md) (st : Int) : Bf := { b with sd := true, nx := p.sq, wh := true, of := b.ti * b.ck - st, mr := st, tr := b.ti * b.ck - st }
def begOK (b : Bf) (st : Int) : Bool := inI 0 1099511627776 b.ti && (inI 1 96 b.ck && inI 0 1152921504606846976 st)
theorem ti_ck {a b : Int} (ha : inI 0 1099511627776 a = true) (hb : inI 1 96 b = true) : 0 ≤ a * b ∧ a * b ≤ 105553116266496 := by
 have ha := inI_t ha
 have hb := inI_t hb
 exact ⟨Int.mul_nonneg ha.1 (by omega), Int.le_trans (Int.mul_le_mul ha.2 hb.2 (by omega) (by omega)) (by decide)⟩
theorem w42 (b : Bf) (p : Md) (st : Int) (hok : begOK b st = true) : FTL Try.prog 42 [.p 0 0, .agg p.l, .i .i64 st] [(0, { cells := b.c .ze })] 1 (.tup []) [(0, { cells := (begS b p st).c .ze })] 1 := by
 simp only [begOK, Bool.and_eq_true] at hok
 have h1 := ti_ck hok.1 hok.2.1
 have h2 := inI_t hok.2.2
 obtain ⟨ck, ti, sd, wh, nx, mr, of, tr, ji, lo, l⟩ := b
 obtain ⟨ma, pty, sq, tm, pss, cs, xs, pd, pl⟩ := p
 dsimp only at h1
 simp only [begS, Bf.c, Md.l]
 have w1 : IntKind.i64.wrap (ti * ck) = ti * ck := wrapL (by omega) (by omega)
 have w2 : IntKind.i64.wrap (ti * ck - st) = ti * ck - st := wrapL (by omega) (by omega)
 refine FTL.of_iw (cx := cxT []) Sound.nil mo Try.func42 i42_eq (by simp [i42]) (iw_of_jw ?_)
 dsimp only [i42]
 simp (maxSteps := 400000) only [go_sem, w1, w2, simprocAttr]
 exact Ends.R [] (by decide) (by decide) rfl rfl ⟨rfl, rfl, by decide, trivial⟩
def bfC : List AV → Option (Bf × AV)
 | [.i .i64 ck, .i .i64 ti, .b sd, .b wh, .i .i64 nx, .i .i64 mr, .i .i64 of, .i .i64 tr, .i .i64 ji, .i .i64 lo, v] => some (⟨ck, ti, sd, wh, nx, mr, of, tr, ji, lo, []⟩, v)
 | _ => none
theorem bfC_eq {c : List AV} {b : Bf} {v : AV} (e : bfC c = some (b, v)) : c = b.c v := by
 unfold bfC at e
 split at e
 · cases e; rfl
 · cases e
def isZe : AV → Bool
 | .ze => true
 | _ => false
theorem isZe_eq {v : AV} (h : isZe v = true) : v = .ze := by cases v <;> first | rfl | cases h
def k42 : Ct
 | [.p b 0, .agg q, .i .i64 st], h, n => (hget h b).bind fun k => (bfC k.cells).bind fun x => (md9 q).bind fun p => some (!k.ro && (match k.gr, k.gid with | none, none => true | _, _ => false) && isZe x.2 && begOK x.1 st, { v := .tup [], n, rd := [b], md := [(b, some { cells := (begS x.1 p st).c .ze })] })
 | _, _, _ => none
theorem blk_eq {k : Blk} {c : List AV} (h : (match k.gr, k.gid with | none, none => true | _, _ => false) = true) (hr : k.ro = false) (hc : k.cells = c) : k = { cells := c } := by
 obtain ⟨cs, ro, gr, gid⟩ := k
 cases gr <;> cases gid <;> simp at h
 dsimp only at hr hc
 subst hr hc
 rfl
theorem s42 : SoundAt Try.prog 42 k42 := fun args h n c E hc ht => by
 unfold k42 at hc
 split at hc
 · rename_i b q st
   simp only [Option.bind_eq_some_iff] at hc
   obtain ⟨k, hk, ⟨x, v⟩, hx, p, hp, hc⟩ := hc
   cases hc
   simp only [Bool.and_eq_true, Bool.not_eq_true'] at ht
   obtain ⟨⟨⟨hro, hg⟩, hz⟩, hok⟩ := ht
   try dsimp only at hz hok
   cases isZe_eq hz
   have hk' := blk_eq hg hro (bfC_eq hx)
   subst hk'
   rw [md9_eq hp]
   have := CallOK.upd1 (P := Try.prog) (f := 42) (argsL := [.p 0 0, .agg p.l, .i .i64 st]) (k' := { cells := (begS x p st).c .ze }) (n := n) (by kernel_rfl) (by simp only [belL, AV.bel, mdlB, nblt]; rfl) rfl rfl rfl rfl hk (w42 x p st hok)
   simpa [renL, AV.ren, renL_fix0 _ (mdlB 0 p)] using this
 · cases hc
/-! learn -/
def lrnS (b : Bf) (st : Int) : Bf := { b with ji := b.ji + min (max (b.ti * b.ck - st - b.tr) (b.tr - (b.ti * b.ck - st))) 65535 - (b.ji + 8) / 16, of := min b.of (b.ti * b.ck - st), mr := max b.mr st, tr := b.ti * b.ck - st }
def lrnOK (b : Bf) (st : Int) : Bool := inI 0 1099511627776 b.ti && (inI 1 96 b.ck && (inI 0 1152921504606846976 st && (inI (-1152921504606846976) 1152921504606846976 b.tr && inI 0 1048576 b.ji)))
theorem w46 (b : Bf) (st : Int) (hok : lrnOK b st = true) (v : AV) (r : Hp) (k : Nat) (hr : (v = .ze ∧ r = [] ∧ k = 1) ∨ (v = .sg 1 0 b.l.length ∧ r = [(1, { cells := rows Hd.l b.l, gr := some 10 })] ∧ k = 2)) :
 FTL Try.prog 46 [.p 0 0, .i .i64 st] ((0, { cells := b.c v })   :: r) k (.tup []) ((0, { cells := (lrnS b st).c v }) :: r) k := by
 simp only [lrnOK, Bool.and_eq_true] at hok
 obtain ⟨o1, o2, o3, o4, o5⟩ := hok
 have h1 := ti_ck o1 o2
 have h2 := inI_t o3
 have h3 := inI_t o4
 have h4 := inI_t o5
 obtain ⟨ck, ti, sd, wh, nx, mr, of, tr, ji, lo, l⟩ := b
 dsimp only at h1 h3 h4 hr
 simp only [lrnS, Bf.c]
 have w1 : IntKind.i64.wrap (ti * ck) = ti * ck := wrapL (by omega) (by omega)
 have w2 : IntKind.i64.wrap (ti * ck - st) = ti * ck - st := wrapL (by omega) (by omega)
 have hT : -1152921504606846976 ≤ ti * ck - st ∧ ti * ck - st ≤ 105553116266496 := by omega
 generalize hTe : ti * ck - st = T at *
 have w3 : IntKind.i64.wrap (T - tr) = T - tr := wrapL (by omega) (by omega)
 have w4 : IntKind.i64.wrap (0 - (T - tr)) = tr - T := by rw [wrapL (by omega) (by omega)]; omega
 have w6 : IntKind.i64.wrap (ji + 8) = ji + 8 := wrapL (by omega) (by omega)
 have m1 : (ji + 8).fdiv 16 = (ji + 8) / 16 := Int.fdiv_eq_ediv_of_nonneg _ (by decide)
 have w7 : IntKind.i64.wrap (min (max (T - tr) (tr - T)) 65535 - (ji + 8) / 16) = min (max (T - tr) (tr - T)) 65535 - (ji + 8) / 16 := wrapL (by omega) (by omega)
 have w8 : IntKind.i64.wrap (ji + (min (max (T - tr) (tr - T)) 65535 - (ji + 8) / 16)) = ji + min (max (T - tr) (tr - T)) 65535 - (ji + 8) / 16 := by rw [wrapL (by omega) (by omega)]; omega
 rcases hr with ⟨rfl, rfl, rfl⟩ | ⟨rfl, rfl, rfl⟩
 · refine FTL.of_iw (cx := cxT []) Sound.nil mo Try.func46 i46_eq (by simp [i46]) (iw_of_jw ?_)
   dsimp only [i46]
   simp (maxSteps := 400000) only [go_sem, w1, w2, w3, w4, w6, m1, w7, w8, hTe, simprocAttr]
   exact Ends.R [] (by decide) (by decide) rfl rfl ⟨rfl, rfl, by decide, trivial⟩
 · refine FTL.of_iw (cx := cxT []) Sound.nil mo Try.func46 i46_eq (by simp [i46]) (iw_of_jw ?_)
   dsimp only [i46]
   simp (maxSteps := 400000) only [go_sem, w1, w2, w3, w4, w6, m1, w7, w8, hTe, simprocAttr]
   exact Ends.R [] (by decide) (by decide) rfl rfl (by
    refine ⟨?_, rfl, by decide, ?_, hrB _ _, by decide, trivial⟩
    · simp [hget, rn, Blk.ren, renL, AV.ren]
    · simp only [hget, rn, Blk.ren, hrR]; rfl)
def k46 : Ct
 | [.p 3 0, .i .i64 st], h, n => (hget h 3).bind fun k => (bfC k.cells).bind fun x => match x.2 with
  | .ze => some (!k.ro && (match k.gr, k.gid with | none, none => true | _, _ => false) && lrnOK x.1 st, { v := .tup [], n, rd := [3], md := [(3, some { cells := (lrnS x.1 st).c .ze })] })
  | .sg 4 0 m => (hget h 4).bind fun k4 => (unrows 10 hd10 m k4.cells).bind fun l => some (!k.ro && (match k.gr, k.gid with | none, none => true | _, _ => false) && !k4.ro && (match k4.gr, k4.gid with | some 10, none => true | _, _ => false) && lrnOK x.1 st, { v := .tup [], n := n + 2, rd := [3, 4], md := [(3, some { cells := (lrnS x.1 st).c (.sg 4 0 m) })] })
  | _ => none
 | _, _, _ => none
theorem s46 : SoundAt Try.prog 46 k46 := fun args h n c E hc ht => by
 unfold k46 at hc
 split at hc
 · rename_i st
   simp only [Option.bind_eq_some_iff] at hc
   obtain ⟨k, hk, ⟨x, v⟩, hx, hc⟩ := hc
   split at hc
   · rename_i hz
     cases hc
     simp only [Bool.and_eq_true, Bool.not_eq_true'] at ht
     obtain ⟨⟨hro, hg⟩, hok⟩ := ht
     dsimp only at hz
     subst hz
     have hk' := blk_eq hg hro (bfC_eq hx)
     subst hk'
     have := CallOK.upd1 (P := Try.prog) (f := 46) (argsL := [.p 0 0, .i .i64 st]) (k' := { cells := (lrnS x st).c .ze }) (v := .tup []) (n := n) (by kernel_rfl) rfl rfl rfl rfl rfl hk (w46 x st hok .ze [] 1 (.inl ⟨rfl, rfl, rfl⟩))
     simpa [renL, AV.ren] using this
   · rename_i m hz
     simp only [Option.bind_eq_some_iff] at hc
     obtain ⟨k4, hk4, l, hl, hc⟩ := hc
     cases hc
     simp only [Bool.and_eq_true, Bool.not_eq_true'] at ht
     obtain ⟨⟨⟨⟨hro, hg⟩, hro4⟩, hg4⟩, hok⟩ := ht
     dsimp only at hz
     subst hz
     have hk' := blk_eq hg hro (bfC_eq hx)
     subst hk'
     obtain ⟨hl4, hlm⟩ := unrows_eq (f := Hd.l) (fun c a h => hd10_eq h) hl
     have hk4' : k4 = { cells := rows Hd.l l, gr := some 10 } := by
      obtain ⟨cs, ro, gr, gid⟩ := k4
      dsimp only at hro4 hg4 hl4
      subst hl4 hro4
      split at hg4
      · rfl
      · cases hg4
     subst hk4' hlm
     have hf := w46 { x with l := l } st hok (.sg 1 0 l.length) [(1, { cells := rows Hd.l l, gr := some 10 })] 2 (.inr ⟨rfl, rfl, rfl⟩)
     have hm : ∀ {c : Nat} {kk : Blk} {A : Blk}, (c, kk) ∈ [(0, A), (1, ({ cells := rows Hd.l l, gr := some 10 } : Blk))] → (c = 0 ∧ kk = A) ∨ (c = 1 ∧ kk = { cells := rows Hd.l l, gr := some 10 }) := fun hh => by simpa using hh
     refine (CallOK.gen (k := 2) (kR := 2) (n := n) (h := h) (fun i => if i = 0 then 3 else 4) (fun i => i == 0) (by kernel_rfl) (Nat.le_refl _) rfl hf (fun c kk hh => ?_) (fun c kk hh => ?_) (fun c hc hh => ?_) (fun c kk hh => ?_) (fun c kk hh => ?_) (fun c1 c2 k1 k2 q1 q2 _ he => ?_) (fun c kk hh hM => ?_) (fun c kk hh hM => ?_) (fun c kk hh hM => ?_) (fun c kk hh => ?_)).cast rfl ?_
     · rcases hm hh with ⟨rfl, rfl⟩ | ⟨rfl, rfl⟩ <;> rfl
     · rcases hm hh with ⟨rfl, rfl⟩ | ⟨rfl, rfl⟩ <;> rfl
     · match c, hc with
       | 0, _ => cases hh
       | 1, _ => cases hh
     · rcases hm hh with ⟨rfl, rfl⟩ | ⟨rfl, rfl⟩
       · exact ⟨by decide, rfl⟩
       · exact ⟨by decide, hrB _ _⟩
     · rcases hm hh with ⟨rfl, rfl⟩ | ⟨rfl, rfl⟩
       · simp only [if_true, hk]; rfl
       · simp only [Blk.ren, hrR]; exact hk4
     · rcases hm q1 with ⟨rfl, rfl⟩ | ⟨rfl, rfl⟩ <;> rcases hm q2 with ⟨rfl, _⟩ | ⟨rfl, _⟩ <;> simp at he <;> rfl
     · rcases hm hh with ⟨rfl, rfl⟩ | ⟨rfl, rfl⟩ <;> first | rfl | cases hM
     · rcases hm hh with ⟨rfl, rfl⟩ | ⟨rfl, rfl⟩ <;> rfl
     · rcases hm hh with ⟨rfl, rfl⟩ | ⟨rfl, rfl⟩
       · cases hM
       · rfl
     · rcases hm hh with ⟨rfl, rfl⟩ | ⟨rfl, rfl⟩ <;> decide
     · simp [mdG, nwG, rdG, chiG, hget, Blk.ren, AV.ren, renL, Bf.c, lrnS]
       rfl
   · cases hc
 · cases hc
end Go.Proofs.Jit
end
