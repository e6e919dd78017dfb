/- Texts laid as one: FlzC6 FlzC7 FlzC5. -/
import Derived.Test.YtlokbfkdgnopeaaGreatDoorFlzCa
import Derived.Test.YtlokbfkdgnopeaaGreatDoorAbRfs
section
/- Contracts: field. -/
namespace Go.Proofs.Flz
open Go.Ab Go.Proofs.Flt
set_option maxRecDepth 100000
set_option maxHeartbeats 4000000
set_option linter.unusedSimpArgs false
set_option linter.unusedVariables false
theorem b8 (n d : Nat) (hd : 0 < d) : UInt8.ofNat (IntKind.u8.wrap ((n : Int).fdiv (d : Int))).toNat = UInt8.ofNat (n / d) := by
 have e : (n : Int).fdiv (d : Int) = ((n / d : Nat) : Int) := by rw [Int.fdiv_eq_ediv_of_nonneg _ (by omega)]; rfl
 rw [e]
 have e2 : (IntKind.u8.wrap ((n / d : Nat) : Int)).toNat = n / d % 256 := by
  rw [wrapU8]; omega
 rw [e2, ← UInt8.toNat_inj]
 simp
theorem w453 (n : Nat) : FTL Tryz.prog 45 [.i .i64 (n : Int), .i .i64 3] [] 0 (.s (fld n 3)) [] 0 := by
 refine FTL.of_iw (cx := cxT []) Sound.nil mo Tryz.func45 i45_eq (by simp [i45]) (iw_of_jw ?_)
 dsimp only [i45]
 simp (maxSteps := 400000) only [go_sem, simprocAttr]
 refine Loop.rounds (F := ⟨Tryz.prog, cxT [], [12], 28, 0⟩) 4 Sound.nil mo ?_
 simp (maxSteps := 400000) only [go_sem, simprocAttr]
 refine Ends.pureE rfl ?_
 have h65536 : UInt8.ofNat (IntKind.u8.wrap ((n : Int).fdiv 65536)).toNat = UInt8.ofNat (n / 65536) := b8 n 65536 (by decide)
 have h256 : UInt8.ofNat (IntKind.u8.wrap ((n : Int).fdiv 256)).toNat = UInt8.ofNat (n / 256) := b8 n 256 (by decide)
 have h1 : UInt8.ofNat (IntKind.u8.wrap ((n : Int).fdiv 1)).toNat = UInt8.ofNat (n / 1) := b8 n 1 (by decide)
 rw [h65536, h256, h1]
 simp only [fld, List.nil_append, List.cons_append, Nat.div_div_eq_div_mul, Nat.div_one, Nat.reduceMul]
theorem w452 (n : Nat) : FTL Tryz.prog 45 [.i .i64 (n : Int), .i .i64 2] [] 0 (.s (fld n 2)) [] 0 := by
 refine FTL.of_iw (cx := cxT []) Sound.nil mo Tryz.func45 i45_eq (by simp [i45]) (iw_of_jw ?_)
 dsimp only [i45]
 simp (maxSteps := 400000) only [go_sem, simprocAttr]
 refine Loop.rounds (F := ⟨Tryz.prog, cxT [], [12], 28, 0⟩) 3 Sound.nil mo ?_
 simp (maxSteps := 400000) only [go_sem, simprocAttr]
 refine Ends.pureE rfl ?_
 have h256 : UInt8.ofNat (IntKind.u8.wrap ((n : Int).fdiv 256)).toNat = UInt8.ofNat (n / 256) := b8 n 256 (by decide)
 have h1 : UInt8.ofNat (IntKind.u8.wrap ((n : Int).fdiv 1)).toNat = UInt8.ofNat (n / 1) := b8 n 1 (by decide)
 rw [h256, h1]
 simp only [fld, List.nil_append, List.cons_append, Nat.div_div_eq_div_mul, Nat.div_one, Nat.reduceMul]
theorem w451 (n : Nat) : FTL Tryz.prog 45 [.i .i64 (n : Int), .i .i64 1] [] 0 (.s (fld n 1)) [] 0 := by
 refine FTL.of_iw (cx := cxT []) Sound.nil mo Tryz.func45 i45_eq (by simp [i45]) (iw_of_jw ?_)
 dsimp only [i45]
 simp (maxSteps := 400000) only [go_sem, simprocAttr]
 refine Loop.rounds (F := ⟨Tryz.prog, cxT [], [12], 28, 0⟩) 2 Sound.nil mo ?_
 simp (maxSteps := 400000) only [go_sem, simprocAttr]
 refine Ends.pureE rfl ?_
 have h1 : UInt8.ofNat (IntKind.u8.wrap ((n : Int).fdiv 1)).toNat = UInt8.ofNat (n / 1) := b8 n 1 (by decide)
 rw [h1]
 simp only [fld, List.nil_append, List.cons_append, Nat.div_div_eq_div_mul, Nat.div_one, Nat.reduceMul]
def k45 : Ct
 | [.i .i64 a, .i .i64 k], _, n => some (decide (0 ≤ a ∧ 1 ≤ k ∧ k ≤ 3), { v := .s (fld a.toNat k.toNat), n })
 | _, _, _ => none
theorem s45 : SoundAt Tryz.prog 45 k45 := fun args h n c E hc ht => by
 unfold k45 at hc
 split at hc
 · rename_i a k
   cases hc
   obtain ⟨h0, h1, h3⟩ := of_decide_eq_true ht
   obtain ⟨m, rfl⟩ : ∃ m : Nat, a = (m : Int) := ⟨a.toNat, by omega⟩
   rw [Int.toNat_natCast]
   obtain rfl | rfl | rfl : k = 1 ∨ k = 2 ∨ k = 3 := by omega
   · exact CallOK.pure (by kernel_rfl) rfl rfl (w451 m) _ _
   · exact CallOK.pure (by kernel_rfl) rfl rfl (w452 m) _ _
   · exact CallOK.pure (by kernel_rfl) rfl rfl (w453 m) _ _
 · cases hc
end Go.Proofs.Flz
end
section
/- The rounds of Cut's loop over the pieces. -/
namespace Go.Proofs.Flz
open Go.Ab Go.Proofs.Flt
set_option maxRecDepth 100000
set_option maxHeartbeats 4000000
set_option linter.unusedSimpArgs false
set_option linter.unusedVariables false
theorem srB (j : Nat) (l : List (List UInt8)) : belL j (rows strR l) = true := belL_mono0 _ (rows_bel strR_bel)
theorem srR (ψ : Nat → Nat) (l : List (List UInt8)) : renL ψ (rows strR l) = rows strR l := renL_fix0 _ (rows_bel strR_bel)
theorem str_nyl (s : List UInt8) : nylL (strR s) = true := rfl
theorem nt_nyl (x : Nt) : nylL x.l = true := rfl
theorem w44 (x : Nt) (sz : Int) : FTL Tryz.prog 44 [.agg x.l, .i .i64 sz] [] 0 (.fn 76 [.p 0 0, .p 1 0]) [(0, { cells := x.l }), (1, { cells := [.i .i64 sz] })] 2 := by
 refine FTL.of_iw Sound.nil mo Tryz.func44 i44_eq (by simp [i44]) (iw_of_jw ?_)
 dsimp only [i44]
 obtain ⟨kd, sq, bd⟩ := x
 simp (maxSteps := 400000) only [go_sem, Nt.l, simprocAttr]
 exact Ends.R [] (by decide) (by decide) rfl rfl (by simp [HpR, hget, rn, Blk.ren, renL, AV.ren, belL, AV.bel]; rfl)
def k44 : Ct
 | [.agg c, .i .i64 sz], h, n => (nt3 c).bind fun x => some (true, { v := .fn 76 [.p n 0, .p (n + 1) 0], n := n + 2, nw := [(n, { cells := x.l }), (n + 1, { cells := [.i .i64 sz] })] })
 | _, _, _ => none
theorem s44 : SoundAt Tryz.prog 44 k44 := fun args h n c E hc ht => by
 unfold k44 at hc
 split at hc
 · rename_i cc sz
   simp only [Option.bind_eq_some_iff] at hc
   obtain ⟨x, hx, hc⟩ := hc
   cases hc
   rw [nt3_eq hx]
   have hm : ∀ {c : Nat} {kk : Blk}, (c, kk) ∈ [(0, ({ cells := x.l } : Blk)), (1, { cells := [.i .i64 sz] })] → (c = 0 ∧ kk = { cells := x.l }) ∨ (c = 1 ∧ kk = { cells := [.i .i64 sz] }) := fun hh => by simpa using hh
   have hf := w44 x sz
   obtain ⟨kd, sq, bd⟩ := x
   refine (CallOK.gen (k := 0) (kR := 2) (n := n) (h := h) (fun i => i) (fun _ => false) (by kernel_rfl) (Nat.zero_le _) rfl hf (fun c kk hh => by cases hh) (fun c kk hh => ?_) (fun c hc => absurd hc (by omega)) (fun c kk hh => by cases hh) (fun c kk hh => by cases hh) (fun c1 c2 k1 k2 q1 => by cases q1) (fun c kk hh => by cases hh) (fun c kk hh _ => ?_) (fun c kk hh => by cases hh) (fun c kk hh => ?_)).cast rfl ?_
   · rcases hm hh with ⟨rfl, rfl⟩ | ⟨rfl, rfl⟩ <;> rfl
   · rcases hm hh with ⟨rfl, rfl⟩ | ⟨rfl, rfl⟩ <;> rfl
   · rcases hm hh with ⟨rfl, rfl⟩ | ⟨rfl, rfl⟩ <;> decide
   · simp [mdG, nwG, rdG, chiG, hget, Blk.ren, AV.ren, renL, Nt.l]
     try rfl
 · cases hc
def TC7 : List (Nat × Ct) := [(12, k12), (44, k44), (45, k45)]
theorem hTC7 : Sound Tryz.prog (cxT TC7) := Sound.cons s12 <| Sound.cons s44 <| Sound.cons s45 Sound.nil
abbrev hP (x : Nt) (sz : Int) (v : AV) (Lh : Hp) : Hp :=
 (0, { cells := x.l }) :: (1, { cells := [v] }) :: (2, { cells := x.l }) :: (3, { cells := [.i .i64 sz] }) :: Lh
abbrev lS (j : Nat) (l : List (List UInt8)) : Hp := [(j, { cells := rows strR l, gr := some 1 })]
noncomputable abbrev F7 : Fx := ⟨Tryz.prog, cxT TC7, [8, 12], 50, 0⟩
abbrev yv (L : Nat) (r : Go.Loop) : AV := .yl L r [6] [.p 1 0]
def pcB (p : Pc) : Bool := decide (0 ≤ p.kd) && (decide (0 ≤ p.ln) && (decide (0 ≤ p.sq) && (decide (0 ≤ p.ofs) && decide (p.pt.length ≤ 1000000))))
theorem pcB_t {p : Pc} (h : pcB p = true) : 0 ≤ p.kd ∧ 0 ≤ p.ln ∧ 0 ≤ p.sq ∧ 0 ≤ p.ofs ∧ p.pt.length ≤ 1000000 := by simpa [pcB] using h
theorem kfld {a k : Int} (ha : 0 ≤ a) (hk : 1 ≤ k ∧ k ≤ 3) (h : Hp) (n : Nat) : k45 [.i .i64 a, .i .i64 k] h n = some (true, { v := .s (fld a.toNat k.toNat), n }) := by
 simp only [k45, decide_eq_true (show 0 ≤ a ∧ 1 ≤ k ∧ k ≤ 3 from ⟨ha, hk.1, hk.2⟩)]
theorem fld_len (n : Nat) : ∀ k, (fld n k).length = k := fun k => by
 induction k generalizing n with
 | zero => rfl
 | succ k ih => simp [fld, ih]
theorem yb_g (x : Nt) (sz : Int) (p : Pc) (hp : pcB p = true) (l : List (List UInt8)) (hll : l.length ≤ 1000000) :
 RoundW F7 [22] i10a9 i10b9 [6] [.p 1 0] [.agg p.l] (hP x sz (.sg 5 0 l.length) (lS 5 l)) 6 (hP x sz (.sg 6 0 (l.length + 1)) (lS 6 (l ++ [pcO p]))) 7 := by
 refine RoundW.of_jw ?_
 obtain ⟨h1, h2, h3, h4, h5⟩ := pcB_t hp
 have gm : decide (16 * (l.length + 1) ≤ growMax) = true := decide_eq_true (by simp only [growMax]; omega)
 have hlen : (rows strR l).length = l.length * 1 := rows_len strR_len
 have hap : rows strR (l ++ [pcO p]) = rows strR l ++ [.s (pcO p)] := by rw [rows_append]; simp [rows, strR]
 have hbb : ∀ j, belL j (rows strR l ++ [.s (pcO p)]) = true := fun j => by rw [← hap]; exact srB _ _
 have hrb : ∀ ψ, renL ψ (rows strR l ++ [.s (pcO p)]) = rows strR l ++ [.s (pcO p)] := fun ψ => by rw [← hap]; exact srR _ _
 rw [lS, hap]
 have f1 := fun h n => kfld h1 (k := 1) (by decide) h n
 have f2 := fun h n => kfld h2 (k := 3) (by decide) h n
 have f3 := fun h n => kfld h3 (k := 2) (by decide) h n
 have f4 := fun h n => kfld h4 (k := 3) (by decide) h n
 have f5 := fun h n => kfld (a := (p.pt.length : Int)) (by omega) (k := 3) (by decide) h n
 simp only [Int.reduceToNat, Int.toNat_natCast] at f1 f2 f3 f4 f5
 have hO : pcO p = fld p.kd.toNat 1 ++ fld p.ln.toNat 3 ++ fld p.sq.toNat 2 ++ fld p.ofs.toNat 3 ++ fld p.pt.length 3 ++ p.pt := rfl
 have L1 := fld_len p.kd.toNat 1
 have L2 := fld_len p.ln.toNat 3
 have L3 := fld_len p.sq.toNat 2
 have L4 := fld_len p.ofs.toNat 3
 have L5 := fld_len p.pt.length 3
 rw [hO] at hbb hrb ⊢
 obtain ⟨kd, ln, sq, ofs, pt⟩ := p
 dsimp only at *
 have lp : decide (1 + 3 + 2 + 3 + 3 + pt.length ≤ 9223372036854775807) = true := decide_eq_true (by omega)
 generalize fld kd.toNat 1 = o1 at *
 generalize fld ln.toNat 3 = o2 at *
 generalize fld sq.toNat 2 = o3 at *
 generalize fld ofs.toNat 3 = o4 at *
 generalize fld pt.length 3 = o5 at *
 simp (maxSteps := 400000) only [go_sem, F7, TC7, zipE, asg, hP, lS, gm, hlen, Pc.l, Nt.l, f1, f2, f3, f4, f5, L1, L2, L3, L4, L5, lp, List.length_append, simprocAttr]
 refine Ends.R [(6, 8)] (by decide) (by decide) rfl rfl ?_
 simp (maxSteps := 400000) only [go_sem, hP, lS, Nt.l, Blk.ren, AV.ren, renL, AV.bel, belL, nblt, srB, srR, hbb, hrb, simprocAttr]
theorem yb_z (x : Nt) (sz : Int) (p : Pc) (hp : pcB p = true) :
 RoundW F7 [22] i10a9 i10b9 [6] [.p 1 0] [.agg p.l] (hP x sz .ns []) 6 (hP x sz (.sg 6 0 1) (lS 6 [pcO p])) 7 := by
 refine RoundW.of_jw ?_
 obtain ⟨h1, h2, h3, h4, h5⟩ := pcB_t hp
 have hap : rows strR [pcO p] = [.s (pcO p)] := by simp [rows, strR]
 have hbb : ∀ j, belL j [.s (pcO p)] = true := fun j => by rw [← hap]; exact srB _ _
 have hrb : ∀ ψ, renL ψ [.s (pcO p)] = [.s (pcO p)] := fun ψ => by rw [← hap]; exact srR _ _
 rw [lS, hap]
 have f1 := fun h n => kfld h1 (k := 1) (by decide) h n
 have f2 := fun h n => kfld h2 (k := 3) (by decide) h n
 have f3 := fun h n => kfld h3 (k := 2) (by decide) h n
 have f4 := fun h n => kfld h4 (k := 3) (by decide) h n
 have f5 := fun h n => kfld (a := (p.pt.length : Int)) (by omega) (k := 3) (by decide) h n
 simp only [Int.reduceToNat, Int.toNat_natCast] at f1 f2 f3 f4 f5
 have hO : pcO p = fld p.kd.toNat 1 ++ fld p.ln.toNat 3 ++ fld p.sq.toNat 2 ++ fld p.ofs.toNat 3 ++ fld p.pt.length 3 ++ p.pt := rfl
 have L1 := fld_len p.kd.toNat 1
 have L2 := fld_len p.ln.toNat 3
 have L3 := fld_len p.sq.toNat 2
 have L4 := fld_len p.ofs.toNat 3
 have L5 := fld_len p.pt.length 3
 rw [hO] at hbb hrb ⊢
 obtain ⟨kd, ln, sq, ofs, pt⟩ := p
 dsimp only at *
 have lp : decide (1 + 3 + 2 + 3 + 3 + pt.length ≤ 9223372036854775807) = true := decide_eq_true (by omega)
 generalize fld kd.toNat 1 = o1 at *
 generalize fld ln.toNat 3 = o2 at *
 generalize fld sq.toNat 2 = o3 at *
 generalize fld ofs.toNat 3 = o4 at *
 generalize fld pt.length 3 = o5 at *
 simp (maxSteps := 400000) only [go_sem, F7, TC7, zipE, asg, hP, lS, growMax, Pc.l, Nt.l, f1, f2, f3, f4, f5, L1, L2, L3, L4, L5, lp, List.length_append, simprocAttr]
 refine Ends.R [(6, 8)] (by decide) (by decide) rfl rfl ?_
 simp (maxSteps := 400000) only [go_sem, hP, lS, Nt.l, Blk.ren, AV.ren, renL, AV.bel, belL, nblt, srB, srR, hbb, hrb, simprocAttr]
def YBc (L : Nat) (r : Go.Loop) : Prop := ∀ cs as' h1 n1 h2 n2, [22].length = as'.length → nylL cs = true → nylL as' = true → (∀ b k, hget h1 b = some k → nylL k.cells = true) → RoundW F7 [22] i10a9 i10b9 [6] cs as' h1 n1 h2 n2 → FTL Tryz.prog YB (.yl L r [6] cs :: as') h1 n1 (.b true) h2 n2
theorem callZ {L : Nat} {r : Go.Loop} (hY : YBc L r) (x : Nt) (sz : Int) (p : Pc) (hp : pcB p = true) (B : Blk) :
 CallOK Tryz.prog YB [yv L r, .agg p.l] ((4, B) :: hP x sz .ns []) 6 { v := .b true, n := 13, rd := [0, 1, 2, 3], md := [(1, some { cells := [.sg 12 0 1] })], nw := [(12, { cells := rows strR [pcO p], gr := some 1 })] } := by
 have hf := hY [.p 1 0] [.agg p.l] (hP x sz .ns []) 6 _ 7 rfl rfl rfl (fun b k hb => nylH_spec (by simp only [nylH, hP, nylL, AV.nyl, rows_nyl str_nyl, nt_nyl, Bool.and_self]) hb) (yb_z x sz p hp)
 refine (CallOK.gen (k := 6) (kR := 7) (n := 6) (h := (4, B) :: hP x sz .ns []) (fun i => if i < 4 then i else 6 + i) (fun i => i == 1) (by kernel_rfl) ?_ ?_ hf (fun c kk hh => ?_) (fun c kk hh => ?_) (fun c hc hh => ?_) (fun c kk hh => ?_) (fun c kk hh => ?_) (fun c1 c2 k1 k2 q1 q2 _ he => ?_) (fun c kk hh hM => ?_) (fun c kk hh hM => ?_) (fun c kk hh hM => ?_) (fun c kk hh => ?_)).cast ?_ ?_
 · decide
 · simp only [belL, AV.bel, p.bel]; rfl
 · simp only [hP, lS, List.mem_cons, Prod.mk.injEq, List.not_mem_nil, or_false] at hh; rcases hh with ⟨rfl, rfl⟩ | ⟨rfl, rfl⟩ | ⟨rfl, rfl⟩ | ⟨rfl, rfl⟩ <;> rfl
 · simp only [hP, lS, List.mem_cons, Prod.mk.injEq, List.not_mem_nil, or_false] at hh; rcases hh with ⟨rfl, rfl⟩ | ⟨rfl, rfl⟩ | ⟨rfl, rfl⟩ | ⟨rfl, rfl⟩ | ⟨rfl, rfl⟩ <;> rfl
 · rcases (by omega : c = 0 ∨ c = 1 ∨ c = 2 ∨ c = 3 ∨ c = 4 ∨ c = 5) with rfl | rfl | rfl | rfl | rfl | rfl <;> first | rfl | exact (Option.some_ne_none _ hh).elim
 · simp only [hP, lS, List.mem_cons, Prod.mk.injEq, List.not_mem_nil, or_false] at hh; rcases hh with ⟨rfl, rfl⟩ | ⟨rfl, rfl⟩ | ⟨rfl, rfl⟩ | ⟨rfl, rfl⟩ <;> first | exact ⟨by decide, rfl⟩ | exact ⟨by decide, by simp only [belL, AV.bel, srB, Bool.and_self]⟩
 · simp only [hP, lS, List.mem_cons, Prod.mk.injEq, List.not_mem_nil, or_false] at hh; rcases hh with ⟨rfl, rfl⟩ | ⟨rfl, rfl⟩ | ⟨rfl, rfl⟩ | ⟨rfl, rfl⟩ <;> first | rfl | (simp only [Blk.ren, srR, renL, AV.ren]; rfl) | simp only [Blk.ren, srR, renL, AV.ren]
 · simp only [hP, lS, List.mem_cons, Prod.mk.injEq, List.not_mem_nil, or_false] at q1; rcases q1 with ⟨rfl, rfl⟩ | ⟨rfl, rfl⟩ | ⟨rfl, rfl⟩ | ⟨rfl, rfl⟩ <;> (simp only [hP, lS, List.mem_cons, Prod.mk.injEq, List.not_mem_nil, or_false] at q2; rcases q2 with ⟨rfl, rfl⟩ | ⟨rfl, rfl⟩ | ⟨rfl, rfl⟩ | ⟨rfl, rfl⟩) <;> first | rfl | (exact absurd he (by decide))
 · simp only [hP, lS, List.mem_cons, Prod.mk.injEq, List.not_mem_nil, or_false] at hh; rcases hh with ⟨rfl, rfl⟩ | ⟨rfl, rfl⟩ | ⟨rfl, rfl⟩ | ⟨rfl, rfl⟩ <;> rfl
 · simp only [hP, lS, List.mem_cons, Prod.mk.injEq, List.not_mem_nil, or_false] at hh; rcases hh with ⟨rfl, rfl⟩ | ⟨rfl, rfl⟩ | ⟨rfl, rfl⟩ | ⟨rfl, rfl⟩ | ⟨rfl, rfl⟩ <;> rfl
 · simp only [hP, lS, List.mem_cons, Prod.mk.injEq, List.not_mem_nil, or_false] at hh; rcases hh with ⟨rfl, rfl⟩ | ⟨rfl, rfl⟩ | ⟨rfl, rfl⟩ | ⟨rfl, rfl⟩ <;> first | rfl | (exact absurd hM (by decide))
 · simp only [hP, lS, List.mem_cons, Prod.mk.injEq, List.not_mem_nil, or_false] at hh; rcases hh with ⟨rfl, rfl⟩ | ⟨rfl, rfl⟩ | ⟨rfl, rfl⟩ | ⟨rfl, rfl⟩ | ⟨rfl, rfl⟩ <;> decide
 · simp only [renL, AV.ren]; rfl
 · simp [mdG, nwG, rdG, chiG, hget, Blk.ren, AV.ren, srR, hP, lS]
   all_goals first | rfl | exact ⟨rfl, rfl⟩ | exact ⟨⟨rfl, rfl⟩, rfl⟩ | exact ⟨⟨_, rfl, rfl, rfl, rfl, rfl⟩, rfl⟩ | exact ⟨⟨⟨_, rfl, rfl, rfl, rfl, rfl⟩, rfl⟩, rfl⟩ | trace_state
theorem callG {L : Nat} {r : Go.Loop} (hY : YBc L r) (x : Nt) (sz : Int) (p : Pc) (hp : pcB p = true) (l : List (List UInt8)) (hll : l.length ≤ 1000000) (B : Blk) :
 CallOK Tryz.prog YB [yv L r, .agg p.l] ((4, B) :: hP x sz (.sg 5 0 l.length) (lS 5 l)) 6 { v := .b true, n := 13, rd := [0, 1, 2, 3, 5], md := [(1, some { cells := [.sg 12 0 (l.length + 1)] }), (5, none)], nw := [(12, { cells := rows strR (l ++ [pcO p]), gr := some 1 })] } := by
 have hf := hY [.p 1 0] [.agg p.l] (hP x sz (.sg 5 0 l.length) (lS 5 l)) 6 _ 7 rfl rfl rfl (fun b k hb => nylH_spec (by simp only [nylH, hP, lS, nylL, AV.nyl, rows_nyl str_nyl, nt_nyl, Bool.and_self]) hb) (yb_g x sz p hp l hll)
 refine (CallOK.gen (k := 6) (kR := 7) (n := 6) (h := (4, B) :: hP x sz (.sg 5 0 l.length) (lS 5 l)) (fun i => if i = 4 then 6 + i else i) (fun i => i == 1 || i == 5) (by kernel_rfl) ?_ ?_ hf (fun c kk hh => ?_) (fun c kk hh => ?_) (fun c hc hh => ?_) (fun c kk hh => ?_) (fun c kk hh => ?_) (fun c1 c2 k1 k2 q1 q2 _ he => ?_) (fun c kk hh hM => ?_) (fun c kk hh hM => ?_) (fun c kk hh hM => ?_) (fun c kk hh => ?_)).cast ?_ ?_
 · decide
 · simp only [belL, AV.bel, p.bel]; rfl
 · simp only [hP, lS, List.mem_cons, Prod.mk.injEq, List.not_mem_nil, or_false] at hh; rcases hh with ⟨rfl, rfl⟩ | ⟨rfl, rfl⟩ | ⟨rfl, rfl⟩ | ⟨rfl, rfl⟩ | ⟨rfl, rfl⟩ <;> rfl
 · simp only [hP, lS, List.mem_cons, Prod.mk.injEq, List.not_mem_nil, or_false] at hh; rcases hh with ⟨rfl, rfl⟩ | ⟨rfl, rfl⟩ | ⟨rfl, rfl⟩ | ⟨rfl, rfl⟩ | ⟨rfl, rfl⟩ <;> rfl
 · rcases (by omega : c = 0 ∨ c = 1 ∨ c = 2 ∨ c = 3 ∨ c = 4 ∨ c = 5) with rfl | rfl | rfl | rfl | rfl | rfl <;> first | rfl | exact (Option.some_ne_none _ hh).elim
 · simp only [hP, lS, List.mem_cons, Prod.mk.injEq, List.not_mem_nil, or_false] at hh; rcases hh with ⟨rfl, rfl⟩ | ⟨rfl, rfl⟩ | ⟨rfl, rfl⟩ | ⟨rfl, rfl⟩ | ⟨rfl, rfl⟩ <;> first | exact ⟨by decide, rfl⟩ | exact ⟨by decide, by simp only [belL, AV.bel, srB, Bool.and_self]⟩
 · simp only [hP, lS, List.mem_cons, Prod.mk.injEq, List.not_mem_nil, or_false] at hh; rcases hh with ⟨rfl, rfl⟩ | ⟨rfl, rfl⟩ | ⟨rfl, rfl⟩ | ⟨rfl, rfl⟩ | ⟨rfl, rfl⟩ <;> first | rfl | (simp only [Blk.ren, srR, renL, AV.ren]; rfl) | simp only [Blk.ren, srR, renL, AV.ren]
 · simp only [hP, lS, List.mem_cons, Prod.mk.injEq, List.not_mem_nil, or_false] at q1; rcases q1 with ⟨rfl, rfl⟩ | ⟨rfl, rfl⟩ | ⟨rfl, rfl⟩ | ⟨rfl, rfl⟩ | ⟨rfl, rfl⟩ <;> (simp only [hP, lS, List.mem_cons, Prod.mk.injEq, List.not_mem_nil, or_false] at q2; rcases q2 with ⟨rfl, rfl⟩ | ⟨rfl, rfl⟩ | ⟨rfl, rfl⟩ | ⟨rfl, rfl⟩ | ⟨rfl, rfl⟩) <;> first | rfl | (exact absurd he (by decide))
 · simp only [hP, lS, List.mem_cons, Prod.mk.injEq, List.not_mem_nil, or_false] at hh; rcases hh with ⟨rfl, rfl⟩ | ⟨rfl, rfl⟩ | ⟨rfl, rfl⟩ | ⟨rfl, rfl⟩ | ⟨rfl, rfl⟩ <;> rfl
 · simp only [hP, lS, List.mem_cons, Prod.mk.injEq, List.not_mem_nil, or_false] at hh; rcases hh with ⟨rfl, rfl⟩ | ⟨rfl, rfl⟩ | ⟨rfl, rfl⟩ | ⟨rfl, rfl⟩ | ⟨rfl, rfl⟩ <;> rfl
 · simp only [hP, lS, List.mem_cons, Prod.mk.injEq, List.not_mem_nil, or_false] at hh; rcases hh with ⟨rfl, rfl⟩ | ⟨rfl, rfl⟩ | ⟨rfl, rfl⟩ | ⟨rfl, rfl⟩ | ⟨rfl, rfl⟩ <;> first | rfl | (exact absurd hM (by decide))
 · simp only [hP, lS, List.mem_cons, Prod.mk.injEq, List.not_mem_nil, or_false] at hh; rcases hh with ⟨rfl, rfl⟩ | ⟨rfl, rfl⟩ | ⟨rfl, rfl⟩ | ⟨rfl, rfl⟩ | ⟨rfl, rfl⟩ <;> decide
 · simp only [renL, AV.ren]; rfl
 · simp [mdG, nwG, rdG, chiG, hget, Blk.ren, AV.ren, srR, hP, lS]
   all_goals first | rfl | exact ⟨rfl, rfl⟩ | exact ⟨⟨rfl, rfl⟩, rfl⟩ | exact ⟨⟨_, rfl, rfl, rfl, rfl, rfl⟩, rfl⟩ | exact ⟨⟨⟨_, rfl, rfl, rfl, rfl, rfl⟩, rfl⟩, rfl⟩ | trace_state
end Go.Proofs.Flz
end
section
/- Contracts: timers. -/
namespace Go.Proofs.Flz
open Go.Ab Go.Proofs.Flt
set_option maxRecDepth 100000
set_option maxHeartbeats 4000000
set_option linter.unusedSimpArgs false
set_option linter.unusedVariables false
theorem w68 (t : Int) (h : 1 ≤ t ∧ t ≤ 9) : FTL Tryz.prog 68 [.i .i64 t] [] 0 (.i .i64 (waitS t)) [] 0 := by
 obtain rfl | rfl | rfl | rfl | rfl | rfl | rfl | rfl | rfl : t = 1 ∨ t = 2 ∨ t = 3 ∨ t = 4 ∨ t = 5 ∨ t = 6 ∨ t = 7 ∨ t = 8 ∨ t = 9 := by omega
 all_goals
  refine FTL.of_iw (cx := cxT []) Sound.nil mo Tryz.func68 i68_eq (by simp [i68]) (iw_of_jw ?_)
  dsimp only [i68]
  simp (maxSteps := 400000) only [go_sem, simprocAttr]
  exact Ends.pureE rfl rfl
def k68 : Ct
 | [.i .i64 t], _, n => some (decide (1 ≤ t ∧ t ≤ 9), { v := .i .i64 (waitS t), n })
 | _, _, _ => none
theorem s68 : SoundAt Tryz.prog 68 k68 := fun args h n c E hc ht => by
 unfold k68 at hc
 split at hc
 · cases hc; exact CallOK.pure (by kernel_rfl) rfl rfl (w68 _ (of_decide_eq_true ht)) _ _
 · cases hc
def TC5 : List (Nat × Ct) := [(68, k68), (48, k48)]
theorem hTC5 : Sound Tryz.prog (cxT TC5) := Sound.cons s68 (Sound.cons s48 Sound.nil)
theorem w31 (t : Tm) : FTL Tryz.prog 31 [.agg t.l] [] 0 (.i .i64 (if tmB t then 0 else 192)) [] 0 := by
 obtain ⟨ti, wa, tr⟩ := t
 refine FTL.of_iw hTC5 mo Tryz.func31 i31_eq (by simp [i31]) (iw_of_jw ?_)
 dsimp only [i31, TC5]
 cases a : (ti == -1) && ((wa == 0) && (tr == 0))
 rotate_left
 · have : tmB ⟨ti, wa, tr⟩ = true := by simp only [tmB, a, Bool.true_or]
   rw [this]
   simp (maxSteps := 400000) only [go_sem, Tm.l, a, simprocAttr]
   exact Ends.pureE rfl rfl
 have hB : tmB ⟨ti, wa, tr⟩ = (decide (0 ≤ ti) && (decide (1 ≤ tr) && (decide (tr ≤ 8) && (wa == waitS tr)))) := by simp only [tmB, a, Bool.false_or]
 cases b1 : decide (ti < 0)
 rotate_left
 · have : decide (0 ≤ ti) = false := decide_eq_false (by have := of_decide_eq_true b1; omega)
   rw [hB, this, Bool.false_and]
   simp (maxSteps := 400000) only [go_sem, Tm.l, a, b1, simprocAttr]
   exact Ends.pureE rfl rfl
 cases b2 : decide (tr < 1)
 rotate_left
 · have : decide (1 ≤ tr) = false := decide_eq_false (by have := of_decide_eq_true b2; omega)
   rw [hB, this, Bool.false_and, Bool.and_false]
   simp (maxSteps := 400000) only [go_sem, Tm.l, a, b1, b2, simprocAttr]
   exact Ends.pureE rfl rfl
 cases b3 : decide (tr > 8)
 rotate_left
 · have : decide (tr ≤ 8) = false := decide_eq_false (by have := of_decide_eq_true b3; omega)
   rw [hB, this, Bool.false_and, Bool.and_false, Bool.and_false]
   simp (maxSteps := 400000) only [go_sem, Tm.l, a, b1, b2, b3, simprocAttr]
   exact Ends.pureE rfl rfl
 have e1 : decide (0 ≤ ti) = true := decide_eq_true (by have := of_decide_eq_false b1; omega)
 have e2 : decide (1 ≤ tr) = true := decide_eq_true (by have := of_decide_eq_false b2; omega)
 have e3 : decide (tr ≤ 8) = true := decide_eq_true (by have := of_decide_eq_false b3; omega)
 have e4 : decide (1 ≤ tr ∧ tr ≤ 9) = true := decide_eq_true (by have := of_decide_eq_true e2; have := of_decide_eq_true e3; omega)
 rw [hB, e1, e2, e3, Bool.true_and, Bool.true_and, Bool.true_and]
 generalize hg : waitS tr = W
 have hk : ∀ (h : Hp) n, k68 [.i .i64 tr] h n = some (true, { v := .i .i64 W, n }) := fun h n => by simp only [k68, e4, hg]
 cases c : (wa == W)
 · have c' : (wa != W) = true := by simp only [bne, c, Bool.not_false]
   simp (maxSteps := 400000) only [go_sem, Tm.l, a, b1, b2, b3, hk, c, c', simprocAttr]
   exact Ends.pureE rfl rfl
 · have c' : (wa != W) = false := by simp only [bne, c, Bool.not_true]
   simp (maxSteps := 400000) only [go_sem, Tm.l, a, b1, b2, b3, hk, c, c', simprocAttr]
   exact Ends.pureE rfl rfl
def tm3 : List AV → Option Tm
 | [.i .i64 a, .i .i64 b, .i .i64 c] => some ⟨a, b, c⟩
 | _ => none
theorem tm3_l (x : Tm) : tm3 x.l = some x := rfl
theorem tm3_eq {c : List AV} {x : Tm} (h : tm3 c = some x) : c = x.l := by
 unfold tm3 at h
 split at h
 · cases h; rfl
 · cases h
def k31 : Ct
 | [.agg c], _, n => (tm3 c).bind fun x => some (true, { v := .i .i64 (if tmB x then 0 else 192), n })
 | _, _, _ => none
theorem s31 : SoundAt Tryz.prog 31 k31 := fun args h n c E hc ht => by
 unfold k31 at hc
 split at hc
 · simp only [Option.bind_eq_some_iff] at hc
   obtain ⟨x, hx, he⟩ := hc
   cases he
   rw [tm3_eq hx]
   exact CallOK.pure (by kernel_rfl) rfl rfl (w31 x) _ _
 · cases hc
def tmV (r : Tm × Int) : AV := .tup [.agg r.1.l, .i .i64 r.2]
theorem w29 (now : Int) : FTL Tryz.prog 29 [.i .i64 now] [] 0 (tmV (startS now)) [] 0 := by
 refine FTL.of_iw hTC5 mo Tryz.func29 i29_eq (by simp [i29]) (iw_of_jw ?_)
 dsimp only [i29, TC5]
 cases a : inW now 1099511627776
 · have : startS now = (zTm, 2) := by simp only [startS, a, cond_false]
   rw [this]
   simp (maxSteps := 400000) only [go_sem, k48, a, simprocAttr]
   exact Ends.pureE rfl rfl
 · have : startS now = (⟨now + 400, 400, 1⟩, 0) := by simp only [startS, a, cond_true]
   rw [this]
   have hw : IntKind.i64.wrap (now + 400) = now + 400 := by have := inW_t a; exact wrapL (by omega) (by omega)
   simp (maxSteps := 400000) only [go_sem, k48, a, hw, simprocAttr]
   exact Ends.pureE rfl rfl
def k29 : Ct
 | [.i .i64 now], _, n => some (true, { v := tmV (startS now), n })
 | _, _, _ => none
theorem s29 : SoundAt Tryz.prog 29 k29 := fun args h n c E hc ht => by
 unfold k29 at hc
 split at hc
 · cases hc; exact CallOK.pure (by kernel_rfl) rfl rfl (w29 _) _ _
 · cases hc
def TC5b : List (Nat × Ct) := [(31, k31), (48, k48)]
theorem hTC5b : Sound Tryz.prog (cxT TC5b) := Sound.cons s31 (Sound.cons s48 Sound.nil)
def duV (r : Bool × Int) : AV := .tup [.b r.1, .i .i64 r.2]
theorem w33 (t : Tm) (now : Int) : FTL Tryz.prog 33 [.agg t.l, .i .i64 now] [] 0 (duV (dueT t now)) [] 0 := by
 have hk : ∀ (h : Hp) n, k31 [.agg t.l] h n = some (true, { v := .i .i64 (if tmB t then 0 else 192), n }) := fun h n => by simp only [k31, tm3_l, Option.bind_some]
 obtain ⟨ti, wa, tr⟩ := t
 simp only [Tm.l] at hk ⊢
 refine FTL.of_iw hTC5b mo Tryz.func33 i33_eq (by simp [i33]) (iw_of_jw ?_)
 dsimp only [i33, TC5b]
 cases a : tmB ⟨ti, wa, tr⟩
 · have : dueT ⟨ti, wa, tr⟩ now = (false, 192) := by simp only [dueT, a, cond_false]
   rw [this]
   simp (maxSteps := 400000) only [go_sem, hk, a, Bool.false_eq_true, simprocAttr]
   exact Ends.pureE rfl rfl
 cases b : inW now 1099511627776
 · have : dueT ⟨ti, wa, tr⟩ now = (false, 2) := by simp only [dueT, a, b, cond_true, cond_false]
   rw [this]
   simp (maxSteps := 400000) only [go_sem, k48, hk, a, b, simprocAttr]
   exact Ends.pureE rfl rfl
 · have : dueT ⟨ti, wa, tr⟩ now = (inW ti now, 0) := by simp only [dueT, a, b, cond_true]
   rw [this]
   simp (maxSteps := 400000) only [go_sem, k48, hk, a, b, simprocAttr]
   exact Ends.pureE rfl rfl
def k33 : Ct
 | [.agg c, .i .i64 now], _, n => (tm3 c).bind fun x => some (true, { v := duV (dueT x now), n })
 | _, _, _ => none
theorem s33 : SoundAt Tryz.prog 33 k33 := fun args h n c E hc ht => by
 unfold k33 at hc
 split at hc
 · simp only [Option.bind_eq_some_iff] at hc
   obtain ⟨x, hx, he⟩ := hc
   cases he
   rw [tm3_eq hx]
   exact CallOK.pure (by kernel_rfl) rfl rfl (w33 x _) _ _
 · cases hc
def TC5c : List (Nat × Ct) := [(33, k33), (68, k68)]
theorem hTC5c : Sound Tryz.prog (cxT TC5c) := Sound.cons s33 (Sound.cons s68 Sound.nil)
theorem w35 (t : Tm) (now : Int) : FTL Tryz.prog 35 [.agg t.l, .i .i64 now] [] 0 (tmV (againS t now)) [] 0 := by
 have hk : ∀ (h : Hp) n, k33 [.agg t.l, .i .i64 now] h n = some (true, { v := duV (dueT t now), n }) := fun h n => by simp only [k33, tm3_l, Option.bind_some]
 have hd : dueT t now = (bif tmB t then (bif inW now 1099511627776 then (inW t.ti now, 0) else (false, 2)) else (false, 192)) := rfl
 have hT : (dueT t now).2 = 0 → tmB t = true ∧ inW now 1099511627776 = true := fun h => by
  rw [hd] at h
  cases a : tmB t
  · rw [a] at h; simp at h
  · cases b : inW now 1099511627776
    · rw [a, b] at h; simp at h
    · exact ⟨rfl, rfl⟩
 have hA : againS t now = bif (dueT t now).2 == 0 then (bif (dueT t now).1 then (bif t.tr == 8 then (zTm, 4) else (⟨now + waitS (t.tr + 1), waitS (t.tr + 1), t.tr + 1⟩, 0)) else (zTm, 8)) else (zTm, (dueT t now).2) := rfl
 have hI : (dueT t now).2 = 0 → (dueT t now).1 = inW t.ti now := fun h => by
  obtain ⟨a, b⟩ := hT h
  rw [hd, a, b]; rfl
 clear hd
 generalize dueT t now = R at *
 obtain ⟨due, er⟩ := R
 dsimp only at hT hA hI
 obtain ⟨ti, wa, tr⟩ := t
 simp only [Tm.l, duV] at hk ⊢
 dsimp only at hA hI
 refine FTL.of_iw hTC5c mo Tryz.func35 i35_eq (by simp [i35]) (iw_of_jw ?_)
 dsimp only [i35, TC5c]
 cases a : (er == 0)
 · have a' : (er != 0) = true := by simp only [bne, a, Bool.not_false]
   rw [hA, a, cond_false]
   simp (maxSteps := 400000) only [go_sem, hk, a, a', simprocAttr]
   exact Ends.pureE rfl rfl
 have e0 : er = 0 := by simpa using a
 subst e0
 cases b : due
 · rw [hA, a, b, cond_true, cond_false]
   simp (maxSteps := 400000) only [go_sem, hk, b, simprocAttr]
   exact Ends.pureE rfl rfl
 cases c : (tr == 8)
 rotate_left
 · rw [hA, a, b, c, cond_true, cond_true, cond_true]
   simp (maxSteps := 400000) only [go_sem, hk, b, c, simprocAttr]
   exact Ends.pureE rfl rfl
 rw [hA, a, b, c, cond_true, cond_true, cond_false]
 obtain ⟨h1, h2⟩ := hT rfl
 have hi := hI rfl
 rw [b] at hi
 have hti := inW_t hi.symm
 have hnow := inW_t h2
 have htr : 1 ≤ tr ∧ tr ≤ 7 := by
  have c' : ¬ tr = 8 := by simpa using c
  simp only [tmB, Bool.or_eq_true, Bool.and_eq_true, beq_iff_eq, decide_eq_true_eq] at h1
  rcases h1 with h | h <;> omega
 have e4 : decide (1 ≤ tr + 1 ∧ tr + 1 ≤ 9) = true := decide_eq_true (by omega)
 have w1 : IntKind.i64.wrap (tr + 1) = tr + 1 := wrapL (by omega) (by omega)
 have hW : 0 ≤ waitS (tr + 1) ∧ waitS (tr + 1) ≤ 6400 := by unfold waitS; repeat' split <;> omega
 have hkw : ∀ (h : Hp) n, k68 [.i .i64 (tr + 1)] h n = some (true, { v := .i .i64 (waitS (tr + 1)), n }) := fun h n => by simp only [k68, e4]
 generalize waitS (tr + 1) = W at *
 have w2 : IntKind.i64.wrap (now + W) = now + W := wrapL (by omega) (by omega)
 simp (maxSteps := 400000) only [go_sem, hk, hkw, b, c, w1, w2, simprocAttr]
 exact Ends.pureE rfl rfl
def k35 : Ct
 | [.agg c, .i .i64 now], _, n => (tm3 c).bind fun x => some (true, { v := tmV (againS x now), n })
 | _, _, _ => none
theorem s35 : SoundAt Tryz.prog 35 k35 := fun args h n c E hc ht => by
 unfold k35 at hc
 split at hc
 · simp only [Option.bind_eq_some_iff] at hc
   obtain ⟨x, hx, he⟩ := hc
   cases he
   rw [tm3_eq hx]
   exact CallOK.pure (by kernel_rfl) rfl rfl (w35 x _) _ _
 · cases hc
end Go.Proofs.Flz
end
