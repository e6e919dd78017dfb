/- Texts laid as one: LysC6 LysC7 LysC8. -/
import Derived.Test.YtkpiibllomjeaaaLysCb
import Derived.Test.YtkpiibllomjeaaaLysMb
import Derived.Test.YtkpiibllomjeaaaLysQa
import Derived.Test.YtkpiibllomjeaaaLysMa
import Derived.Test.YtkpiibllomjeaaaAbPtr
section
/- Chapter 41: sums of numbers, what is newer, must. -/
namespace Go.Proofs.Lys
open Go.Ab
set_option maxRecDepth 100000
set_option maxHeartbeats 4000000
set_option linter.unusedSimpArgs false
set_option linter.unusedVariables false
def lead (a b : Int) : Int := if (a - b) % 65536 ≥ 32768 then (a - b) % 65536 - 65536 else (a - b) % 65536
def lead32 (a b : Int) : Int := if (a - b) % 4294967296 ≥ 2147483648 then (a - b) % 4294967296 - 4294967296 else (a - b) % 4294967296
theorem w86 (x y : Int) (hx : 0 ≤ x ∧ x ≤ 65535) (hy : 0 ≤ y ∧ y ≤ 65535) : FTL Try.prog 86 [.i .i64 x, .i .i64 y, .i .i64 16] [] 0 (.tup [.i .i64 (lead x y), .i .i64 0]) [] 0 := by
 refine FTL.of_iw Sound.nil mo Try.func86 i86_eq (by simp [i86]) (iw_of_jw ?_)
 dsimp only [i86]
 have f1 : x.fdiv 65536 = 0 := by rw [Int.fdiv_eq_ediv_of_nonneg _ (by omega)]; omega
 have f2 : y.fdiv 65536 = 0 := by rw [Int.fdiv_eq_ediv_of_nonneg _ (by omega)]; omega
 have c1 : decide (x < 0) = false := decide_eq_false (by omega)
 have c2 : decide (y < 0) = false := decide_eq_false (by omega)
 have g1 : IntKind.i64.wrap (x - y) = x - y := wrapL (by omega) (by omega)
 have g2 : IntKind.i64.wrap 65536 = 65536 := rfl
 have g3 : IntKind.i64.wrap 65535 = 65535 := rfl
 have g4 : ((x - y) % 65536).fdiv 32768 = (x - y) % 65536 / 32768 := Int.fdiv_eq_ediv_of_nonneg _ (by omega)
 have g5 : IntKind.i64.wrap ((x - y) % 65536 - 65536) = (x - y) % 65536 - 65536 := wrapL (by omega) (by omega)
 simp (maxSteps := 400000) only [go_sem, f1, f2, c1, c2, g1, g2, g3, and16, g4, g5, simprocAttr]
 repeat' (first | refine spB_i (fun _ => ?_) (fun _ => ?_) | refine andB_i ?_ ?_)
 all_goals first
  | (refine Ends.pureE rfl ?_
     simp only [lead]
     grind)
  | rfl
theorem w86_32 (x y : Int) (hx : 0 ≤ x ∧ x ≤ 4294967295) (hy : 0 ≤ y ∧ y ≤ 4294967295) : FTL Try.prog 86 [.i .i64 x, .i .i64 y, .i .i64 32] [] 0 (.tup [.i .i64 (lead32 x y), .i .i64 0]) [] 0 := by
 refine FTL.of_iw Sound.nil mo Try.func86 i86_eq (by simp [i86]) (iw_of_jw ?_)
 dsimp only [i86]
 have f1 : x.fdiv 4294967296 = 0 := by rw [Int.fdiv_eq_ediv_of_nonneg _ (by omega)]; omega
 have f2 : y.fdiv 4294967296 = 0 := by rw [Int.fdiv_eq_ediv_of_nonneg _ (by omega)]; omega
 have c1 : decide (x < 0) = false := decide_eq_false (by omega)
 have c2 : decide (y < 0) = false := decide_eq_false (by omega)
 have g1 : IntKind.i64.wrap (x - y) = x - y := wrapL (by omega) (by omega)
 have g2 : IntKind.i64.wrap 4294967296 = 4294967296 := rfl
 have g3 : IntKind.i64.wrap 4294967295 = 4294967295 := rfl
 have g4 : ((x - y) % 4294967296).fdiv 2147483648 = (x - y) % 4294967296 / 2147483648 := Int.fdiv_eq_ediv_of_nonneg _ (by omega)
 have g5 : IntKind.i64.wrap ((x - y) % 4294967296 - 4294967296) = (x - y) % 4294967296 - 4294967296 := wrapL (by omega) (by omega)
 simp (maxSteps := 400000) only [go_sem, f1, f2, c1, c2, g1, g2, g3, and32, g4, g5, simprocAttr]
 repeat' (first | refine spB_i (fun _ => ?_) (fun _ => ?_) | refine andB_i ?_ ?_)
 all_goals first
  | (refine Ends.pureE rfl ?_
     simp only [lead32]
     grind)
  | rfl
def k86 : Ct
 | [.i .i64 x, .i .i64 y, .i .i64 16], _, n => some (inI 0 65535 x && inI 0 65535 y, { v := .tup [.i .i64 (lead x y), .i .i64 0], n })
 | [.i .i64 x, .i .i64 y, .i .i64 32], _, n => some (inI 0 4294967295 x && inI 0 4294967295 y, { v := .tup [.i .i64 (lead32 x y), .i .i64 0], n })
 | _, _, _ => none
theorem s86 : SoundAt Try.prog 86 k86 := fun args h n c E hc ht => by
 unfold k86 at hc
 split at hc
 · cases hc
   simp only [Bool.and_eq_true] at ht
   exact CallOK.pure (by kernel_rfl) rfl rfl (w86 _ _ (inI_t ht.1) (inI_t ht.2)) _ _
 · cases hc
   simp only [Bool.and_eq_true] at ht
   exact CallOK.pure (by kernel_rfl) rfl rfl (w86_32 _ _ (inI_t ht.1) (inI_t ht.2)) _ _
 · cases hc
/-! sums -/
theorem m8 (a b : Int) : IntKind.i64.wrap (IntKind.u8.wrap (IntKind.u8.wrap a - IntKind.u8.wrap b)) = (a - b) % 256 := by
 rw [wrapU8, wrapU8, wrapU8, wrapL (by omega) (by omega)]; omega
theorem m16 (a b : Int) : IntKind.i64.wrap (IntKind.u16.wrap (IntKind.u16.wrap a - IntKind.u16.wrap b)) = (a - b) % 65536 := by
 rw [wrapU16, wrapU16, wrapU16, wrapL (by omega) (by omega)]; omega
theorem m32 (a b : Int) : IntKind.i64.wrap (IntKind.u32.wrap (IntKind.u32.wrap a - IntKind.u32.wrap b)) = (a - b) % 4294967296 := by
 rw [wrapU32, wrapU32, wrapU32, wrapL (by omega) (by omega)]; omega
theorem p8 (a b : Int) : IntKind.i64.wrap (IntKind.u8.wrap (IntKind.u8.wrap a + IntKind.u8.wrap b)) = (a + b) % 256 := by
 rw [wrapU8, wrapU8, wrapU8, wrapL (by omega) (by omega)]; omega
theorem p16 (a b : Int) : IntKind.i64.wrap (IntKind.u16.wrap (IntKind.u16.wrap a + IntKind.u16.wrap b)) = (a + b) % 65536 := by
 rw [wrapU16, wrapU16, wrapU16, wrapL (by omega) (by omega)]; omega
theorem p32 (a b : Int) : IntKind.i64.wrap (IntKind.u32.wrap (IntKind.u32.wrap a + IntKind.u32.wrap b)) = (a + b) % 4294967296 := by
 rw [wrapU32, wrapU32, wrapU32, wrapL (by omega) (by omega)]; omega
theorem wmod (a : Int) : (IntKind.i64.wrap a) % 32768 = a % 32768 := by
 have hw : IntKind.i64.wrap a = a ∨ ∃ k : Int, IntKind.i64.wrap a = a + 18446744073709551616 * k := by
  right
  simp only [IntKind.wrap, IntKind.bits, IntKind.signed]
  simp
  split
  · exact ⟨- (a / 18446744073709551616) - 1, by omega⟩
  · exact ⟨- (a / 18446744073709551616), by omega⟩
 rcases hw with h | ⟨k, h⟩ <;> rw [h]
 omega
theorem w91 (a b : Int) : FTL Try.prog 91 [.i .i64 a, .i .i64 b] [] 0 (.i .i64 ((a - b) % 65536)) [] 0 := by
 refine FTL.of_iw Sound.nil mo Try.func91 i91_eq (by simp [i91]) (iw_of_jw ?_)
 dsimp only [i91]
 simp (maxSteps := 400000) only [go_sem, m16, simprocAttr]
 exact Ends.pureE rfl rfl
def k91 : Ct
 | [.i .i64 a, .i .i64 b], _, n => some (true, { v := .i .i64 ((a - b) % 65536), n })
 | _, _, _ => none
theorem s91 : SoundAt Try.prog 91 k91 := fun args h n c E hc ht => by
 unfold k91 at hc
 split at hc
 · cases hc; exact CallOK.pure (by kernel_rfl) rfl rfl (w91 _ _) _ _
 · cases hc
theorem w92 (a b : Int) : FTL Try.prog 92 [.i .i64 a, .i .i64 b] [] 0 (.i .i64 ((a - b) % 4294967296)) [] 0 := by
 refine FTL.of_iw Sound.nil mo Try.func92 i92_eq (by simp [i92]) (iw_of_jw ?_)
 dsimp only [i92]
 simp (maxSteps := 400000) only [go_sem, m32, simprocAttr]
 exact Ends.pureE rfl rfl
def k92 : Ct
 | [.i .i64 a, .i .i64 b], _, n => some (true, { v := .i .i64 ((a - b) % 4294967296), n })
 | _, _, _ => none
theorem s92 : SoundAt Try.prog 92 k92 := fun args h n c E hc ht => by
 unfold k92 at hc
 split at hc
 · cases hc; exact CallOK.pure (by kernel_rfl) rfl rfl (w92 _ _) _ _
 · cases hc
theorem w94 (a b : Int) : FTL Try.prog 94 [.i .i64 a, .i .i64 b] [] 0 (.i .i64 ((a - b) % 256)) [] 0 := by
 refine FTL.of_iw Sound.nil mo Try.func94 i94_eq (by simp [i94]) (iw_of_jw ?_)
 dsimp only [i94]
 simp (maxSteps := 400000) only [go_sem, m8, simprocAttr]
 exact Ends.pureE rfl rfl
def k94 : Ct
 | [.i .i64 a, .i .i64 b], _, n => some (true, { v := .i .i64 ((a - b) % 256), n })
 | _, _, _ => none
theorem s94 : SoundAt Try.prog 94 k94 := fun args h n c E hc ht => by
 unfold k94 at hc
 split at hc
 · cases hc; exact CallOK.pure (by kernel_rfl) rfl rfl (w94 _ _) _ _
 · cases hc
theorem w97 (a b : Int) : FTL Try.prog 97 [.i .i64 a, .i .i64 b] [] 0 (.i .i64 ((a + b) % 65536)) [] 0 := by
 refine FTL.of_iw Sound.nil mo Try.func97 i97_eq (by simp [i97]) (iw_of_jw ?_)
 dsimp only [i97]
 simp (maxSteps := 400000) only [go_sem, p16, simprocAttr]
 exact Ends.pureE rfl rfl
def k97 : Ct
 | [.i .i64 a, .i .i64 b], _, n => some (true, { v := .i .i64 ((a + b) % 65536), n })
 | _, _, _ => none
theorem s97 : SoundAt Try.prog 97 k97 := fun args h n c E hc ht => by
 unfold k97 at hc
 split at hc
 · cases hc; exact CallOK.pure (by kernel_rfl) rfl rfl (w97 _ _) _ _
 · cases hc
theorem w98 (a b : Int) : FTL Try.prog 98 [.i .i64 a, .i .i64 b] [] 0 (.i .i64 ((a + b) % 4294967296)) [] 0 := by
 refine FTL.of_iw Sound.nil mo Try.func98 i98_eq (by simp [i98]) (iw_of_jw ?_)
 dsimp only [i98]
 simp (maxSteps := 400000) only [go_sem, p32, simprocAttr]
 exact Ends.pureE rfl rfl
def k98 : Ct
 | [.i .i64 a, .i .i64 b], _, n => some (true, { v := .i .i64 ((a + b) % 4294967296), n })
 | _, _, _ => none
theorem s98 : SoundAt Try.prog 98 k98 := fun args h n c E hc ht => by
 unfold k98 at hc
 split at hc
 · cases hc; exact CallOK.pure (by kernel_rfl) rfl rfl (w98 _ _) _ _
 · cases hc
theorem w99 (a b : Int) : FTL Try.prog 99 [.i .i64 a, .i .i64 b] [] 0 (.i .i64 ((a + b) % 256)) [] 0 := by
 refine FTL.of_iw Sound.nil mo Try.func99 i99_eq (by simp [i99]) (iw_of_jw ?_)
 dsimp only [i99]
 simp (maxSteps := 400000) only [go_sem, p8, simprocAttr]
 exact Ends.pureE rfl rfl
def k99 : Ct
 | [.i .i64 a, .i .i64 b], _, n => some (true, { v := .i .i64 ((a + b) % 256), n })
 | _, _, _ => none
theorem s99 : SoundAt Try.prog 99 k99 := fun args h n c E hc ht => by
 unfold k99 at hc
 split at hc
 · cases hc; exact CallOK.pure (by kernel_rfl) rfl rfl (w99 _ _) _ _
 · cases hc
theorem w93 (a b : Int) : FTL Try.prog 93 [.i .i64 a, .i .i64 b] [] 0 (.i .i64 ((a + b) % 32768)) [] 0 := by
 refine FTL.of_iw Sound.nil mo Try.func93 i93_eq (by simp [i93]) (iw_of_jw ?_)
 dsimp only [i93]
 simp (maxSteps := 400000) only [go_sem, and15, wmod, simprocAttr]
 exact Ends.pureE rfl rfl
def k93 : Ct
 | [.i .i64 a, .i .i64 b], _, n => some (true, { v := .i .i64 ((a + b) % 32768), n })
 | _, _, _ => none
theorem s93 : SoundAt Try.prog 93 k93 := fun args h n c E hc ht => by
 unfold k93 at hc
 split at hc
 · cases hc; exact CallOK.pure (by kernel_rfl) rfl rfl (w93 _ _) _ _
 · cases hc
def T96 : List (Nat × Ct) := [(86, k86)]
theorem hT96 : Sound Try.prog (cxT T96) := Sound.cons s86 Sound.nil
theorem w96 (x y : Int) (hx : inI 0 65535 x = true) (hy : inI 0 65535 y = true) : FTL Try.prog 96 [.i .i64 x, .i .i64 y, .i .i64 16] [] 0 (.tup [.b (decide (lead x y > 0)), .i .i64 0]) [] 0 := by
 refine FTL.of_iw hT96 mo Try.func96 i96_eq (by simp [i96]) (iw_of_jw ?_)
 dsimp only [i96, T96]
 simp (maxSteps := 400000) only [go_sem, k86, hx, hy, simprocAttr]
 exact Ends.pureE rfl rfl
def k96 : Ct
 | [.i .i64 x, .i .i64 y, .i .i64 16], _, n => some (inI 0 65535 x && inI 0 65535 y, { v := .tup [.b (decide (lead x y > 0)), .i .i64 0], n })
 | _, _, _ => none
theorem s96 : SoundAt Try.prog 96 k96 := fun args h n c E hc ht => by
 unfold k96 at hc
 split at hc
 · cases hc
   simp only [Bool.and_eq_true] at ht
   exact CallOK.pure (by kernel_rfl) rfl rfl (w96 _ _ ht.1 ht.2) _ _
 · cases hc
/-! must: the first panic -/
def endedV : Value := .iface 131 (.agg #[])
theorem w95t : FTL Try.prog 95 [.b true] [] 0 (.tup []) [] 0 := by
 refine FTL.of_iw Sound.nil mo Try.func95 i95_eq (by simp [i95]) (iw_of_jw ?_)
 dsimp only [i95]
 simp (maxSteps := 400000) only [go_sem, simprocAttr]
 exact Ends.pureE rfl rfl
theorem w95f : FTLx Try.prog 95 [.b false] [] 0 (some endedV) (.tup []) [] 0 := by
 refine FTLx.of_iw Sound.nil mo Try.func95 i95_eq (by simp [i95]) (iw_of_jw ?_)
 dsimp only [i95]
 simp (maxSteps := 400000) only [go_sem, fills, simprocAttr]
 exact ⟨rfl, Ends.pureE rfl rfl⟩
theorem CallOK.pureX {P : Program} {f : FuncId} {args : List AV} {pn : Option Value} {v : AV} (hc : Go.Ab.callable P f = true) (ha : belL 0 args = true) (hv : v.bel 0 = true) (hf : FTLx P f args [] 0 pn v [] 0) (h : Hp) (n : Nat) : CallOK P f args h n { v, n, pn } := by
 refine CallOK.of_FTLx (ψ := fun b => b) hc hf rfl (Nat.le_refl _) ha (fun b hb => absurd hb (by omega)) (fun b kk hb => by simp [hget] at hb) (renL_fix0 _ ha).symm (fun b kk hb => by simp [hget] at hb) (fun b1 b2 k1 k2 hb => by simp [hget] at hb) (by simp) (ren_fix0 _ hv).symm
  (fun b r hb => by simp [mget] at hb) (fun b kk hb => by simp [hget] at hb) (fun c kk hc => ?_)
 simp [Eff.app, mget, hget, only, inl] at hc
def k95 : Ct
 | [.b c], _, n => some (true, { v := .tup [], n, pn := bif c then none else some endedV })
 | _, _, _ => none
theorem s95 : SoundAt Try.prog 95 k95 := fun args h n c E hc ht => by
 unfold k95 at hc
 split at hc
 · rename_i b
   cases hc
   cases b
   · exact CallOK.pureX (by kernel_rfl) rfl rfl w95f _ _
   · exact CallOK.pureX (pn := none) (by kernel_rfl) rfl rfl w95t _ _
 · cases hc
end Go.Proofs.Lys
end
section
/- Chapter 41: the mixer's steps. -/
namespace Go.Proofs.Lys
open Go.Ab
set_option maxRecDepth 100000
set_option maxHeartbeats 4000000
set_option linter.unusedSimpArgs false
set_option linter.unusedVariables false
structure Mx where
 s : Sw
 k : Int
 p : Md
 x : Sh
def Mx.c (m : Mx) (o : AV) : List AV :=
 [.fz (rows int1 m.s.l) m.s.l.length, .i .i64 m.s.ou, .i .i64 m.s.st, .i .i64 m.s.nw, .i .i64 m.s.wa, .i .i64 m.s.ca, .i .i64 m.s.ai, .i .i64 m.s.tp, .i .i64 m.s.fr, .b m.s.kp, .i .i64 m.s.sq, .i .i64 m.s.tm, .i .i64 m.s.id, .i .i64 m.s.ba, .i .i64 m.s.ss, .i .i64 m.s.sT, .i .i64 m.s.si, .i .i64 m.s.sb,
  .i .i64 m.k,
  .b m.p.ma, .i .i64 m.p.ty, .i .i64 m.p.sq, .i .i64 m.p.tm, .i .i64 m.p.ss, .fz (rows int1 m.p.cs) m.p.cs.length, .fz (rows xtR m.p.xs) m.p.xs.length, .i .i64 m.p.pd, .s m.p.pl,
  .b m.x.st, .b m.x.ky, .b m.x.sy, .b m.x.la, .i .i64 m.x.id, .i .i64 m.x.ba, .i .i64 m.x.te, .i .i64 m.x.sp,
  o]
theorem Mx.bel (m : Mx) {j : Nat} {o : AV} (ho : o.bel j = true) : belL j (m.c o) = true := by simp only [Mx.c, belL, AV.bel, ib, csB, xsB, ho, Bool.and_self]
def sh8 : List AV → Option Sh
 | [.b st, .b ky, .b sy, .b la, .i .i64 id, .i .i64 ba, .i .i64 te, .i .i64 sp] => some ⟨st, ky, sy, la, id, ba, te, sp⟩
 | _ => none
theorem sh8_eq {l : List AV} {x : Sh} (h : sh8 l = some x) : l = x.l := by
 unfold sh8 at h
 split at h
 · cases h; rfl
 · cases h
def mxL (l : List AV) : Option (Mx × AV) := (swA (l.take 18)).bind fun s => match l.drop 18 with
 | .i .i64 k :: r => (md9 (r.take 9)).bind fun p => (sh8 ((r.drop 9).take 8)).bind fun x => match r.drop 17 with
  | [o] => some (⟨s, k, p, x⟩, o)
  | _ => none
 | _ => none
theorem mxL_c (m : Mx) (o : AV) : mxL (m.c o) = some (m, o) := by
 obtain ⟨s, k, p, x⟩ := m
 show (swA s.a).bind (fun s' => (md9 p.l).bind fun p' => (sh8 x.l).bind fun x' => some ((⟨s', k, p', x'⟩ : Mx), o)) = _
 rw [swA_a, Option.bind_some, md9_l, Option.bind_some]
 rfl
theorem take_split {α : Type} (l : List α) (n : Nat) : l = l.take n ++ l.drop n := (List.take_append_drop n l).symm
theorem mxL_eq {l : List AV} {m : Mx} {o : AV} (h : mxL l = some (m, o)) : l = m.c o := by
 unfold mxL at h
 simp only [Option.bind_eq_some_iff] at h
 obtain ⟨s, hs, h⟩ := h
 split at h
 · rename_i k r hr
   simp only [Option.bind_eq_some_iff] at h
   obtain ⟨p, hp, x, hx, h⟩ := h
   split at h
   · rename_i o' ho
     simp only [Option.some.injEq, Prod.mk.injEq] at h
     obtain ⟨rfl, rfl⟩ := h
     rw [take_split l 18, hr, swA_eq hs, take_split r 9, md9_eq hp, take_split (r.drop 9) 8, sh8_eq hx, List.drop_drop, ho]
     rfl
   · cases h
 · cases h
def mxB (k : Blk) : Option (Mx × AV) := match k with
 | ⟨c, false, none, none⟩ => mxL c
 | _ => none
theorem mxB_c (m : Mx) (o : AV) : mxB { cells := m.c o } = some (m, o) := mxL_c m o
theorem mxB_eq {k : Blk} {m : Mx} {o : AV} (h : mxB k = some (m, o)) : k = { cells := m.c o } := by
 unfold mxB at h
 split at h
 · rw [mxL_eq h]
 · cases h
/-! take -/
def takeB (s : Sw) (k : Int) (x : Sh) : Bool := (k == s.wa) && (!(k == s.nw) && (x.st && (x.ky && (x.sp == 0))))
def takeS (s : Sw) (k : Int) (p : Md) (x : Sh) : Sw := bif takeB s k x then
 ⟨s.l, s.ou, s.st, k, s.wa, 0, s.ai, (p.sq - 1) % 65536, x.id, true, (IntKind.i64.wrap (s.ss + 1) - p.sq) % 65536, (IntKind.i64.wrap (s.sT + s.st) - p.tm) % 4294967296, (IntKind.i64.wrap (s.si + 1) + IntKind.i64.wrap (0 - x.id)) % 32768, (IntKind.i64.wrap (s.sb + 1) - x.ba) % 256, s.ss, s.sT, s.si, s.sb⟩ else s
def T75 : List (Nat × Ct) := [(91, k91), (92, k92), (93, k93), (94, k94)]
theorem hT75 : Sound Try.prog (cxT T75) := Sound.cons s91 (Sound.cons s92 (Sound.cons s93 (Sound.cons s94 Sound.nil)))
theorem w75 (m : Mx) (o : AV) (ho : o.bel 1 = true) : FTL Try.prog 75 [.p 0 0] [(0, { cells := m.c o })] 1 (.tup []) [(0, { cells := Mx.c { m with s := takeS m.s m.k m.p m.x } o })] 1 := by
 have hR : takeS m.s m.k m.p m.x = bif takeB m.s m.k m.x then
  ⟨m.s.l, m.s.ou, m.s.st, m.k, m.s.wa, 0, m.s.ai, (m.p.sq - 1) % 65536, m.x.id, true, (IntKind.i64.wrap (m.s.ss + 1) - m.p.sq) % 65536, (IntKind.i64.wrap (m.s.sT + m.s.st) - m.p.tm) % 4294967296, (IntKind.i64.wrap (m.s.si + 1) + IntKind.i64.wrap (0 - m.x.id)) % 32768, (IntKind.i64.wrap (m.s.sb + 1) - m.x.ba) % 256, m.s.ss, m.s.sT, m.s.si, m.s.sb⟩ else m.s := rfl
 generalize takeS m.s m.k m.p m.x = R at *
 obtain ⟨⟨l, ou, st, nw, wa, ca, ai, tp, fr, kp, sq, tm, id, ba, ss, sT, si, sb⟩, k, ⟨ma, pty, psq, ptm, pss, cs, xs, pd, pl⟩, ⟨xst, xky, xsy, xla, xid, xba, xte, xsp⟩⟩ := m
 simp only [takeB] at hR
 simp only [Mx.c]
 refine FTL.of_iw hT75 mo Try.func75 i75_eq (by simp [i75]) (iw_of_jw ?_)
 dsimp only [i75, T75]
 have hB1 := ib 1 l
 have hB2 := csB 1 cs
 have hB3 := xsB 1 xs
 have bel := fun {j : Nat} => @AV.bel j
 cases a1 : (k == wa)
 · have b1 : (k != wa) = true := by simp only [bne, a1, Bool.not_false]
   simp (maxSteps := 400000) only [go_sem, b1, simprocAttr]
   rw [a1] at hR; rw [hR]
   exact Ends.keep1 rfl rfl (by simp only [AV.bel, belL, hB1, hB2, hB3, ho, Bool.and_self]) rfl rfl
 have b1 : (k != wa) = false := by simp only [bne, a1, Bool.not_true]
 cases a2 : (k == nw)
 rotate_left
 · simp (maxSteps := 400000) only [go_sem, b1, a2, simprocAttr]
   rw [a1, a2] at hR; rw [hR]
   exact Ends.keep1 rfl rfl (by simp only [AV.bel, belL, hB1, hB2, hB3, ho, Bool.and_self]) rfl rfl
 cases xst
 · simp (maxSteps := 400000) only [go_sem, b1, a2, simprocAttr]
   rw [a1, a2] at hR; rw [hR]
   exact Ends.keep1 rfl rfl (by simp only [AV.bel, belL, hB1, hB2, hB3, ho, Bool.and_self]) rfl rfl
 cases xky
 · simp (maxSteps := 400000) only [go_sem, b1, a2, simprocAttr]
   rw [a1, a2] at hR; rw [hR]
   exact Ends.keep1 rfl rfl (by simp only [AV.bel, belL, hB1, hB2, hB3, ho, Bool.and_self]) rfl rfl
 cases a3 : (xsp == 0)
 · have b3 : (xsp != 0) = true := by simp only [bne, a3, Bool.not_false]
   simp (maxSteps := 400000) only [go_sem, b1, a2, b3, simprocAttr]
   rw [a1, a2, a3] at hR; rw [hR]
   exact Ends.keep1 rfl rfl (by simp only [AV.bel, belL, hB1, hB2, hB3, ho, Bool.and_self]) rfl rfl
 have b3 : (xsp != 0) = false := by simp only [bne, a3, Bool.not_true]
 simp (maxSteps := 400000) only [go_sem, b1, a2, b3, k91, k92, k93, k94, simprocAttr]
 rw [a1, a2, a3] at hR; rw [hR]
 exact Ends.keep1 rfl rfl (by simp only [AV.bel, belL, hB1, hB2, hB3, ho, Bool.and_self]) rfl rfl
def k75 : Ct
 | [.p b 0], h, n => (hget h b).bind fun kb => (mxB kb).bind fun mo => some (mo.2.bel 0, { v := .tup [], n, rd := [b], md := [(b, some { cells := Mx.c { mo.1 with s := takeS mo.1.s mo.1.k mo.1.p mo.1.x } mo.2 })] })
 | _, _, _ => none
theorem CallOK.upd1X {P : Program} {f : FuncId} {argsL : List AV} {pn : Option Value} {v : AV} {k k' : Blk} {b n : Nat} {h : Hp} (hc : Go.Ab.callable P f = true) (ha : belL 1 argsL = true) (hk : belL 0 k.cells = true) (hk' : belL 0 k'.cells = true) (hro : k'.ro = false) (hv : v.bel 0 = true) (hb : hget h b = some k)
 (hf : FTLx P f argsL [(0, k)] 1 pn v [(0, k')] 1) : CallOK P f (renL (fun _ => b) argsL) h n { v, n, rd := [b], md := [(b, some k')], pn } := by
 have hkr : k.ren (fun _ => b) = k := by simp only [Blk.ren, renL_fix0 k.cells hk]
 have hkr' : k'.ren (fun _ => b) = k' := by simp only [Blk.ren, renL_fix0 k'.cells hk']
 have h0 : ∀ (k : Blk) c kk, hget [(0, k)] c = some kk → c = 0 ∧ kk = k := fun k c kk hh => by
  simp only [hget] at hh
  by_cases hc : c = 0
  · subst hc; simp at hh; exact ⟨rfl, hh.symm⟩
  · rw [beq_ne hc] at hh; simp at hh
 have hbel1 : belL 1 k.cells = true := belL_mono0 _ hk
 refine CallOK.of_FTLx (ψ := fun _ => b) hc hf rfl (Nat.le_refl _) ha (fun c hc => ⟨k, by rw [show c = 0 by omega]; rfl⟩) (fun c kk hh => ?_) rfl (fun c kk hh => ?_) (fun b1 b2 k1 k2 h1 h2 _ _ => ?_) (by simp) (ren_fix0 _ hv).symm (fun c r hh => ?_) (fun c kk hh => by simp [hget] at hh) (fun c kk hh => ?_)
 · obtain ⟨rfl, rfl⟩ := h0 k c kk hh
   exact ⟨by omega, hbel1⟩
 · obtain ⟨rfl, rfl⟩ := h0 k c kk hh
   rw [hkr]
   simp [only, inl, hb]
 · rw [(h0 k b1 k1 h1).1, (h0 k b2 k2 h2).1]
 · simp only [mget] at hh
   by_cases hcb : c = b
   · subst hcb; simp [inl]
   · rw [beq_ne hcb] at hh; simp at hh
 · simp only [Eff.app, mget, hget] at hh
   by_cases hcb : c = b
   · subst hcb
     simp at hh
     subst hh
     refine ⟨0, k', rfl, by omega, by simp, ?_, fun h => by rw [hro] at h; cases h⟩
     have : (fun b_1 => if b_1 < 1 then c else n + (b_1 - 1)) = fun b_1 => if b_1 < 1 then c else n + (b_1 - 1) := rfl
     simp only [Blk.ren]
     rw [renL_fix0 k'.cells hk']
   · rw [beq_ne hcb] at hh
     simp only [cond_false, only, inl, beq_ne hcb, Bool.or_false] at hh
     cases hh
theorem s75 : SoundAt Try.prog 75 k75 := fun args h n c E hc ht => by
 unfold k75 at hc
 split at hc
 · rename_i b
   simp only [Option.bind_eq_some_iff, Option.some.injEq, Prod.mk.injEq] at hc
   obtain ⟨kb, hkb, ⟨m, o⟩, hm, rfl, rfl⟩ := hc
   have := mxB_eq hm
   subst this
   simp only at ht ⊢
   have hb1 : ∀ j, o.bel j = true := fun j => by
    have := belL_mono0 (m := j) [o] (by simp only [belL, ht, Bool.and_self])
    simpa only [belL, Bool.and_true] using this
   exact CallOK.upd1X (pn := none) (argsL := [.p 0 0]) (by kernel_rfl) rfl (m.bel ht) (Mx.bel _ ht) rfl rfl hkb (w75 m o (hb1 1))
 · cases hc
end Go.Proofs.Lys
end
section
/- Chapter 41: the mixer's steps, from advance on. -/
namespace Go.Proofs.Lys
open Go.Ab
set_option maxRecDepth 100000
set_option maxHeartbeats 4000000
set_option linter.unusedSimpArgs false
set_option linter.unusedVariables false
theorem bel1 {o : AV} (h : o.bel 0 = true) (j : Nat) : o.bel j = true := by
 have := belL_mono0 (m := j) [o] (by simp only [belL, h, Bool.and_self])
 simpa only [belL, Bool.and_true] using this
/-! advance -/
def advB (s : Sw) (k : Int) (p : Md) : Bool := (k == s.nw) && decide (lead p.sq s.tp > 0)
def advS (s : Sw) (k : Int) (p : Md) : Sw := bif advB s k p then { s with tp := p.sq } else s
def T76 : List (Nat × Ct) := [(95, k95), (96, k96)]
theorem hT76 : Sound Try.prog (cxT T76) := Sound.cons s95 (Sound.cons s96 Sound.nil)
theorem w76 (m : Mx) (o : AV) (ho : o.bel 1 = true) (h1 : inI 0 65535 m.p.sq = true) (h2 : inI 0 65535 m.s.tp = true) :
 FTLx Try.prog 76 [.p 0 0] [(0, { cells := m.c o })] 1 (bif advB m.s m.k m.p then none else some endedV) (.tup []) [(0, { cells := Mx.c { m with s := advS m.s m.k m.p } o })] 1 := by
 have hR : advS m.s m.k m.p = bif advB m.s m.k m.p then { m.s with tp := m.p.sq } else m.s := rfl
 generalize advS m.s m.k m.p = R at *
 obtain ⟨⟨l, ou, st, nw, wa, ca, ai, tp, fr, kp, sq, tm, id, ba, ss, sT, si, sb⟩, k, ⟨ma, pty, psq, ptm, pss, cs, xs, pd, pl⟩, ⟨xst, xky, xsy, xla, xid, xba, xte, xsp⟩⟩ := m
 simp only [advB] at hR ⊢
 dsimp only at h1 h2
 simp only [Mx.c]
 refine FTLx.of_iw hT76 mo Try.func76 i76_eq (by simp [i76]) (iw_of_jw ?_)
 dsimp only [i76, T76]
 have hB1 := ib 1 l
 have hB2 := csB 1 cs
 have hB3 := xsB 1 xs
 cases a1 : (k == nw)
 · simp (maxSteps := 400000) only [go_sem, a1, k95, simprocAttr]
   rw [a1] at hR; rw [hR]
   exact Ends.keep1 rfl rfl (by simp only [AV.bel, belL, hB1, hB2, hB3, ho, Bool.and_self]) rfl rfl
 have e0 : ((0 : Int) == 0) = true := rfl
 cases a2 : decide (lead psq tp > 0)
 · simp (maxSteps := 400000) only [go_sem, a1, a2, k95, k96, h1, h2, e0, simprocAttr]
   rw [a1, a2] at hR; rw [hR]
   exact Ends.keep1 rfl rfl (by simp only [AV.bel, belL, hB1, hB2, hB3, ho, Bool.and_self]) rfl rfl
 · simp (maxSteps := 400000) only [go_sem, a1, a2, k95, k96, h1, h2, e0, simprocAttr]
   rw [a1, a2] at hR; rw [hR]
   exact Ends.keep1 rfl rfl (by simp only [AV.bel, belL, hB1, hB2, hB3, ho, Bool.and_self]) rfl rfl
def k76 : Ct
 | [.p b 0], h, n => (hget h b).bind fun kb => (mxB kb).bind fun mo => some (mo.2.bel 0 && (inI 0 65535 mo.1.p.sq && inI 0 65535 mo.1.s.tp), { v := .tup [], n, rd := [b], md := [(b, some { cells := Mx.c { mo.1 with s := advS mo.1.s mo.1.k mo.1.p } mo.2 })], pn := bif advB mo.1.s mo.1.k mo.1.p then none else some endedV })
 | _, _, _ => none
theorem s76 : SoundAt Try.prog 76 k76 := fun args h n c E hc ht => by
 unfold k76 at hc
 split at hc
 · rename_i b
   simp only [Option.bind_eq_some_iff, Option.some.injEq, Prod.mk.injEq] at hc
   obtain ⟨kb, hkb, ⟨m, o⟩, hm, rfl, rfl⟩ := hc
   have := mxB_eq hm
   subst this
   simp only [Bool.and_eq_true] at ht ⊢
   exact CallOK.upd1X (argsL := [.p 0 0]) (by kernel_rfl) rfl (m.bel ht.1) (Mx.bel _ ht.1) rfl rfl hkb (w76 m o (bel1 ht.1 1) ht.2.1 ht.2.2)
 · cases hc
/-! frame -/
def capS (s : Sw) (x : Sh) : Int := bif x.ky then 0 else min s.ca s.ai
def capT (s : Sw) (x : Sh) : Int := bif x.sy && (x.te == IntKind.i64.wrap (capS s x + 1) && decide (x.te ≤ s.ai)) then IntKind.i64.wrap (capS s x + 1) else capS s x
def frameS (s : Sw) (x : Sh) : Sw := bif x.id == s.fr then s else
 ⟨s.l, s.ou, s.st, s.nw, s.wa, capT s x, s.ai, s.tp, x.id, decide (x.te ≤ capT s x), s.sq, s.tm, bif decide (x.te ≤ capT s x) then s.id else (s.id + -1) % 32768, s.ba, s.ss, s.sT, s.si, s.sb⟩
def T77 : List (Nat × Ct) := [(93, k93)]
theorem hT77 : Sound Try.prog (cxT T77) := Sound.cons s93 Sound.nil
theorem w77 (m : Mx) (o : AV) (ho : o.bel 1 = true) :
 FTL Try.prog 77 [.p 0 0] [(0, { cells := m.c o })] 1 (.tup []) [(0, { cells := Mx.c { m with s := frameS m.s m.x } o })] 1 := by
 have hR : frameS m.s m.x = bif m.x.id == m.s.fr then m.s else
 ⟨m.s.l, m.s.ou, m.s.st, m.s.nw, m.s.wa, capT m.s m.x, m.s.ai, m.s.tp, m.x.id, decide (m.x.te ≤ capT m.s m.x), m.s.sq, m.s.tm, bif decide (m.x.te ≤ capT m.s m.x) then m.s.id else (m.s.id + -1) % 32768, m.s.ba, m.s.ss, m.s.sT, m.s.si, m.s.sb⟩ := rfl
 have hC : capT m.s m.x = bif m.x.sy && (m.x.te == IntKind.i64.wrap (capS m.s m.x + 1) && decide (m.x.te ≤ m.s.ai)) then IntKind.i64.wrap (capS m.s m.x + 1) else capS m.s m.x := rfl
 have hD : capS m.s m.x = bif m.x.ky then 0 else min m.s.ca m.s.ai := rfl
 generalize frameS m.s m.x = R at *
 generalize capT m.s m.x = CT at *
 generalize capS m.s m.x = CS at *
 obtain ⟨⟨l, ou, st, nw, wa, ca, ai, tp, fr, kp, sq, tm, id, ba, ss, sT, si, sb⟩, k, ⟨ma, pty, psq, ptm, pss, cs, xs, pd, pl⟩, ⟨xst, xky, xsy, xla, xid, xba, xte, xsp⟩⟩ := m
 dsimp only at hR hC hD
 simp only [Mx.c]
 refine FTL.of_iw hT77 mo Try.func77 i77_eq (by simp [i77]) (iw_of_jw ?_)
 dsimp only [i77, T77]
 have hB1 := ib 1 l
 have hB2 := csB 1 cs
 have hB3 := xsB 1 xs
 have hmin : min ca ai = if ai < ca then ai else ca := by omega
 rw [hmin] at hD
 have hw : IntKind.i64.wrap (0 + 1) = 1 := rfl
 cases a1 : (xid == fr)
 rotate_left
 · simp (maxSteps := 400000) only [go_sem, a1, simprocAttr]
   rw [a1] at hR; rw [hR]
   exact Ends.keep1 rfl rfl (by simp only [AV.bel, belL, hB1, hB2, hB3, ho, Bool.and_self]) rfl rfl
 rw [a1] at hR
 cases xky
 all_goals (
  cases xsy
  · have hC' : CT = CS := hC
    cases a4 : decide (xte ≤ CT)
    all_goals (
     rw [a4] at hR
     rw [hC', hD] at a4; dsimp only [cond_true, cond_false] at a4; (try simp only [hw] at a4)
     simp (maxSteps := 400000) only [go_sem, a1, k93, minI, hmin, a4, cond_true, cond_false, simprocAttr]
     rw [hR, hC', hD]
     exact Ends.keep1 rfl rfl (by simp only [AV.bel, belL, hB1, hB2, hB3, ho, Bool.and_self]) rfl rfl)
  cases a2 : (xte == IntKind.i64.wrap (CS + 1))
  · rw [a2] at hC
    have hC' : CT = CS := hC
    rw [hD] at a2; dsimp only [cond_true, cond_false] at a2; (try rw [hw] at a2)
    cases a4 : decide (xte ≤ CT)
    all_goals (
     rw [a4] at hR
     rw [hC', hD] at a4; dsimp only [cond_true, cond_false] at a4; (try simp only [hw] at a4)
     simp (maxSteps := 400000) only [go_sem, a1, a2, k93, minI, hmin, a4, cond_true, cond_false, simprocAttr]
     rw [hR, hC', hD]
     exact Ends.keep1 rfl rfl (by simp only [AV.bel, belL, hB1, hB2, hB3, ho, Bool.and_self]) rfl rfl)
  cases a3 : decide (xte ≤ ai)
  · rw [a2, a3] at hC
    have hC' : CT = CS := hC
    rw [hD] at a2; dsimp only [cond_true, cond_false] at a2; (try rw [hw] at a2)
    cases a4 : decide (xte ≤ CT)
    all_goals (
     rw [a4] at hR
     rw [hC', hD] at a4; dsimp only [cond_true, cond_false] at a4; (try simp only [hw] at a4)
     simp (maxSteps := 400000) only [go_sem, a1, a2, a3, k93, minI, hmin, a4, cond_true, cond_false, simprocAttr]
     rw [hR, hC', hD]
     exact Ends.keep1 rfl rfl (by simp only [AV.bel, belL, hB1, hB2, hB3, ho, Bool.and_self]) rfl rfl)
  rw [a2, a3] at hC
  have hC' : CT = IntKind.i64.wrap (CS + 1) := hC
  rw [hD] at a2; dsimp only [cond_true, cond_false] at a2; (try rw [hw] at a2)
  cases a4 : decide (xte ≤ CT)
  all_goals (
   rw [a4] at hR
   rw [hC', hD] at a4; dsimp only [cond_true, cond_false] at a4; (try simp only [hw] at a4)
   simp (maxSteps := 400000) only [go_sem, a1, a2, a3, k93, minI, hmin, a4, cond_true, cond_false, simprocAttr]
   rw [hR, hC', hD]
   exact Ends.keep1 rfl rfl (by simp only [AV.bel, belL, hB1, hB2, hB3, ho, Bool.and_self]) rfl rfl))
def k77 : Ct
 | [.p b 0], h, n => (hget h b).bind fun kb => (mxB kb).bind fun mo => some (mo.2.bel 0, { v := .tup [], n, rd := [b], md := [(b, some { cells := Mx.c { mo.1 with s := frameS mo.1.s mo.1.x } mo.2 })] })
 | _, _, _ => none
theorem s77 : SoundAt Try.prog 77 k77 := fun args h n c E hc ht => by
 unfold k77 at hc
 split at hc
 · rename_i b
   simp only [Option.bind_eq_some_iff, Option.some.injEq, Prod.mk.injEq] at hc
   obtain ⟨kb, hkb, ⟨m, o⟩, hm, rfl, rfl⟩ := hc
   have := mxB_eq hm
   subst this
   simp only at ht ⊢
   exact CallOK.upd1X (pn := none) (argsL := [.p 0 0]) (by kernel_rfl) rfl (m.bel ht) (Mx.bel _ ht) rfl rfl hkb (w77 m o (bel1 ht 1))
 · cases hc
/-! drop -/
def dropB (s : Sw) (x : Sh) : Bool := !s.kp || !(x.sp == 0)
def dropS (s : Sw) (x : Sh) : Sw := bif dropB s x then { s with sq := (s.sq - 1) % 65536 } else s
def T78 : List (Nat × Ct) := [(91, k91), (95, k95)]
theorem hT78 : Sound Try.prog (cxT T78) := Sound.cons s91 (Sound.cons s95 Sound.nil)
theorem w78 (m : Mx) (o : AV) (ho : o.bel 1 = true) :
 FTLx Try.prog 78 [.p 0 0] [(0, { cells := m.c o })] 1 (bif dropB m.s m.x then some endedV else none) (.tup []) [(0, { cells := Mx.c { m with s := dropS m.s m.x } o })] 1 := by
 have hR : dropS m.s m.x = bif dropB m.s m.x then { m.s with sq := (m.s.sq - 1) % 65536 } else m.s := rfl
 generalize dropS m.s m.x = R at *
 obtain ⟨⟨l, ou, st, nw, wa, ca, ai, tp, fr, kp, sq, tm, id, ba, ss, sT, si, sb⟩, k, ⟨ma, pty, psq, ptm, pss, cs, xs, pd, pl⟩, ⟨xst, xky, xsy, xla, xid, xba, xte, xsp⟩⟩ := m
 simp only [dropB] at hR ⊢
 simp only [Mx.c]
 refine FTLx.of_iw hT78 mo Try.func78 i78_eq (by simp [i78]) (iw_of_jw ?_)
 dsimp only [i78, T78]
 have hB1 := ib 1 l
 have hB2 := csB 1 cs
 have hB3 := xsB 1 xs
 cases kp
 · simp (maxSteps := 400000) only [go_sem, k91, k95, simprocAttr]
   rw [hR]
   exact Ends.keep1 rfl rfl (by simp only [AV.bel, belL, hB1, hB2, hB3, ho, Bool.and_self]) rfl rfl
 cases a1 : (xsp == 0)
 all_goals (
  have b1 : (xsp != 0) = !(xsp == 0) := rfl
  rw [a1] at hR b1
  simp (maxSteps := 400000) only [go_sem, k91, k95, b1, simprocAttr]
  rw [hR]
  exact Ends.keep1 rfl rfl (by simp only [AV.bel, belL, hB1, hB2, hB3, ho, Bool.and_self]) rfl rfl)
def k78 : Ct
 | [.p b 0], h, n => (hget h b).bind fun kb => (mxB kb).bind fun mo => some (mo.2.bel 0, { v := .tup [], n, rd := [b], md := [(b, some { cells := Mx.c { mo.1 with s := dropS mo.1.s mo.1.x } mo.2 })], pn := bif dropB mo.1.s mo.1.x then some endedV else none })
 | _, _, _ => none
theorem s78 : SoundAt Try.prog 78 k78 := fun args h n c E hc ht => by
 unfold k78 at hc
 split at hc
 · rename_i b
   simp only [Option.bind_eq_some_iff, Option.some.injEq, Prod.mk.injEq] at hc
   obtain ⟨kb, hkb, ⟨m, o⟩, hm, rfl, rfl⟩ := hc
   have := mxB_eq hm
   subst this
   simp only at ht ⊢
   exact CallOK.upd1X (argsL := [.p 0 0]) (by kernel_rfl) rfl (m.bel ht) (Mx.bel _ ht) rfl rfl hkb (w78 m o (bel1 ht 1))
 · cases hc
end Go.Proofs.Lys
end
