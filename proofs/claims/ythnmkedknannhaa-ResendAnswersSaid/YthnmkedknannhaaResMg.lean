/- Texts laid as one: ResM15 ResM16 ResM17. -/
import Derived.Test.YthnmkedknannhaaResMf
import Derived.Test.YthnmkedknannhaaResCf
import Derived.Test.YthnmkedknannhaaAbGvs
import Derived.Test.YthnmkedknannhaaResMd
section
/- Contracts of sameHistory, Packet, the reference's Begin, Draft.History. -/
namespace Go.Proofs.Res
open Go.Ab
set_option maxRecDepth 100000
set_option maxHeartbeats 8000000
set_option linter.unusedSimpArgs false
set_option linter.unusedVariables false
/-! equal histories -/
theorem w85 (x : Kp) (hl : x.p.cs.length ≤ 1000000000000 ∧ x.p.xs.length ≤ 1000000000000) : FTL Try.prog 85 [.agg x.l, .agg x.l] [] 0 (.b true) [] 0 := by
 let cx : Cx := fun f args h n => open Classical in if f = 36 ∧ args = [.agg x.p.l, .agg x.p.l] then some (true, { v := .b true, n }) else none
 have hcx : Sound Try.prog cx := fun f args h n c E hx hc => by
  simp only [cx] at hx
  split at hx
  · rename_i hy
    obtain ⟨rfl, rfl⟩ := hy
    cases hx
    exact CallOK.pure (by kernel_rfl) (by simp only [belL, AV.bel, Md.bel, Bool.and_self]) rfl (w36 x.p hl) h n
  · cases hx
 have hat : ∀ (h : Hp) (n : Nat), cx 36 [.agg x.p.l, .agg x.p.l] h n = some (true, { v := .b true, n }) := fun h n => if_pos ⟨rfl, rfl⟩
 generalize cx = cx at hcx hat
 refine FTL.of_iw hcx mo Try.func85 i85_eq (by simp [i85]) (iw_of_jw ?_)
 dsimp only [i85]
 obtain ⟨⟨ma, pty, sq, tm, pss, cs, xs, pd, pl⟩, xt, xa⟩ := x
 simp only [Md.l] at hat
 have e1 : (xt == xt) = true := by simp
 have e2 : (xa == xa) = true := by simp
 simp (maxSteps := 400000) only [go_sem, Kp.l, e1, e2, hat, simprocAttr]
 exact Ends.pureE rfl rfl
def smB (l : List Kp) : Bool := l.all fun x => decide (x.p.cs.length ≤ 1000000000000) && decide (x.p.xs.length ≤ 1000000000000)
theorem smB_t {l : List Kp} (h : smB l = true) : ∀ x ∈ l, x.p.cs.length ≤ 1000000000000 ∧ x.p.xs.length ≤ 1000000000000 := fun x hx => by
 have := List.all_eq_true.1 h x hx
 simpa only [Bool.and_eq_true, decide_eq_true_eq] using this
theorem w84 (l : List Kp) (hl : l.length ≤ 1000000000000) (hs : smB l = true) : FTL Try.prog 84 [.fz (rows Kp.l l) l.length, .fz (rows Kp.l l) l.length, .fn 85 []] [] 0 (.b true) [] 0 :=
 eqf_fz mo Try.func84 i84_eq (by kernel_rfl) Kp.len Kp.bel Kp.one rfl rfl l hl (fun x hx => w85 x (smB_t hs x hx))
theorem w45 (h : Hs) (hl : h.l.length ≤ 1000000000000) (hs : smB h.l = true) : FTL Try.prog 45 [.agg h.a, .agg h.a] [] 0 (.b true) [] 0 := by
 obtain ⟨ti, ss, ty, nx, l⟩ := h
 dsimp only at hl hs
 let cx : Cx := fun f args h n => open Classical in if f = 84 ∧ args = [.fz (rows Kp.l l) l.length, .fz (rows Kp.l l) l.length, .fn 85 []] then some (true, { v := .b true, n }) else none
 have hcx : Sound Try.prog cx := fun f args h n c E hx hc => by
  simp only [cx] at hx
  split at hx
  · rename_i hy
    obtain ⟨rfl, rfl⟩ := hy
    cases hx
    exact CallOK.pure (by kernel_rfl) (by simp only [belL, AV.bel, krB, Bool.and_self]) rfl (w84 l hl hs) h n
  · cases hx
 have hat : ∀ (h : Hp) (n : Nat), cx 84 [.fz (rows Kp.l l) l.length, .fz (rows Kp.l l) l.length, .fn 85 []] h n = some (true, { v := .b true, n }) := fun h n => if_pos ⟨rfl, rfl⟩
 generalize cx = cx at hcx hat
 simp only [Hs.a]
 refine FTL.of_iw hcx mo Try.func45 i45_eq (by simp [i45]) (iw_of_jw ?_)
 dsimp only [i45]
 have e1 : (ti == ti) = true := by simp
 have e2 : (ss == ss) = true := by simp
 have e3 : (ty == ty) = true := by simp
 have e4 : (nx == nx) = true := by simp
 simp (maxSteps := 400000) only [go_sem, e1, e2, e3, e4, hat, simprocAttr]
 exact Ends.pureE rfl rfl
noncomputable def k45 : Ct
 | [.agg a, .agg b], _, n => (hsA a).bind fun h => open Classical in if a = b then some (decide (h.l.length ≤ 1000000000000) && smB h.l, { v := .b true, n }) else none
 | _, _, _ => none
theorem s45 : SoundAt Try.prog 45 k45 := fun args h n c E hc ht => by
 unfold k45 at hc
 split at hc
 · simp only [Option.bind_eq_some_iff] at hc
   obtain ⟨hs, hp, he⟩ := hc
   split at he
   · rename_i hab
     subst hab
     cases he
     rw [hsA_eq hp]
     simp only [Bool.and_eq_true, decide_eq_true_eq] at ht
     exact CallOK.pure (by kernel_rfl) (by simp only [belL, AV.bel, Hs.bel, Bool.and_self]) rfl (w45 hs ht.1 ht.2) _ _
   · cases he
 · cases hc
/-! equal packets -/
def smP (l : List Md) : Bool := l.all fun p => decide (p.cs.length ≤ 1000000000000) && decide (p.xs.length ≤ 1000000000000)
theorem w46 (l : List Md) (hl : l.length ≤ 1000000000000) (hs : smP l = true) : FTL Try.prog 46 [.fz (rows Md.l l) l.length, .fz (rows Md.l l) l.length, .fn 36 []] [] 0 (.b true) [] 0 :=
 eqf_fz mo Try.func46 i46_eq (by kernel_rfl) Md.len Md.bel (fun _ => rfl) rfl rfl l hl (fun x hx => w36 x (by have := List.all_eq_true.1 hs x hx; simpa only [Bool.and_eq_true, decide_eq_true_eq] using this))
theorem md_un (l : List Md) : unrows 9 md9 l.length (rows Md.l l) = some l := unrows_rows Md.len md9_l l
noncomputable def k46 : Ct
 | [.fz L m, .fz M m', .fn 36 []], _, n => (unrows 9 md9 m L).bind fun l => open Classical in if L = M ∧ m = m' then some (decide (m ≤ 1000000000000) && smP l, { v := .b true, n }) else none
 | _, _, _ => none
theorem s46 : SoundAt Try.prog 46 k46 := fun args h n c E hc ht => by
 unfold k46 at hc
 split at hc
 · simp only [Option.bind_eq_some_iff] at hc
   obtain ⟨l, hp, he⟩ := hc
   split at he
   · rename_i hab
     obtain ⟨rfl, rfl⟩ := hab
     cases he
     obtain ⟨rfl, rfl⟩ := unrows_eq (f := Md.l) (fun c a h => md9_eq h) hp
     simp only [Bool.and_eq_true, decide_eq_true_eq] at ht
     exact CallOK.pure (by kernel_rfl) (by simp only [belL, AV.bel, mrB, Bool.and_self]) rfl (w46 l ht.1 ht.2) _ _
   · cases he
 · cases hc
/-! Packet, Begin -/
def pkS (q : Int) : Md := ⟨q % 2 == 0, 96, q, 90 * q, 1, [], [], 0, [UInt8.ofNat (97 + q % 26).toNat]⟩
theorem w34q (q : Int) (hq : 0 ≤ q ∧ q ≤ 65535) : FTL Try.prog 34 [.i .i64 q] [] 0 (.agg (pkS q).l) [] 0 := by
 refine FTL.of_cov (cx := cxT []) Sound.nil mo Try.func34 i34_eq (by simp [i34]) (iw_of_jw ?_)
 dsimp only [i34]
 have e1 : q.tmod 2 = q % 2 := Int.tmod_eq_emod_of_nonneg hq.1
 have e2 : q.tmod 26 = q % 26 := Int.tmod_eq_emod_of_nonneg hq.1
 have e3 : IntKind.i64.wrap (q % 2) = q % 2 := wrapL (by omega) (by omega)
 have e4 : IntKind.i64.wrap (q % 26) = q % 26 := wrapL (by omega) (by omega)
 have e5 : IntKind.i64.wrap (90 * q) = 90 * q := wrapL (by omega) (by omega)
 have e6 : IntKind.i64.wrap (97 + q % 26) = 97 + q % 26 := wrapL (by omega) (by omega)
 have e7 : IntKind.u8.wrap (97 + q % 26) = 97 + q % 26 := by rw [wrapU8]; omega
 simp (maxSteps := 400000) only [go_sem, e1, e2, e3, e4, e5, e6, e7, simprocAttr]
 refine CovS.frzN (l := []) (v' := .agg (pkS q).l) (FzV.agg ⟨FzV.refl, FzV.refl, FzV.refl, FzV.refl, FzV.refl, FzV.hit, FzV.hit, FzV.refl, FzV.refl, trivial⟩) ?_
 exact CovS.ends (Ends.pureE rfl rfl)
def k34q : Ct
 | [.i .i64 q], _, n => some (inI 0 65535 q, { v := .agg (pkS q).l, n })
 | _, _, _ => none
theorem s34q : SoundAt Try.prog 34 k34q := fun args h n c E hc ht => by
 unfold k34q at hc
 split at hc
 · cases hc
   exact CallOK.pure (by kernel_rfl) rfl rfl (w34q _ (inI_t ht)) _ _
 · cases hc
def TM80 : List (Nat × Ct) := [(88, k66)]
theorem hTM80 : Sound Try.prog (cxT TM80) := Sound.cons s88 Sound.nil
def begS (ss ty nx : Int) : Hs × Int := bif namesB ss ty nx then (⟨0, ss, ty, nx, []⟩, 0) else (zH, 2)
theorem w80 (ss ty nx : Int) : FTL Try.prog 80 [.i .i64 ss, .i .i64 ty, .i .i64 nx] [] 0 (rsH (begS ss ty nx)) [] 0 := by
 refine FTL.of_cov (cx := cxT TM80) hTM80 mo Try.func80 i80_eq (by simp [i80]) (iw_of_jw ?_)
 dsimp only [i80, TM80]
 unfold begS
 cases b : namesB ss ty nx
 · simp (maxSteps := 400000) only [go_sem, k66, b, simprocAttr]
   exact covH_n
 · simp (maxSteps := 400000) only [go_sem, k66, b, simprocAttr]
   exact covH_n
def k80 : Ct
 | [.i .i64 ss, .i .i64 ty, .i .i64 nx], _, n => some (true, { v := rsH (begS ss ty nx), n })
 | _, _, _ => none
theorem s80 : SoundAt Try.prog 80 k80 := fun args h n c E hc ht => by
 unfold k80 at hc
 split at hc
 · cases hc
   exact CallOK.pure (by kernel_rfl) rfl (rsH_bel _) (w80 _ _ _) _ _
 · cases hc
/-! The reference's Answer, of numbers in whatever form. -/
def k44 : Ct
 | [.agg c, .i .i64 now, .i .i64 trip, x], h, n => vwK h 1 x fun rd m cs ok => (hsA c).bind fun hs => (unrows 1 intV m cs).bind fun ns => some (ok && (wrt h rd && (decide (hs.l.length ≤ 1000000000000) && (finH hs && decide (m ≤ 1000000000000)))), { v := rsA (ansS hs now trip ns), n, rd, md := dels rd })
 | _, _, _ => none
theorem s44v : SoundAt Try.prog 44 k44 := fun args h n c E hc ht => by
 unfold k44 at hc
 split at hc
 · rename_i cc now trip x
   rw [vwK_eq] at hc
   simp only [Option.bind_eq_some_iff] at hc
   obtain ⟨⟨rd, m, cs, ok⟩, hv, hs, hd, ns, hn, he⟩ := hc
   cases he
   simp only [Bool.and_eq_true, decide_eq_true_eq] at ht
   obtain ⟨rfl, h0, h1, h2, h3⟩ := ht
   obtain ⟨rfl, rfl⟩ := unrows_eq intV_eq hn
   rw [hsA_eq hd]
   refine CallOK.give (by kernel_rfl) (argsF := [.agg hs.a, .i .i64 now, .i .i64 trip, .fz (rows int1 ns) ns.length]) ⟨VwV.same (by simp only [AV.bel, Hs.bel]), VwV.same rfl, VwV.same rfl, vwK_sub hv (rows_bel int1_bel) (fun c hc => hc), trivial⟩ (rsA_bel _) h0 (w44 hs _ _ ns h1 h2 h3)
 · cases hc
end Go.Proofs.Res
end
section
/- The contract of Draft.History. -/
namespace Go.Proofs.Res
open Go.Ab
set_option maxRecDepth 100000
set_option maxHeartbeats 8000000
set_option linter.unusedSimpArgs false
set_option linter.unusedVariables false
def nxH (d : Dr) (k : Nat) (h : Hs) : Hs :=
 let now := IntKind.i64.wrap (h.ti + (evN d.ev k).wa.tmod 700)
 let r : Hs × Int := bif (evN d.ev k).wh.tmod 3 == 0 then ((ansS h now (roundS d) [seqN d.ev d.sq k, d.sq]).1, (ansS h now (roundS d) [seqN d.ev d.sq k, d.sq]).2.2) else keepS h now (pkS (seqN d.ev d.sq k))
 bif r.2 == 0 then r.1 else h
def his (d : Dr) : Nat → Hs
 | 0 => (begS 7 97 d.tr).1
 | k + 1 => nxH d k (his d k)
def hisS (d : Dr) : Hs := his d (min d.ev.length 40)
structure HB (h : Hs) : Prop where
 len : h.l.length ≤ 64
 fin : finH h = true
theorem HB.z : HB zH := ⟨Nat.zero_le _, rfl⟩
theorem finH_iff {h : Hs} : finH h = true ↔ ∀ x ∈ h.l, x.p.fin = true := by simp only [finH, List.all_eq_true]
theorem HB.keep {h : Hs} (hb : HB h) (now : Int) {p : Md} (hp : p.fin = true) : HB (keepS h now p).1 := by
 unfold keepS
 split
 · rename_i h0
   cases mdB p
   · exact .z
   cases decide (0 < h.l.length) && decide (lead p.sq (lastQ h.l) ≤ 0)
   · simp only [cond_true, cond_false]
     have hq : (keepK now (lastQ h.l) (stepK h p) h.l).length ≤ 64 := Nat.le_trans (List.length_filter_le _ _) hb.len
     have hm : ∀ x ∈ keepK now (lastQ h.l) (stepK h p) h.l, x ∈ h.l := fun x hx => (List.mem_filter.1 hx).1
     refine ⟨?_, finH_iff.2 (fun x hx => ?_)⟩
     · simp only [keptL, List.length_append, List.length_singleton]
       unfold cut64
       generalize keepK now (lastQ h.l) (stepK h p) h.l = q at *
       cases h64 : (q.length == 64)
       · have : ¬ q.length = 64 := by simpa using h64
         simp only [cond_false]; omega
       · have : q.length = 64 := by simpa using h64
         simp only [cond_true, List.length_drop]; omega
     · simp only [keptL, List.mem_append, List.mem_singleton] at hx
       rcases hx with hx | rfl
       · have : x ∈ keepK now (lastQ h.l) (stepK h p) h.l := by
          revert hx
          unfold cut64
          cases ((keepK now (lastQ h.l) (stepK h p) h.l).length == 64)
          · exact id
          · exact fun hx => List.mem_of_mem_drop hx
         exact finH_iff.1 hb.fin x (hm x this)
       · exact hp
   · exact .z
 · exact .z
theorem ansL_mem (ss ty now trip : Int) : ∀ (ns : List Int) (s : An) (x : Kp), x ∈ (ansL ss ty now trip s ns).l → ∃ y ∈ s.l, y.p = x.p
 | [], s, x, hx => ⟨x, hx, rfl⟩
 | n :: r, s, x, hx => by
  obtain ⟨y, hy, e⟩ := ansL_mem ss ty now trip r (ans1 ss ty now trip s n) x hx
  have : ∃ z ∈ s.l, z.p = y.p := by
   revert hy
   unfold ans1
   split
   · exact fun hy => ⟨y, hy, rfl⟩
   · split
     · exact fun hy => ⟨y, hy, rfl⟩
     · rename_i w hw
       cases ansF now trip w
       · exact fun hy => ⟨y, hy, rfl⟩
       · intro hy
         rcases List.mem_or_eq_of_mem_set hy with hy | rfl
         · exact ⟨y, hy, rfl⟩
         · exact ⟨w, List.mem_of_getElem? hw, rfl⟩
  obtain ⟨z, hz, e2⟩ := this
  exact ⟨z, hz, e2.trans e⟩
theorem ansL_ll (ss ty now trip : Int) : ∀ (ns : List Int) (s : An), (ansL ss ty now trip s ns).l.length = s.l.length
 | [], s => rfl
 | n :: r, s => by
  have h1 : (ans1 ss ty now trip s n).l.length = s.l.length := by
   unfold ans1
   split
   · rfl
   · split
     · rfl
     · rename_i w hw
       cases ansF now trip w
       · rfl
       · simp [An.put]
  show (ansL ss ty now trip (ans1 ss ty now trip s n) r).l.length = _
  rw [ansL_ll ss ty now trip r, h1]
theorem HB.ans {h : Hs} (hb : HB h) (now trip : Int) (ns : List Int) : HB (ansS h now trip ns).1 := by
 unfold ansS
 split
 · cases inI 1 2000 trip
   · exact .z
   cases decide (ns.length ≤ 64)
   · exact .z
   cases ns.any (fun x => !inI 0 65535 x)
   · simp only [cond_true, cond_false]
     refine ⟨by rw [ansL_ll]; exact hb.len, finH_iff.2 (fun x hx => ?_)⟩
     obtain ⟨y, hy, e⟩ := ansL_mem _ _ _ _ _ _ _ hx
     rw [← e]; exact finH_iff.1 hb.fin y hy
   · exact .z
 · exact .z
theorem pkS_fin (q : Int) : (pkS q).fin = true := rfl
theorem his_HB (d : Dr) : ∀ k, HB (his d k)
 | 0 => by
  unfold his begS
  cases namesB 7 97 d.tr
  · exact .z
  · exact ⟨Nat.zero_le _, rfl⟩
 | k + 1 => by
  have ih := his_HB d k
  rw [his]
  unfold nxH
  simp only
  cases (evN d.ev k).wh.tmod 3 == 0
  · simp only [cond_false]
    cases (keepS (his d k) (IntKind.i64.wrap ((his d k).ti + (evN d.ev k).wa.tmod 700)) (pkS (seqN d.ev d.sq k))).2 == 0
    · exact ih
    · exact ih.keep _ (pkS_fin _)
  · simp only [cond_true]
    cases (ansS (his d k) (IntKind.i64.wrap ((his d k).ti + (evN d.ev k).wa.tmod 700)) (roundS d) [seqN d.ev d.sq k, d.sq]).2.2 == 0
    · exact ih
    · exact ih.ans _ _ _
theorem seqN_rng {d : Dr} (hd : d.ok) (k : Nat) : 0 ≤ seqN d.ev d.sq k ∧ seqN d.ev d.sq k ≤ 65535 := by
 have h1 := atN_rng hd.ev (inI_t hd.sq) k
 have h2 := Ev.rng (evN_ok hd.ev k)
 unfold seqN
 rw [Int.tmod_eq_emod_of_nonneg (by omega)]
 omega
def T42 : List (Nat × Ct) := [(17, k17), (27, k27), (34, k34q), (44, k44), (80, k80), (81, k81)]
theorem hT42 : Sound Try.prog (cxT T42) := Sound.cons s17 (Sound.cons s27 (Sound.cons s34q (Sound.cons s44v (Sound.cons s80 (Sound.cons s81 Sound.nil)))))
theorem w42 (d : Dr) (hd : d.ok) : FTL Try.prog 42 [.agg d.a] [] 0 (.agg (hisS d).a) [] 0 := by
 have hda := drA_a d
 have hok := Dr.ok_iff.2 hd
 have hev := hd.ev
 have hsq := inI_t hd.sq
 have htr := inI_t hd.tr
 have hlen := his_HB d
 have hnx : ∀ k, his d (k + 1) = nxH d k (his d k) := fun _ => rfl
 have hfin : his d (stepsL d).length = hisS d := by rw [stepsL, mapN_len]; rfl
 have hsl : (stepsL d).length = min d.ev.length 40 := by rw [stepsL, mapN_len]
 have hsg : ∀ k, k < (stepsL d).length → (stepsL d)[k]? = some (seqN d.ev d.sq k) := fun k hk => by rw [hsl] at hk; exact mapN_get hk
 have hsr := seqN_rng hd
 generalize hisS d = W at *
 generalize hso : stepsL d = sl at *
 generalize hro : roundS d = rd at *
 generalize hwo : his d = wn at *
 have hnx2 : ∀ k h, nxH d k h = (let now := IntKind.i64.wrap (h.ti + (evN d.ev k).wa.tmod 700); let r : Hs × Int := bif (evN d.ev k).wh.tmod 3 == 0 then ((ansS h now rd [seqN d.ev d.sq k, d.sq]).1, (ansS h now rd [seqN d.ev d.sq k, d.sq]).2.2) else keepS h now (pkS (seqN d.ev d.sq k)); bif r.2 == 0 then r.1 else h) := fun k h => by rw [nxH, hro]
 have hw0 : wn 0 = (begS 7 97 d.tr).1 := by rw [← hwo]; rfl
 clear hwo
 have hk17 : ∀ (h : Hp) n, k17 [.agg d.a] h n = some (true, { v := .i .i64 rd, n }) := fun h n => by simp only [k17, hda, Option.bind_some, hok, hro]
 have hk27 : ∀ (h : Hp) n, k27 [.agg d.a] h n = some (true, { v := .fz (rows I1 sl) sl.length, n }) := fun h n => by simp only [k27, hda, Option.bind_some, hok, hso]
 have hk80 : ∀ (h : Hp) n, k80 [.i .i64 7, .i .i64 97, .i .i64 d.tr] h n = some (true, { v := rsH (begS 7 97 d.tr), n }) := fun h n => rfl
 generalize nxH d = nx at *
 generalize seqN d.ev d.sq = sqn at *
 obtain ⟨sq, tr, ev⟩ := d
 dsimp only at hev hsl hnx2 hsq htr hw0 hk80
 simp only [Dr.a] at hk17 hk27 ⊢
 have hle : sl.length ≤ ev.length := by omega
 have hs40 : sl.length ≤ 40 := by omega
 generalize begS 7 97 tr = B at *
 obtain ⟨⟨bt, bs, by_, bn, bl⟩, be⟩ := B
 simp only [rsH, Hs.a] at hk80
 dsimp only at hw0
 have m0 : IntKind.i64.wrap tr = tr := wrapL (by omega) (by omega)
 have m4 : IntKind.i64.wrap sq = sq := wrapL (by omega) (by omega)
 refine FTL.of_iw (cx := cxT T42) hT42 mo Try.func42 i42_eq (by simp [i42]) (iw_of_jw ?_)
 dsimp only [i42, T42]
 simp (maxSteps := 400000) only [go_sem, hk80, hk27, m0, simprocAttr]
 refine Loop.countI (F := ⟨Try.prog, cxT T42, [22, 54, 73], 76, 0⟩) hT42 mo sl.length (fun _ => True)
  (fun k => [(1, .p 0 0), (2, .p 1 0), (3, .p 2 0), (5, .fz (rows I1 sl) sl.length), (6, .i .i64 (k : Int))])
  (fun k => [(2, { cells := (wn k).a }), (1, { cells := [.i .i64 0, .i .i64 0, .i .i64 0, .i .i64 0, .ns] }), (0, { cells := [.i .u16 sq, .i .u16 tr, .fz (rows Ev.l ev) ev.length] })]) 3 (by decide) trivial ?_ ?_ (fun k hk _ => ?_)
 · simp (maxSteps := 400000) only [go_sem, AV.bel, belL, nblt, irB, simprocAttr]
 · rw [hw0]
   simp (maxSteps := 400000) only [go_sem, Hs.a, AV.bel, belL, nblt, erB, krB, simprocAttr]
 dsimp only [T42]
 have hwa := hsA_a (wn k)
 have hwb := hlen k
 by_cases hlt : k < sl.length
 · have c1 : decide ((k : Int) < (sl.length : Int)) = true := decide_eq_true (by omega)
   have c2 : decide (0 ≤ (k : Int) ∧ (k : Int) < (sl.length : Int)) = true := decide_eq_true (by omega)
   have c3 : decide (0 ≤ (k : Int) ∧ (k : Int) < (ev.length : Int)) = true := decide_eq_true (by omega)
   have hw : IntKind.i64.wrap ((k : Int) + 1) = ((k + 1 : Nat) : Int) := by rw [wrapL (by omega) (by omega)]; omega
   obtain ⟨x, hx⟩ : ∃ x, ev[k]? = some x := ⟨_, List.getElem?_eq_getElem (by omega)⟩
   have hr0 : (rows Ev.l ev)[k * 3]? = some (.i .u8 x.wh) := by
    have := rows_get (f := Ev.l) (z := 3) (j := 0) (v := .i .u8 x.wh) Ev.len hx rfl
    simpa using this
   have hr1 : (rows Ev.l ev)[k * 3 + 1]? = some (.i .u16 x.wa) := rows_get (f := Ev.l) (z := 3) (j := 1) (v := .i .u16 x.wa) Ev.len hx rfl
   have hr2 : (rows I1 sl)[k * 1]? = some (.i .i64 (sqn k)) := rows_get (f := I1) (z := 1) (j := 0) (v := .i .i64 (sqn k)) I1.len (hsg k hlt) rfl
   have hxr := Ev.rng (hev x (List.mem_of_getElem? hx))
   have hn := hnx k
   rw [hnx2 k (wn k), evN_at hx] at hn
   try simp only at hn
   have hll : decide ((wn k).l.length ≤ 1000000000000) = true := decide_eq_true (by have := hwb.len; omega)
   have hff := hwb.fin
   have t1 : 0 ≤ x.wa.tmod 700 ∧ x.wa.tmod 700 < 700 := by rw [Int.tmod_eq_emod_of_nonneg (by omega)]; omega
   have t2 : 0 ≤ x.wh.tmod 3 ∧ x.wh.tmod 3 < 3 := by rw [Int.tmod_eq_emod_of_nonneg (by omega)]; omega
   have m1 : IntKind.u16.wrap (x.wa.tmod 700) = x.wa.tmod 700 := by rw [wrapU16]; omega
   have m2 : IntKind.i64.wrap (x.wa.tmod 700) = x.wa.tmod 700 := wrapL (by omega) (by omega)
   have m3 : IntKind.u8.wrap (x.wh.tmod 3) = x.wh.tmod 3 := by rw [wrapU8]; omega
   rw [hn]
   generalize wn k = w at *
   have hsk := hsr k
   generalize sqn k = s at *
   have h34 : ∀ (h : Hp) n, k34q [.i .i64 s] h n = some (true, { v := .agg (pkS s).l, n }) := fun h n => by simp only [k34q, inI_of hsk]
   have hp9 := md9_l (pkS s)
   have hka : ∀ (h : Hp) n now b, hget h b = some { cells := [.i .i64 s, .i .i64 sq] } → k44 [.agg w.a, .i .i64 now, .i .i64 rd, .sl b 0 2 2] h n = some (true, { v := rsA (ansS w now rd [s, sq]), n, rd := [b], md := [(b, none)] }) := fun h n now b hb => by
    simp only [k44, vwK_s, hb, hwa, Option.bind_some, hll, hff, wrt]
    rfl
   have hks : ∀ (h : Hp) n now, k81 [.agg w.a, .i .i64 now, .agg (pkS s).l] h n = some (true, { v := rsH (keepS w now (pkS s)), n }) := fun h n now => by
    simp only [k81, hwa, hp9, Option.bind_some, hll]
   obtain ⟨wh, wa, st⟩ := x
   dsimp only at *
   generalize hnow : IntKind.i64.wrap (w.ti + wa.tmod 700) = now at *
   have hka := fun h n b => hka h n now b
   have hks := fun h n => hks h n now
   generalize keepS w now (pkS s) = R at *
   generalize ansS w now rd [s, sq] = A at *
   clear hnx2 hnx hn
   obtain ⟨⟨rt, rs, ry, rn, rl⟩, re⟩ := R
   obtain ⟨⟨at_, as_, ay, an, al⟩, ao, ae⟩ := A
   obtain ⟨ti, wss, wty, wnx, wl⟩ := w
   simp only [rsH, rsA, Hs.a] at hka hks ⊢
   dsimp only at hnow hka hks hwa
   cases h1 : (wh.tmod 3 == 0)
   · simp only [cond_false]
     cases h2 : (re == 0)
     · simp only [cond_false]
       simp (maxSteps := 400000) only [go_sem, c1, c2, c3, hr0, hr1, hr2, m1, m2, m3, hnow, h34, hks, h1, h2, hw, hlt, AV.bel, belL, nblt, erB, irB, krB, simprocAttr]
     · simp only [cond_true]
       simp (maxSteps := 400000) only [go_sem, c1, c2, c3, hr0, hr1, hr2, m1, m2, m3, hnow, h34, hks, h1, h2, hw, hlt, AV.bel, belL, nblt, erB, irB, krB, simprocAttr]
   · simp only [cond_true]
     cases h2 : (ae == 0)
     · simp only [cond_false]
       simp (maxSteps := 400000) only [go_sem, c1, c2, c3, hr0, hr1, hr2, m0, m4, m1, m2, m3, hnow, h34, hks, hka, hk17, h1, h2, hw, hlt, AV.bel, belL, nblt, erB, irB, krB, simprocAttr]
     · simp only [cond_true]
       simp (maxSteps := 400000) only [go_sem, c1, c2, c3, hr0, hr1, hr2, m0, m4, m1, m2, m3, hnow, h34, hks, hka, hk17, h1, h2, hw, hlt, AV.bel, belL, nblt, erB, irB, krB, simprocAttr]
 · have c1 : decide ((k : Int) < (sl.length : Int)) = false := decide_eq_false (by omega)
   obtain rfl : k = sl.length := by omega
   rw [hfin]
   obtain ⟨ti, wss, wty, wnx, wl⟩ := W
   simp only [Hs.a]
   simp (maxSteps := 400000) only [go_sem, c1, simprocAttr]
   exact Ends.pureE (by simp only [AV.bel, belL, krB, Bool.and_self]) rfl
def k42 : Ct
 | [.agg c], _, n => (drA c).bind fun d => some (d.okB, { v := .agg (hisS d).a, n })
 | _, _, _ => none
theorem s42 : SoundAt Try.prog 42 k42 := fun args h n c E hc ht => by
 unfold k42 at hc
 split at hc
 · simp only [Option.bind_eq_some_iff] at hc
   obtain ⟨d, hd, he⟩ := hc
   cases he
   rw [drA_eq hd]
   exact CallOK.pure (by kernel_rfl) (by simp only [belL, AV.bel, Dr.bel, Bool.and_self]) (by simp only [AV.bel, Hs.bel]) (w42 d (Dr.ok_iff.1 ht)) _ _
 · cases hc
end Go.Proofs.Res
end
section
/- The contract of Bend.History. -/
namespace Go.Proofs.Res
open Go.Ab
set_option maxRecDepth 100000
set_option maxHeartbeats 16000000
set_option linter.unusedSimpArgs false
set_option linter.unusedVariables false
def kpD : Kp := ⟨zM, 0, 0⟩
def hIx (b : Bd) (l : List Kp) : Nat := b.at_.toNat % l.length
def bhL (b : Bd) (l : List Kp) : List Kp :=
 if b.wh % 8 < 4 then l else if b.wh % 8 = 4 then l ++ [⟨pkS b.at_, b.n, -1⟩] else if l.length = 0 then l
 else l.set (hIx b l) (if b.wh % 8 = 5 then ⟨(l.getD (hIx b l) kpD).p, b.n, (l.getD (hIx b l) kpD).ak⟩
  else if b.wh % 8 = 6 then ⟨(l.getD (hIx b l) kpD).p, (l.getD (hIx b l) kpD).ti, b.n⟩
  else ⟨{ (l.getD (hIx b l) kpD).p with sq := b.n }, (l.getD (hIx b l) kpD).ti, (l.getD (hIx b l) kpD).ak⟩)
def bhS (b : Bd) (h : Hs) : Hs := ⟨if b.wh % 8 = 0 then b.n else h.ti, if b.wh % 8 = 1 then b.n else h.ss, if b.wh % 8 = 2 then b.n else h.ty, if b.wh % 8 = 3 then b.n else h.nx, bhL b h.l⟩
theorem bh_len (b : Bd) (l : List Kp) : (bhL b l).length ≤ l.length + 1 := by
 unfold bhL
 split
 · omega
 · split
   · simp
   · split
     · omega
     · simp
theorem covB_g {ti ss ty nx : Int} {h : Hp} {n j m : Nat} {C : List AV} {l : List Kp} (hk : hget h j = some { cells := C, gr := some 11 }) (hC : C = rows Kp.l l) (hm : m = l.length) : CovS 0 (.agg [.i .i64 ti, .i .i64 ss, .i .i64 ty, .i .i64 nx, .sg j 0 m]) h n (.agg (Hs.a ⟨ti, ss, ty, nx, l⟩)) [] 0 := by
 subst hC hm
 refine CovS.frz (b := j) (k := { cells := rows Kp.l l, gr := some 11 }) (h' := []) (o := 0) (m := l.length) (cs := rows Kp.l l) (v' := .agg (Hs.a ⟨ti, ss, ty, nx, l⟩)) hk rfl (.inr rfl) (.inl rfl) (FzV.agg ⟨FzV.refl, FzV.refl, FzV.refl, FzV.refl, FzV.hit, trivial⟩) (fun c kk hc => by simp [hget] at hc) ?_
 exact CovS.ends (Ends.pureE (by simp only [AV.bel, Hs.bel]) rfl)
theorem covB_l {ti ss ty nx : Int} {h : Hp} {n j : Nat} (hk : hget h j = some { cells := [] }) : CovS 0 (.agg [.i .i64 ti, .i .i64 ss, .i .i64 ty, .i .i64 nx, .sl j 0 0 0]) h n (.agg (Hs.a ⟨ti, ss, ty, nx, []⟩)) [] 0 := by
 refine CovS.frz (b := j) (k := { cells := [] }) (h' := []) (o := 0) (m := 0) (cs := []) (v' := .agg (Hs.a ⟨ti, ss, ty, nx, []⟩)) hk rfl (.inl ⟨0, rfl, Nat.le_refl _⟩) (.inl rfl) (FzV.agg ⟨FzV.refl, FzV.refl, FzV.refl, FzV.refl, FzV.hit, trivial⟩) (fun c kk hc => by simp [hget] at hc) ?_
 exact CovS.ends (Ends.pureE rfl rfl)
def T43 : List (Nat × Ct) := [(34, k34q)]
theorem hT43 : Sound Try.prog (cxT T43) := Sound.cons s34q Sound.nil
theorem w43 (b : Bd) (w : Hs) (hb : b.okB = true) (hl : w.l.length ≤ 1000000) : FTL Try.prog 43 [.agg b.a, .agg w.a] [] 0 (.agg (bhS b w).a) [] 0 := by
 simp only [Bd.okB, Bool.and_eq_true] at hb
 have hw := inI_t hb.1
 have ha := inI_t hb.2
 obtain ⟨ti, ss, ty, nx, l⟩ := w
 obtain ⟨wh, at_, N⟩ := b
 dsimp only at hw ha hl
 have hS : bhS ⟨wh, at_, N⟩ ⟨ti, ss, ty, nx, l⟩ = ⟨if wh % 8 = 0 then N else ti, if wh % 8 = 1 then N else ss, if wh % 8 = 2 then N else ty, if wh % 8 = 3 then N else nx, bhL ⟨wh, at_, N⟩ l⟩ := rfl
 rw [hS]
 clear hS
 simp only [Bd.a]
 rw [Hs.a_of ⟨ti, ss, ty, nx, l⟩]
 have m1 : wh.tmod 8 = wh % 8 := Int.tmod_eq_emod_of_nonneg (by omega)
 have m2 : IntKind.u8.wrap (wh % 8) = wh % 8 := by rw [wrapU8]; omega
 have w1 : IntKind.i64.wrap at_ = at_ := wrapL (by omega) (by omega)
 have h34 : ∀ (h : Hp) n, k34q [.i .i64 at_] h n = some (true, { v := .agg (pkS at_).l, n }) := fun h n => by
  have : inI 0 65535 at_ = true := inI_of (by omega)
  simp only [k34q, this]
 refine FTL.of_cov (cx := cxT T43) hT43 mo Try.func43 i43_eq (by simp [i43]) (iw_of_jw ?_)
 dsimp only [i43, T43]
 obtain ⟨L, hL⟩ : ∃ L, bhL ⟨wh, at_, N⟩ l = L := ⟨_, rfl⟩
 rw [hL]
 unfold bhL at hL
 dsimp only at hL
 obtain ⟨r, hr⟩ : ∃ r, wh % 8 = r := ⟨_, rfl⟩
 rw [hr] at hL m1 m2 ⊢
 obtain ⟨A, hA⟩ : ∃ A, (if r = 0 then N else ti) = A := ⟨_, rfl⟩
 obtain ⟨B, hB⟩ : ∃ B, (if r = 1 then N else ss) = B := ⟨_, rfl⟩
 obtain ⟨C, hC⟩ : ∃ C, (if r = 2 then N else ty) = C := ⟨_, rfl⟩
 obtain ⟨D, hD⟩ : ∃ D, (if r = 3 then N else nx) = D := ⟨_, rfl⟩
 rw [hA, hB, hC, hD]
 have hr' : r = 0 ∨ r = 1 ∨ r = 2 ∨ r = 3 ∨ r = 4 ∨ r = 5 ∨ r = 6 ∨ r = 7 := by omega
 cases l with
 | nil =>
  have rn0 : rows Kp.l ([] : List Kp) = [] := rfl
  have gm0 : decide (128 ≤ growMax) = true := rfl
  rcases hr' with rfl | rfl | rfl | rfl | rfl | rfl | rfl | rfl
  all_goals
   simp at hL; simp only [reduceIte, Int.reduceEq] at hA hB hC hD; subst hL hA hB hC hD
   simp (maxSteps := 400000) only [go_sem, m1, m2, w1, rn0, gm0, h34, pkS, Md.l, simprocAttr]
   first | (refine covB_l ?_; rfl) | (refine covB_g (hC := rfl) ?_ ?_ <;> rfl)
 | cons x t =>
  have h0 : ¬ (x :: t).length = 0 := by simp
  generalize x :: t = l at *
  have c0 : decide ((l.length : Int) > 0) = true := decide_eq_true (by omega)
  have c0' : ((l.length : Int) == 0) = false := beq_eq_false_iff_ne.2 (by omega)
  have c0n : ((l.length : Int) != 0) = true := bne_iff_ne.2 (by omega)
  have d0 : decide (l.length = 0) = false := decide_eq_false h0
  have d1 : decide (l.length ≤ 0) = false := decide_eq_false (by omega)
  have gm : decide (128 * l.length ≤ growMax) = true := decide_eq_true (by simp only [growMax]; omega)
  have gm2 : decide (128 * (l.length + 1) ≤ growMax) = true := decide_eq_true (by simp only [growMax]; omega)
  have zR : (rows Kp.l l).length = l.length * 11 := rows_len Kp.len
  have po : oneAll (rows Kp.l l) = true := rows_one1 Kp.one l
  have q1 : at_.tmod (l.length : Int) = ((at_.toNat % l.length : Nat) : Int) := by rw [Int.tmod_eq_emod_of_nonneg (by omega), Int.natCast_emod, Int.toNat_of_nonneg ha.1]
  have hmod : at_.toNat % l.length < l.length := Nat.mod_lt _ (by omega)
  have q2 : IntKind.i64.wrap ((at_.toNat % l.length : Nat) : Int) = ((at_.toNat % l.length : Nat) : Int) := wrapL (by omega) (by omega)
  have c5 : decide (0 ≤ ((at_.toNat % l.length : Nat) : Int) ∧ ((at_.toNat % l.length : Nat) : Int) < (l.length : Int)) = true := decide_eq_true (by omega)
  have hgi : l[at_.toNat % l.length]? = some (l.getD (at_.toNat % l.length) kpD) := by rw [List.getD_eq_getElem?_getD, List.getElem?_eq_getElem hmod]; rfl
  have room : ∀ j, j < 11 → decide (at_.toNat % l.length * 11 + j + 1 ≤ l.length * 11) = true := fun j hj => decide_eq_true (by omega)
  have sr := fun (j : Nat) (hj : j < 11) (x' : Kp) (hx' : x'.l = splice (l.getD (at_.toNat % l.length) kpD).l j [.i .i64 N]) => splice_row (f := Kp.l) (z := 11) Kp.len hgi hj hx'
  have hbx : hIx ⟨wh, at_, N⟩ l = at_.toNat % l.length := rfl
  rw [hbx] at hL
  have ct : List.take (l.length * 11) (List.drop 0 (rows Kp.l l)) = rows Kp.l l := by rw [List.drop_zero, ← zR, List.take_length]
  have hsr : ∀ (h : Hp) (k : List Nat → Nat → List AV → Bool → Option (Bool × Eff)), srcK h 11 (.fz (rows Kp.l l) l.length) k = k [] l.length (rows Kp.l l) true := fun h k => by
   rw [srcK_f]
   have e : cellsAt (rows Kp.l l) 0 (l.length * 11) = rows Kp.l l := by rw [cellsAt, List.drop_zero, ← zR, List.take_length]
   rw [e, zR]; simp
  generalize l.getD (at_.toNat % l.length) kpD = y at *
  generalize at_.toNat % l.length = i at *
  rcases hr' with rfl | rfl | rfl | rfl | rfl | rfl | rfl | rfl
  · simp at hL; simp only [reduceIte, Int.reduceEq] at hA hB hC hD; subst hL hA hB hC hD
    simp (maxSteps := 400000) only [go_sem, m1, m2, w1, c0, c0', c0n, d0, d1, gm, zR, po, q1, q2, hsr, ct, simprocAttr]
    refine covB_g (hC := rfl) ?_ ?_ <;> rfl
  · simp at hL; simp only [reduceIte, Int.reduceEq] at hA hB hC hD; subst hL hA hB hC hD
    simp (maxSteps := 400000) only [go_sem, m1, m2, w1, c0, c0', c0n, d0, d1, gm, zR, po, q1, q2, hsr, ct, simprocAttr]
    refine covB_g (hC := rfl) ?_ ?_ <;> rfl
  · simp at hL; simp only [reduceIte, Int.reduceEq] at hA hB hC hD; subst hL hA hB hC hD
    simp (maxSteps := 400000) only [go_sem, m1, m2, w1, c0, c0', c0n, d0, d1, gm, zR, po, q1, q2, hsr, ct, simprocAttr]
    refine covB_g (hC := rfl) ?_ ?_ <;> rfl
  · simp at hL; simp only [reduceIte, Int.reduceEq] at hA hB hC hD; subst hL hA hB hC hD
    simp (maxSteps := 400000) only [go_sem, m1, m2, w1, c0, c0', c0n, d0, d1, gm, zR, po, q1, q2, hsr, ct, simprocAttr]
    refine covB_g (hC := rfl) ?_ ?_ <;> rfl
  · simp at hL; simp only [reduceIte, Int.reduceEq] at hA hB hC hD; subst hL hA hB hC hD
    simp (maxSteps := 400000) only [go_sem, m1, m2, w1, c0, c0', c0n, d0, d1, gm, gm2, zR, po, q1, q2, hsr, ct, h34, pkS, Md.l, simprocAttr]
    refine covB_g rfl ?_ ?_
    · rw [rows_append]; rfl
    · simp
  · have rm := room 9 (by omega)
    rw [if_neg (by omega), if_neg (by omega), if_neg h0, if_pos rfl] at hL
    simp only [reduceIte, Int.reduceEq] at hA hB hC hD; subst hA hB hC hD
    have e := sr 9 (by omega) ⟨y.p, N, y.ak⟩ rfl
    rw [hL] at e
    simp (maxSteps := 400000) only [go_sem, m1, m2, w1, c0, c0', c0n, d0, d1, gm, zR, po, q1, q2, hsr, ct, c5, rm, simprocAttr]
    refine covB_g (hC := e) ?_ ?_
    · rfl
    · rw [← hL, List.length_set]
  · have rm := room 10 (by omega)
    rw [if_neg (by omega), if_neg (by omega), if_neg h0, if_neg (by omega), if_pos rfl] at hL
    simp only [reduceIte, Int.reduceEq] at hA hB hC hD; subst hA hB hC hD
    have e := sr 10 (by omega) ⟨y.p, y.ti, N⟩ rfl
    rw [hL] at e
    simp (maxSteps := 400000) only [go_sem, m1, m2, w1, c0, c0', c0n, d0, d1, gm, zR, po, q1, q2, hsr, ct, c5, rm, simprocAttr]
    refine covB_g (hC := e) ?_ ?_
    · rfl
    · rw [← hL, List.length_set]
  · have rm := room 2 (by omega)
    rw [if_neg (by omega), if_neg (by omega), if_neg h0, if_neg (by omega), if_neg (by omega)] at hL
    simp only [reduceIte, Int.reduceEq] at hA hB hC hD; subst hA hB hC hD
    have e := sr 2 (by omega) ⟨{ y.p with sq := N }, y.ti, y.ak⟩ rfl
    rw [hL] at e
    simp (maxSteps := 400000) only [go_sem, m1, m2, w1, c0, c0', c0n, d0, d1, gm, zR, po, q1, q2, hsr, ct, c5, rm, simprocAttr]
    refine covB_g (hC := e) ?_ ?_
    · rfl
    · rw [← hL, List.length_set]
def k43 : Ct
 | [.agg b, .agg c], _, n => (bd3 b).bind fun b => (hsA c).bind fun w => some (b.okB && decide (w.l.length ≤ 1000000), { v := .agg (bhS b w).a, n })
 | _, _, _ => none
theorem s43 : SoundAt Try.prog 43 k43 := fun args h n c E hc ht => by
 unfold k43 at hc
 split at hc
 · simp only [Option.bind_eq_some_iff] at hc
   obtain ⟨b, hb, w, hw, he⟩ := hc
   cases he
   rw [bd3_eq hb, hsA_eq hw]
   simp only [Bool.and_eq_true, decide_eq_true_eq] at ht
   exact CallOK.pure (by kernel_rfl) (by simp only [belL, AV.bel, Hs.bel, Bd.a, Bool.and_self]) (by simp only [AV.bel, Hs.bel]) (w43 b w ht.1 ht.2) _ _
 · cases hc
end Go.Proofs.Res
end
