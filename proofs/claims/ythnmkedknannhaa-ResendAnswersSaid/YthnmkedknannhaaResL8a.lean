/- For the walk of ResendAnswers: bounds; the contract of Answer for numbers in whatever form. -/
import Derived.Test.YthnmkedknannhaaResMh
import Derived.Test.YthnmkedknannhaaAbGvs
namespace Go.Proofs.Res
open Go.Ab
set_option maxRecDepth 100000
set_option maxHeartbeats 8000000
set_option linter.unusedSimpArgs false
set_option linter.unusedVariables false
def k37v : Ct
 | [.agg c, .i .i64 now, .i .i64 trip, x], h, n => vwK h 1 x fun rd m cs ok => (hsA c).bind fun hs => (unrows 1 intV m cs).bind fun ns => some (ok && (wrt h rd && (decide (hs.l.length ≤ 1000000000000) && (finH hs && decide (m ≤ 1000000000000)))), { v := rsA (ansS hs now trip ns), n, rd, md := dels rd })
 | _, _, _ => none
theorem s37v : SoundAt Try.prog 37 k37v := fun args h n c E hc ht => by
 unfold k37v at hc
 split at hc
 · rename_i cc now trip x
   rw [vwK_eq] at hc
   simp only [Option.bind_eq_some_iff] at hc
   obtain ⟨⟨rd, m, cs, ok⟩, hv, hs, hd, ns, hn, he⟩ := hc
   cases he
   simp only [Bool.and_eq_true, decide_eq_true_eq] at ht
   obtain ⟨rfl, h0, h1, h2, h3⟩ := ht
   obtain ⟨rfl, rfl⟩ := unrows_eq intV_eq hn
   rw [hsA_eq hd]
   refine CallOK.give (by kernel_rfl) (argsF := [.agg hs.a, .i .i64 now, .i .i64 trip, .fz (rows int1 ns) ns.length]) ⟨VwV.same (by simp only [AV.bel, Hs.bel]), VwV.same rfl, VwV.same rfl, vwK_sub hv (rows_bel int1_bel) (fun c hc => hc), trivial⟩ (rsA_bel _) h0 (w37 hs _ _ ns h1 h2 h3)
 · cases hc
/-! packets are small -/
def tiny (p : Md) : Bool := decide (p.cs.length = 0) && (decide (p.xs.length = 0) && decide (p.pl.length ≤ 1))
theorem fin_iff {p : Md} : p.fin = true ↔ p.cs.length ≤ 1000000000000 ∧ p.xs.length ≤ 1000000000000 ∧ (∀ x ∈ p.xs, x.2.length ≤ 1000000000000) ∧ p.pl.length ≤ 1000000000000 := by
 simp only [Md.fin, Bool.and_eq_true, decide_eq_true_eq, List.all_eq_true, and_assoc]
theorem bmF_iff {p : Md} : bmF p = true ↔ p.cs.length ≤ 1000000 ∧ p.xs.length ≤ 1000000 ∧ (∀ x ∈ p.xs, x.2.length ≤ 1000000000000) ∧ p.pl.length ≤ 1000000000000 := by
 simp only [bmF, Bool.and_eq_true, decide_eq_true_eq, List.all_eq_true]
def tinyH (h : Hs) : Bool := h.l.all fun x => tiny x.p
theorem tiny_iff {h : Hs} : tinyH h = true ↔ ∀ x ∈ h.l, tiny x.p = true := by simp only [tinyH, List.all_eq_true]
theorem tiny_fin {h : Hs} (ht : tinyH h = true) : finH h = true := finH_iff.2 fun x hx => by
 have := tiny_iff.1 ht x hx
 simp only [tiny, Bool.and_eq_true, decide_eq_true_eq] at this
 have e : x.p.xs = [] := List.eq_nil_of_length_eq_zero this.2.1
 exact fin_iff.2 ⟨by omega, by omega, fun y hy => by rw [e] at hy; (cases hy), by omega⟩
theorem keep_tiny {h : Hs} (hb : tinyH h = true) (now : Int) {p : Md} (hp : tiny p = true) : tinyH (keepS h now p).1 = true := by
 unfold keepS
 split
 · cases mdB p
   · rfl
   cases decide (0 < h.l.length) && decide (lead p.sq (lastQ h.l) ≤ 0)
   · simp only [cond_true, cond_false]
     refine tiny_iff.2 (fun x hx => ?_)
     simp only [keptL, List.mem_append, List.mem_singleton] at hx
     rcases hx with hx | rfl
     · have : x ∈ keepK now (lastQ h.l) (stepK h p) h.l := by
        revert hx
        unfold cut64
        cases ((keepK now (lastQ h.l) (stepK h p) h.l).length == 64)
        · exact id
        · exact fun hx => List.mem_of_mem_drop hx
       exact tiny_iff.1 hb x (List.mem_filter.1 this).1
     · exact hp
   · rfl
 · rfl
theorem ans_tiny {h : Hs} (hb : tinyH h = true) (now trip : Int) (ns : List Int) : tinyH (ansS h now trip ns).1 = true := by
 unfold ansS
 split
 · cases inI 1 2000 trip
   · rfl
   cases decide (ns.length ≤ 64)
   · rfl
   cases ns.any (fun x => !inI 0 65535 x)
   · simp only [cond_true, cond_false]
     refine tiny_iff.2 (fun x hx => ?_)
     obtain ⟨y, hy, e⟩ := ansL_mem _ _ _ _ _ _ _ hx
     rw [← e]; exact tiny_iff.1 hb y hy
   · rfl
 · rfl
theorem ans_ll (h : Hs) (now trip : Int) (ns : List Int) : (ansS h now trip ns).1.l.length ≤ h.l.length := by
 unfold ansS
 split
 · cases inI 1 2000 trip
   · exact Nat.zero_le _
   cases decide (ns.length ≤ 64)
   · exact Nat.zero_le _
   cases ns.any (fun x => !inI 0 65535 x)
   · simp only [cond_true, cond_false]
     rw [ansL_ll]; exact Nat.le_refl _
   · exact Nat.zero_le _
 · exact Nat.zero_le _
theorem ansL_out (ss ty now trip : Int) : ∀ (ns : List Int) (s : An), (∀ p ∈ s.o, p.cs.length = 0 ∧ p.xs.length = 0 ∧ p.pl.length ≤ 3) → (∀ x ∈ s.l, tiny x.p = true) → ∀ p ∈ (ansL ss ty now trip s ns).o, p.cs.length = 0 ∧ p.xs.length = 0 ∧ p.pl.length ≤ 3
 | [], s, ho, hl => ho
 | n :: r, s, ho, hl => by
  refine ansL_out ss ty now trip r (ans1 ss ty now trip s n) ?_ ?_
  · unfold ans1
    split
    · exact ho
    · split
      · exact ho
      · rename_i x hx
        cases ansF now trip x
        · exact ho
        · intro p hp
          simp only [cond_true, An.put, List.mem_append, List.mem_singleton] at hp
          rcases hp with hp | rfl
          · exact ho p hp
          · have := hl x (List.mem_of_getElem? hx)
            simp only [tiny, Bool.and_eq_true, decide_eq_true_eq] at this
            simp only [agS, List.length_cons]
            omega
  · intro x hx
    obtain ⟨y, hy, e⟩ := ansL_mem ss ty now trip [n] s x hx
    rw [← e]; exact hl y hy
theorem ans_out {h : Hs} (hb : tinyH h = true) (now trip : Int) (ns : List Int) : ∀ p ∈ (ansS h now trip ns).2.1, p.cs.length = 0 ∧ p.xs.length = 0 ∧ p.pl.length ≤ 3 := by
 unfold ansS
 have h0 : ∀ p ∈ ([] : List Md), p.cs.length = 0 ∧ p.xs.length = 0 ∧ p.pl.length ≤ 3 := fun p hp => by cases hp
 split
 · cases inI 1 2000 trip
   · exact h0
   cases decide (ns.length ≤ 64)
   · exact h0
   cases ns.any (fun x => !inI 0 65535 x)
   · exact ansL_out _ _ _ _ _ _ h0 (tiny_iff.1 hb)
   · exact h0
 · exact h0
theorem ans_ol (h : Hs) (now trip : Int) (ns : List Int) : (ansS h now trip ns).2.1.length ≤ 64 := by
 unfold ansS
 split
 · cases inI 1 2000 trip
   · exact Nat.zero_le _
   cases hn : decide (ns.length ≤ 64)
   · exact Nat.zero_le _
   cases ns.any (fun x => !inI 0 65535 x)
   · have := ansL_len h.ss h.ty now trip ns ⟨h.l, h.nx, []⟩
     have hn := of_decide_eq_true hn
     simp only [cond_true, cond_false]
     simp at this; omega
   · exact Nat.zero_le _
 · exact Nat.zero_le _
theorem pkS_tiny (q : Int) : tiny (pkS q) = true := rfl
theorem his_tiny (d : Dr) : ∀ k, tinyH (his d k) = true
 | 0 => by
  unfold his begS
  cases namesB 7 97 d.tr <;> rfl
 | k + 1 => by
  have ih := his_tiny d k
  rw [his]
  unfold nxH
  simp only
  cases (evN d.ev k).wh.tmod 3 == 0
  · simp only [cond_false]
    cases (keepS (his d k) (IntKind.i64.wrap ((his d k).ti + (evN d.ev k).wa.tmod 700)) (pkS (seqN d.ev d.sq k))).2 == 0
    · exact ih
    · exact keep_tiny ih _ (pkS_tiny _)
  · simp only [cond_true]
    cases (ansS (his d k) (IntKind.i64.wrap ((his d k).ti + (evN d.ev k).wa.tmod 700)) (roundS d) [seqN d.ev d.sq k, d.sq]).2.2 == 0
    · exact ih
    · exact ans_tiny ih _ _ _
theorem bh_tiny (b : Bd) {h : Hs} (ht : tinyH h = true) : tinyH (bhS b h) = true := by
 refine tiny_iff.2 ?_
 have ht := tiny_iff.1 ht
 show ∀ x ∈ bhL b h.l, _
 generalize h.l = l at *
 unfold bhL
 split
 · exact ht
 · split
   · intro x hx
     rcases List.mem_append.1 hx with hx | hx
     · exact ht x hx
     · simp only [List.mem_singleton] at hx; subst hx; exact pkS_tiny _
   · split
     · exact ht
     · rename_i h0
       have hmod : hIx b l < l.length := Nat.mod_lt _ (by omega)
       have hy : tiny (l.getD (hIx b l) kpD).p = true := by
        rw [List.getD_eq_getElem?_getD, List.getElem?_eq_getElem hmod]
        exact ht _ (List.getElem_mem hmod)
       generalize l.getD (hIx b l) kpD = y at *
       intro x hx
       rcases List.mem_or_eq_of_mem_set hx with hx | rfl
       · exact ht x hx
       · split
         · exact hy
         · split
           · exact hy
           · exact hy
structure Small (q : Md) : Prop where
 fin : q.fin = true
 bm : bmF q = true
theorem small_q {q : Md} (h : q.cs.length = 0 ∧ q.xs.length = 0 ∧ q.pl.length ≤ 3) : Small q := by
 have e : q.xs = [] := List.eq_nil_of_length_eq_zero h.2.1
 constructor
 · exact fin_iff.2 ⟨by omega, by omega, fun y hy => by rw [e] at hy; (cases hy), by omega⟩
 · exact bmF_iff.2 ⟨by omega, by omega, fun y hy => by rw [e] at hy; (cases hy), by omega⟩
theorem small_b {q : Md} (h : q.cs.length = 0 ∧ q.xs.length = 0 ∧ q.pl.length ≤ 3) (b : Bm) : (bmM b q).fin = true := by
 have e : q.xs = [] := List.eq_nil_of_length_eq_zero h.2.1
 have ec : q.cs = [] := List.eq_nil_of_length_eq_zero h.1
 have hx : bmX b q.xs = [] ∨ bmX b q.xs = [(b.n, [])] := by
  rw [e]; unfold bmX
  split
  · exact .inr rfl
  · exact .inl rfl
 have hp : (if b.wh % 10 = 9 then fillP (1188 + (b.at_ % 4).toNat) q.pl else q.pl).length ≤ 100000 := by
  split
  · have := fillP_len (1188 + (b.at_ % 4).toNat) q.pl; omega
  · omega
 have hc : (if b.wh % 10 = 5 then q.cs ++ [b.n] else q.cs).length ≤ 1 := by
  rw [ec]; split <;> simp
 refine fin_iff.2 ⟨Nat.le_trans hc (by omega), ?_, ?_, Nat.le_trans hp (by omega)⟩
 · show (bmX b q.xs).length ≤ _
   rcases hx with hx | hx <;> rw [hx] <;> simp
 · show ∀ x ∈ bmX b q.xs, _
   rcases hx with hx | hx <;> rw [hx] <;> simp
theorem org_fin {z : Md} (h : z.fin = true) (ss ty : Int) : (decide ((orgS z ss ty).1.cs.length ≤ 1000000000000) && decide ((orgS z ss ty).1.xs.length ≤ 1000000000000)) = true := by
 simp only [Md.fin, Bool.and_eq_true, decide_eq_true_eq] at h
 unfold orgS
 cases mdB z
 · rfl
 cases namesB ss ty 0
 · rfl
 simp only [cond_true]
 split
 · simp only [Bool.and_eq_true, decide_eq_true_eq]; exact ⟨h.1.1.1, h.1.1.2⟩
 · rfl
theorem sm_of {h : Hs} (ht : tinyH h = true) : smB h.l = true := List.all_eq_true.2 fun x hx => by
 have := tiny_iff.1 ht x hx
 simp only [tiny, Bool.and_eq_true, decide_eq_true_eq] at this ⊢
 omega
theorem smP_of {l : List Md} (h : ∀ p ∈ l, p.cs.length = 0 ∧ p.xs.length = 0 ∧ p.pl.length ≤ 3) : smP l = true := List.all_eq_true.2 fun x hx => by
 have := h x hx
 simp only [Bool.and_eq_true, decide_eq_true_eq]
 omega
end Go.Proofs.Res
