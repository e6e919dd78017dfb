/- Texts laid as one: FltQ FltR FltT FltU FltV FltW. -/
import Derived.Test.YtlokbfkdgnopeaaGreatDoorFltGa
import Derived.Test.YtlokbfkdgnopeaaGreatDoorFltDa
section
/- Chapter 19: a joiner of which is known what came. -/
namespace Go.Proofs.Flt
open Go.Ab
set_option linter.unusedVariables false
def SqS (b : Int) : List Nt → Prop
 | [] => True
 | x :: xs => x.sq = b ∧ SqS (b + 1) xs
def HS (sz : Nat → Nat) : Nat → List Nt → List (List Nat) → List Hf → Prop
 | i, x :: xs, K :: KK, hs => (staK x (sz i) K ∧ ∃ h t, hs = h :: t ∧ OkH x (GK x (sz i) K) h ∧ HS sz (i + 1) xs KK t) ∨ (¬ staK x (sz i) K ∧ HS sz (i + 1) xs KK hs)
 | _, _, _, hs => hs = []
theorem HS_sq {sz : Nat → Nat} : ∀ {xs : List Nt} {KK : List (List Nat)} {i : Nat} {b : Int} {hs : List Hf}, SqS b xs → HS sz i xs KK hs → ∀ h ∈ hs, b ≤ h.sq
 | [], _, i, b, hs, _, h, y, hy => by simp only [HS] at h; subst h; cases hy
 | x :: xs, [], i, b, hs, _, h, y, hy => by simp only [HS] at h; subst h; cases hy
 | x :: xs, K :: KK, i, b, hs, hq, h, y, hy => by
  simp only [HS] at h
  rcases h with ⟨_, h0, t, rfl, ho, ht⟩ | ⟨_, ht⟩
  · rcases List.mem_cons.1 hy with rfl | hy
    · rw [ho.sq, hq.1]; exact Int.le_refl _
    · have := HS_sq hq.2 ht y hy; omega
  · have := HS_sq hq.2 ht y hy; omega
theorem SqS_at : ∀ {xs : List Nt} {b : Int} {t : Nat} {x : Nt}, SqS b xs → xs[t]? = some x → x.sq = b + t
 | [], b, t, x, _, h => by simp at h
 | y :: xs, b, 0, x, hq, h => by simp at h; subst h; rw [hq.1]; simp
 | y :: xs, b, t + 1, x, hq, h => by
  have := SqS_at hq.2 (t := t) (x := x) (by simpa using h)
  rw [this]; omega
theorem GK_iff {x : Nt} {sz k : Nat} {K K2 : List Nat} (hk : k < cutN x.bd.length sz) (h2 : ∀ l, l ∈ K2 ↔ l ∈ K ∧ l ≠ k) (o : Int) : ((((k * sz : Nat) : Int) ≤ o ∧ o < ((k * sz : Nat) : Int) + (pcM x sz k : Nat)) ∨ GK x sz K o) ↔ GK x sz K2 o := by
 constructor
 · rintro (h | ⟨l, h1, h3, h4⟩)
   · exact ⟨k, hk, fun h3 => ((h2 k).1 h3).2 rfl, h⟩
   · exact ⟨l, h1, fun h5 => h3 ((h2 l).1 h5).1, h4⟩
 · rintro ⟨l, h1, h3, h4⟩
   by_cases e : l = k
   · subst e; exact .inl h4
   · exact .inr ⟨l, h1, fun h5 => h3 ((h2 l).2 ⟨h5, e⟩), h4⟩
theorem staK_2 {x : Nt} {sz k : Nat} {K K2 : List Nat} (hk : k < cutN x.bd.length sz) (h2 : ∀ l, l ∈ K2 ↔ l ∈ K ∧ l ≠ k) : staK x sz K2 := ⟨k, hk, fun h => ((h2 k).1 h).2 rfl⟩
theorem put_HS {sz : Nat → Nat} (hsz : ∀ i, 1 ≤ sz i) : ∀ {t : Nat} {xs : List Nt} {KK : List (List Nat)} {i : Nat} {b : Int} {hs : List Hf} {x : Nt} {K K2 : List Nat} {k : Nat}, SqS b xs → HS sz i xs KK hs → xs[t]? = some x → KK[t]? = some K → k < cutN x.bd.length (sz (i + t)) → (∀ l, l ∈ K2 ↔ l ∈ K ∧ l ≠ k) →
 ∃ hs2, putH (cutP x (sz (i + t)) k) hs = some hs2 ∧ HS sz i xs (KK.set t K2) hs2
 | t, [], KK, i, b, hs, x, K, K2, k, hq, h, hx, hK, hk, h2 => by simp at hx
 | t, y :: xs, [], i, b, hs, x, K, K2, k, hq, h, hx, hK, hk, h2 => by simp at hK
 | 0, y :: xs, L :: KK, i, b, hs, x, K, K2, k, hq, h, hx, hK, hk, h2 => by
  simp at hx hK
  subst hx; subst hK
  simp only [Nat.add_zero] at hk ⊢
  have hp := pcOf (hsz i) hk
  simp only [HS] at h
  rcases h with ⟨_, h0, r, rfl, ho, ht⟩ | ⟨hns, ht⟩
  · obtain ⟨h3, e, o3⟩ := ho.fill hp
    refine ⟨h3 :: r, ?_, ?_⟩
    · have e1 : ¬ h0.sq < (cutP y (sz i) k).sq := by rw [ho.sq, hp.sq]; omega
      have e2 : h0.sq = (cutP y (sz i) k).sq := by rw [ho.sq, hp.sq]
      simp only [putH, if_neg e1, if_pos e2, e, Option.map_some]
    · simp only [List.set, HS]
      exact .inl ⟨staK_2 hk h2, h3, r, rfl, o3.iff (GK_iff hk h2), ht⟩
  · have hn : OkH y (fun _ => False) (newH (cutP y (sz i) k)) := OkH.new hp.kd hp.ln hp.sq
    obtain ⟨h3, e, o3⟩ := hn.fill hp
    have o4 : OkH y (GK y (sz i) K2) h3 := o3.iff (fun o => by
     rw [← GK_iff hk h2]
     refine or_congr Iff.rfl ⟨fun h => h.elim, fun ⟨l, h1, h4, _⟩ => hns ⟨l, h1, h4⟩⟩)
    refine ⟨h3 :: hs, ?_, ?_⟩
    · cases hs with
      | nil => simp only [putH, e, Option.map_some]
      | cons h5 r =>
       have h6 := HS_sq hq.2 ht h5 List.mem_cons_self
       have h7 : (cutP y (sz i) k).sq = b := by rw [hp.sq, hq.1]
       simp only [putH, if_neg (show ¬ h5.sq < (cutP y (sz i) k).sq by omega), if_neg (show ¬ h5.sq = (cutP y (sz i) k).sq by omega), e, Option.map_some]
    · simp only [List.set, HS]
      exact .inl ⟨staK_2 hk h2, h3, hs, rfl, o4, ht⟩
 | t + 1, y :: xs, L :: KK, i, b, hs, x, K, K2, k, hq, h, hx, hK, hk, h2 => by
  have hx1 : xs[t]? = some x := by simpa using hx
  have hK1 : KK[t]? = some K := by simpa using hK
  have hit : i + (t + 1) = (i + 1) + t := by omega
  rw [hit] at hk ⊢
  have hp := pcOf (hsz (i + 1 + t)) hk
  have hsq := SqS_at hq.2 hx1
  simp only [HS] at h
  rcases h with ⟨hst, h0, r, rfl, ho, ht⟩ | ⟨hns, ht⟩
  · obtain ⟨hs2, e, h3⟩ := put_HS hsz hq.2 ht hx1 hK1 hk h2
    refine ⟨h0 :: hs2, ?_, ?_⟩
    · have e1 : h0.sq < (cutP x (sz (i + 1 + t)) k).sq := by rw [ho.sq, hp.sq, hsq, hq.1]; omega
      simp only [putH, if_pos e1, e, Option.map_some]
    · simp only [List.set, HS]
      exact .inl ⟨hst, h0, hs2, rfl, ho, h3⟩
  · obtain ⟨hs2, e, h3⟩ := put_HS hsz hq.2 ht hx1 hK1 hk h2
    refine ⟨hs2, e, ?_⟩
    simp only [List.set, HS]
    exact .inr ⟨hns, h3⟩
theorem again_HS {sz : Nat → Nat} (hsz : ∀ i, 1 ≤ sz i) : ∀ {t : Nat} {xs : List Nt} {KK : List (List Nat)} {i : Nat} {b : Int} {hs : List Hf} {x : Nt} {K : List Nat} {k : Nat}, SqS b xs → HS sz i xs KK hs → xs[t]? = some x → KK[t]? = some K → k < cutN x.bd.length (sz (i + t)) → k ∉ K →
 putH (cutP x (sz (i + t)) k) hs = some hs
 | t, [], KK, i, b, hs, x, K, k, hq, h, hx, hK, hk, h2 => by simp at hx
 | t, y :: xs, [], i, b, hs, x, K, k, hq, h, hx, hK, hk, h2 => by simp at hK
 | 0, y :: xs, L :: KK, i, b, hs, x, K, k, hq, h, hx, hK, hk, h2 => by
  simp at hx hK
  subst hx; subst hK
  simp only [Nat.add_zero] at hk ⊢
  have hp := pcOf (hsz i) hk
  simp only [HS] at h
  rcases h with ⟨_, h0, r, rfl, ho, ht⟩ | ⟨hns, ht⟩
  · have e := ho.again hp (fun o g1 g2 => ⟨k, hk, h2, g1, g2⟩)
    have e1 : ¬ h0.sq < (cutP y (sz i) k).sq := by rw [ho.sq, hp.sq]; omega
    have e2 : h0.sq = (cutP y (sz i) k).sq := by rw [ho.sq, hp.sq]
    simp only [putH, if_neg e1, if_pos e2, e, Option.map_some]
  · exact absurd ⟨k, hk, h2⟩ hns
 | t + 1, y :: xs, L :: KK, i, b, hs, x, K, k, hq, h, hx, hK, hk, h2 => by
  have hx1 : xs[t]? = some x := by simpa using hx
  have hK1 : KK[t]? = some K := by simpa using hK
  have hit : i + (t + 1) = (i + 1) + t := by omega
  rw [hit] at hk ⊢
  have hp := pcOf (hsz (i + 1 + t)) hk
  have hsq := SqS_at hq.2 hx1
  simp only [HS] at h
  rcases h with ⟨hst, h0, r, rfl, ho, ht⟩ | ⟨hns, ht⟩
  · have e := again_HS hsz hq.2 ht hx1 hK1 hk h2
    have e1 : h0.sq < (cutP x (sz (i + 1 + t)) k).sq := by rw [ho.sq, hp.sq, hsq, hq.1]; omega
    simp only [putH, if_pos e1, e, Option.map_some]
  · exact again_HS hsz hq.2 ht hx1 hK1 hk h2
def lead : List (List Nat) → Nat
 | [] => 0
 | K :: r => bif K.length == 0 then lead r + 1 else 0
theorem whole_note {x : Nt} {sz : Nat} {h : Hf} (hs : 1 ≤ sz) (ho : OkH x (GK x sz []) h) : (⟨h.kd, h.sq, h.bd⟩ : Nt) = x := by
 have : h.bd = x.bd := by
  apply List.ext_getElem?
  intro k
  cases hx : x.bd[k]? with
  | none => exact List.getElem?_eq_none (by rw [ho.len]; exact List.getElem?_eq_none_iff.1 hx)
  | some c =>
   have hk := (List.getElem?_eq_some_iff.1 hx).1
   obtain ⟨g1, g2, g3⟩ := cutN_at (n := x.bd.length) hs hk
   exact (ho.at_ k c hx).1 ⟨k / sz, g1, by simp, by omega, by unfold pcM; omega⟩
 obtain ⟨a, b, c⟩ := x
 dsimp only at this
 have e1 := ho.kd
 have e2 := ho.sq
 dsimp only at e1 e2
 rw [this, e1, e2]
theorem give_HS {sz : Nat → Nat} (hsz : ∀ i, 1 ≤ sz i) : ∀ {xs : List Nt} {KK : List (List Nat)} {i : Nat} {b : Int} {hs : List Hf}, xs.length = KK.length → (∀ t x K, xs[t]? = some x → KK[t]? = some K → OkK x (sz (i + t)) K) → SqS b xs → HS sz i xs KK hs →
 ∃ hs2, giveS b hs = (⟨b + lead KK, hs2⟩, xs.take (lead KK)) ∧ HS sz (i + lead KK) (xs.drop (lead KK)) (KK.drop (lead KK)) hs2
 | [], [], i, b, hs, hl, hK, hq, h => by
  simp only [HS] at h
  subst h
  exact ⟨[], by simp [giveS, lead], by simp [lead, HS]⟩
 | x :: xs, [], i, b, hs, hl, hK, hq, h => by simp at hl
 | [], K :: KK, i, b, hs, hl, hK, hq, h => by simp at hl
 | x :: xs, K :: KK, i, b, hs, hl, hK, hq, h => by
  have hok : OkK x (sz i) K := hK 0 x K rfl rfl
  have h' := h
  simp only [HS] at h
  cases hc : (K.length == 0)
  · have hl0 : lead (K :: KK) = 0 := by simp only [lead, hc, cond_false]
    rw [hl0]
    refine ⟨hs, ?_, by simpa using h'⟩
    rcases h with ⟨hst, h0, r, rfl, ho, ht⟩ | ⟨hns, ht⟩
    · have hd : doneB h0 = false := by
       cases hd : doneB h0
       · rfl
       · have := (done_iff (hsz i) hok hst ho).1 hd
         rw [this] at hc; cases hc
      simp only [giveS, hd, Bool.and_false, cond_false]; simp
    · cases hs with
      | nil => simp [giveS]
      | cons h5 r =>
       have h6 := HS_sq hq.2 ht h5 List.mem_cons_self
       have e : (h5.sq == b) = false := beq_eq_false_iff_ne.2 (by omega)
       simp only [giveS, e, Bool.false_and, cond_false]; simp
  · have hKn : K = [] := List.eq_nil_of_length_eq_zero (beq_iff_eq.1 hc)
    subst hKn
    have hl0 : lead ([] :: KK) = lead KK + 1 := by simp only [lead, hc, cond_true]
    rw [hl0]
    rcases h with ⟨hst, h0, r, rfl, ho, ht⟩ | ⟨hns, ht⟩
    · have hd := (done_iff (hsz i) hok hst ho).2 rfl
      have hs1 : (h0.sq == b) = true := by rw [beq_iff_eq, ho.sq, hq.1]
      obtain ⟨hs2, e, h3⟩ := give_HS hsz (by simpa using hl) (fun t y L g1 g2 => by have := hK (t + 1) y L (by simpa using g1) (by simpa using g2); rwa [show i + (t + 1) = i + 1 + t by omega] at this) hq.2 ht
      refine ⟨hs2, ?_, ?_⟩
      · simp only [giveS, hs1, hd, Bool.and_self, cond_true, e, whole_note (hsz i) ho]
        rw [List.take_succ_cons]
        congr 2
        show b + 1 + (lead KK : Int) = b + ((lead KK + 1 : Nat) : Int)
        omega
      · rw [show i + (lead KK + 1) = i + 1 + lead KK by omega]
        simpa using h3
    · exact absurd (staK_nil (hsz i)) hns
theorem hsB_HS {sz : Nat → Nat} (hsz : ∀ i, 1 ≤ sz i) {nx : Int} : ∀ {xs : List Nt} {KK : List (List Nat)} {i : Nat} {b : Int} {hs : List Hf} {prev : Option Int}, (∀ t x K, xs[t]? = some x → KK[t]? = some K → OkK x (sz (i + t)) K ∧ (staK x (sz (i + t)) K → b + t < nx + 4 ∧ (b + t = nx → K ≠ []))) → (∀ x ∈ xs, noteB x = true) → SqS b xs → HS sz i xs KK hs → nx ≤ b → (∀ e, prev = some e → e < b) →
 hsB nx prev hs = true
 | [], KK, i, b, hs, prev, hK, hn, hq, h, hb, hp => by simp only [HS] at h; subst h; rfl
 | x :: xs, [], i, b, hs, prev, hK, hn, hq, h, hb, hp => by simp only [HS] at h; subst h; rfl
 | x :: xs, K :: KK, i, b, hs, prev, hK, hn, hq, h, hb, hp => by
  have hok := hK 0 x K rfl rfl
  have hx := hn x List.mem_cons_self
  have hK2 : ∀ t y L, xs[t]? = some y → KK[t]? = some L → OkK y (sz (i + 1 + t)) L ∧ (staK y (sz (i + 1 + t)) L → b + 1 + t < nx + 4 ∧ (b + 1 + t = nx → L ≠ [])) := fun t y L g1 g2 => by
   have := hK (t + 1) y L (by simpa using g1) (by simpa using g2)
   rw [show i + (t + 1) = i + 1 + t by omega] at this
   refine ⟨this.1, fun g3 => ?_⟩
   have h4 := this.2 g3
   refine ⟨by have := h4.1; omega, fun g5 => h4.2 (by omega)⟩
  have hn2 : ∀ y ∈ xs, noteB y = true := fun y hy => hn y (List.mem_cons_of_mem _ hy)
  simp only [HS] at h
  rcases h with ⟨hst, h0, r, rfl, ho, ht⟩ | ⟨hns, ht⟩
  · have h2 := hok.2 hst
    have hsq : h0.sq = b := by rw [ho.sq, hq.1]
    have hd : b = nx → doneB h0 = false := fun e => by
     cases hd : doneB h0
     · rfl
     · exact absurd ((done_iff (hsz i) hok.1 hst ho).1 hd) (h2.2 (by simpa using e))
    have hx2 := hx
    simp only [noteB, Bool.and_eq_true, decide_eq_true_eq] at hx2
    have h65 := inW_t hx2.2.1
    simp only [hsB, Bool.and_eq_true, decide_eq_true_eq, Bool.or_eq_true, Bool.not_eq_true']
    refine ⟨by omega, ?_, ?_, ho.half hx (staK_ne (hsz i) hst), ?_, hsB_HS hsz hK2 hn2 hq.2 ht (by omega) (fun e he => by cases he; omega)⟩
    · have := h2.1; have := hq.1; rw [hsq]; simp at this ⊢; omega
    · cases prev with
      | none => rfl
      | some e => have := hp e rfl; simp; omega
    · by_cases e : b = nx
      · exact .inr (hd e)
      · exact .inl (by omega)
  · exact hsB_HS hsz hK2 hn2 hq.2 ht (by omega) (fun e he => by have := hp e he; omega)
end Go.Proofs.Flt
end
section
/- Chapter 19: a joiner into which pieces of messages are put, one by one. -/
namespace Go.Proofs.Flt
open Go.Ab
set_option linter.unusedVariables false
structure Cuts (b : Int) (ns : List Nt) (sz : Nat → Nat) : Prop where
 b0 : 0 ≤ b
 bn : b + ns.length ≤ 65536
 sq : SqS b ns
 ok : ∀ x ∈ ns, noteB x = true
 s1 : ∀ i, 1 ≤ sz i
 s2 : ∀ i, sz i ≤ 1100
structure Inv (b : Int) (ns : List Nt) (sz : Nat → Nat) (f : Nat) (KK : List (List Nat)) (j : Jn) : Prop where
 nx : j.nx = b + f
 fle : f ≤ ns.length
 len : (ns.drop f).length = KK.length
 hs : HS sz f (ns.drop f) KK j.hs
 ok : ∀ t x K, (ns.drop f)[t]? = some x → KK[t]? = some K → OkK x (sz (f + t)) K ∧ (staK x (sz (f + t)) K → t < 4 ∧ (t = 0 → K ≠ []))
theorem SqS_drop : ∀ {xs : List Nt} {b : Int} (f : Nat), SqS b xs → SqS (b + f) (xs.drop f)
 | xs, b, 0, h => by simpa using h
 | [], b, f + 1, h => by simp [SqS]
 | x :: xs, b, f + 1, h => by
  have := SqS_drop f h.2
  rw [List.drop_succ_cons, show b + ((f + 1 : Nat) : Int) = b + 1 + f by omega]; exact this
section
variable {b : Int} {ns : List Nt} {sz : Nat → Nat} {f : Nat} {KK : List (List Nat)} {j : Jn}
theorem Inv.jn (c : Cuts b ns sz) (h : Inv b ns sz f KK j) : jnB j = true := by
 have hfle := h.fle
 have h0 := c.b0
 have hn := c.bn
 simp only [jnB, Bool.and_eq_true]
 refine ⟨inW_of (by rw [h.nx]; omega), ?_⟩
 refine hsB_HS c.s1 (b := b + f) (fun t x K g1 g2 => ⟨(h.ok t x K g1 g2).1, fun g3 => ?_⟩) (fun x hx => c.ok x (List.mem_of_mem_drop hx)) (SqS_drop f c.sq) h.hs (by rw [h.nx]; exact Int.le_refl _) (fun e he => by cases he)
 have := (h.ok t x K g1 g2).2 g3
 rw [h.nx]
 exact ⟨by omega, fun g4 => this.2 (by omega)⟩
theorem drop_at {xs : List Nt} {f t : Nat} : (xs.drop f)[t]? = xs[f + t]? := by rw [List.getElem?_drop]
theorem read_piece (c : Cuts b ns sz) {i k : Nat} {x : Nt} (hx : ns[i]? = some x) (hk : k < cutN x.bd.length (sz i)) : readS (pcO (cutP x (sz i) k)) = (cutP x (sz i) k, 0) :=
 read_cut (cutP_ok (c.ok x (List.mem_of_getElem? hx)) ⟨c.s1 i, c.s2 i⟩ hk)
theorem sq_at (c : Cuts b ns sz) {i : Nat} {x : Nt} (hx : ns[i]? = some x) (k : Nat) : (cutP x (sz i) k).sq = b + i := SqS_at c.sq hx
theorem Inv.old (c : Cuts b ns sz) (h : Inv b ns sz f KK j) {i k : Nat} {x : Nt} (hx : ns[i]? = some x) (hk : k < cutN x.bd.length (sz i)) (hi : i < f) : takeS j (pcO (cutP x (sz i) k)) = (j, [], 0) := by
 have h1 := read_piece c hx hk
 have h2 := sq_at c hx k
 have h3 := h.nx
 simp only [takeS, h.jn c, h1, if_true]
 rw [if_pos (by rw [h2, h3]; omega)]
theorem Inv.again (c : Cuts b ns sz) (h : Inv b ns sz f KK j) {t k : Nat} {x : Nt} {K : List Nat} (hx : ns[f + t]? = some x) (hK : KK[t]? = some K) (hk : k < cutN x.bd.length (sz (f + t))) (h2 : k ∉ K) : takeS j (pcO (cutP x (sz (f + t)) k)) = (j, [], 0) := by
 have e1 := read_piece c hx hk
 have e2 := sq_at c hx k
 have e3 := h.nx
 have hx2 : (ns.drop f)[t]? = some x := by rw [drop_at]; exact hx
 have ht := ((h.ok t x K hx2 hK).2 ⟨k, hk, h2⟩).1
 have e4 := again_HS c.s1 (SqS_drop f c.sq) h.hs hx2 hK hk h2
 obtain ⟨hs2, g1, g2⟩ := give_HS c.s1 h.len (fun t x K a1 a2 => (h.ok t x K a1 a2).1) (SqS_drop f c.sq) h.hs
 have hl : lead KK = 0 := by
  cases hKK : KK with
  | nil => rfl
  | cons L r =>
   simp only [lead]
   cases hc : (L.length == 0)
   · rfl
   · exfalso
     have hL : L = [] := List.eq_nil_of_length_eq_zero (beq_iff_eq.1 hc)
     have hlen := h.len
     rw [hKK] at hlen
     obtain ⟨y, hy⟩ : ∃ y, (ns.drop f)[0]? = some y := ⟨_, List.getElem?_eq_getElem (by rw [hlen]; simp)⟩
     have := (h.ok 0 y L hy (by rw [hKK]; rfl)).2 (by rw [hL]; exact staK_nil (c.s1 _))
     exact this.2 rfl hL
 rw [hl] at g1 g2
 have g3 : giveS (b + f) j.hs = (j, []) := by
  have hh : ∀ hs : List Hf, (∀ h ∈ hs, b + f ≤ h.sq) → giveS (b + f) hs = (⟨b + (f : Int) + ((0 : Nat) : Int), hs2⟩, List.take 0 (ns.drop f)) → hs = hs2 := fun hs _ he => by
   cases hs with
   | nil => simp only [giveS] at he; have := congrArg (fun z => z.1.hs) he; exact this
   | cons a r =>
    simp only [giveS] at he
    cases hc : ((a.sq == b + (f : Int)) && doneB a)
    · rw [hc, cond_false] at he; exact congrArg (fun z => z.1.hs) he
    · rw [hc, cond_true] at he
      have := congrArg (fun z => z.2.length) he
      simp at this
  have := hh j.hs (HS_sq (SqS_drop f c.sq) h.hs) g1
  rw [g1, ← this]
  obtain ⟨nx, hs⟩ := j
  have e5 : nx = b + f := e3
  rw [e5]; simp
 simp only [takeS, h.jn c, e1, if_true]
 rw [if_neg (by rw [e2, e3]; omega), if_neg (by rw [e2, e3]; omega), e4]
 simp only [e3, g3]
theorem Inv.step (c : Cuts b ns sz) (h : Inv b ns sz f KK j) {t k : Nat} {x : Nt} {K K2 : List Nat} (ht : t < 4) (hx : ns[f + t]? = some x) (hK : KK[t]? = some K) (hk : k ∈ K) (hnd : K2.Nodup) (h2 : ∀ l, l ∈ K2 ↔ l ∈ K ∧ l ≠ k) :
 ∃ j2, takeS j (pcO (cutP x (sz (f + t)) k)) = (j2, (ns.drop f).take (lead (KK.set t K2)), 0) ∧ Inv b ns sz (f + lead (KK.set t K2)) ((KK.set t K2).drop (lead (KK.set t K2))) j2 := by
 have hx2 : (ns.drop f)[t]? = some x := by rw [drop_at]; exact hx
 have hok := h.ok t x K hx2 hK
 have hkc := hok.1.lt k hk
 have e1 := read_piece c hx hkc
 have e2 := sq_at c hx k
 have e3 := h.nx
 have htl : t < KK.length := (List.getElem?_eq_some_iff.1 hK).1
 obtain ⟨hs2, p1, p2⟩ := put_HS c.s1 (SqS_drop f c.sq) h.hs hx2 hK hkc h2
 have hok2 : ∀ u y L, (ns.drop f)[u]? = some y → (KK.set t K2)[u]? = some L → OkK y (sz (f + u)) L ∧ (staK y (sz (f + u)) L → u < 4) := fun u y L g1 g2 => by
  by_cases e : u = t
  · subst e
    rw [List.getElem?_set_self htl] at g2
    cases g2
    rw [hx2] at g1
    cases g1
    exact ⟨⟨hnd, fun l hl => hok.1.lt l ((h2 l).1 hl).1⟩, fun _ => ht⟩
  · rw [List.getElem?_set_ne (fun h => e h.symm)] at g2
    have := h.ok u y L g1 g2
    exact ⟨this.1, fun g3 => (this.2 g3).1⟩
 obtain ⟨hs3, g1, g2⟩ := give_HS c.s1 (by rw [List.length_set]; exact h.len) (fun u y L a1 a2 => (hok2 u y L a1 a2).1) (SqS_drop f c.sq) p2
 refine ⟨⟨b + f + lead (KK.set t K2), hs3⟩, ?_, ?_⟩
 · simp only [takeS, h.jn c, e1, if_true]
   rw [if_neg (by rw [e2, e3]; omega), if_neg (by rw [e2, e3]; omega), p1]
   simp only [e3, g1]
 · have hll : ∀ M : List (List Nat), lead M ≤ M.length := fun M => by
    induction M with
    | nil => exact Nat.le_refl _
    | cons a r ih => simp only [lead]; cases a.length == 0 <;> simp only [cond_true, cond_false, List.length_cons] <;> omega
   have hlead := hll (KK.set t K2)
   have hlen := h.len
   rw [List.length_set] at hlead
   rw [List.length_drop] at hlen
   have hfle := h.fle
   refine ⟨by show b + (f : Int) + _ = b + ((f + lead (KK.set t K2) : Nat) : Int); omega, by omega, ?_, by rw [← List.drop_drop]; exact g2, fun u y L a1 a2 => ?_⟩
   · rw [List.length_drop, List.length_drop, List.length_set]; omega
   · rw [← List.drop_drop, List.getElem?_drop] at a1
     rw [List.getElem?_drop] at a2
     have := hok2 (lead (KK.set t K2) + u) y L a1 a2
     rw [show f + lead (KK.set t K2) + u = f + (lead (KK.set t K2) + u) by omega]
     refine ⟨this.1, fun g3 => ⟨by have := this.2 g3; omega, fun g4 => ?_⟩⟩
     subst g4
     have hne : ∀ (M : List (List Nat)) (L : List Nat), M[lead M + 0]? = some L → L ≠ [] := fun M => by
      induction M with
      | nil => intro L hL; simp at hL
      | cons a r ih =>
       intro L hL
       simp only [lead] at hL
       cases hc : (a.length == 0)
       · rw [hc, cond_false] at hL
         simp at hL
         subst hL
         rintro rfl
         cases hc
       · rw [hc, cond_true] at hL
         exact ih L (by simpa using hL)
     exact hne _ _ a2
end
end Go.Proofs.Flt
end
section
/- Chapter 19: the pieces in Mixed's order. -/
namespace Go.Proofs.Flt
open Go.Ab
set_option linter.unusedVariables false
def strs (sz : Nat → Nat) : Nat → List Nt → List (List Nat) → Lls
 | i, x :: xs, K :: KK => K.map (fun k => pcO (cutP x (sz i) k)) :: strs sz (i + 1) xs KK
 | _, _, _ => []
theorem strs_len {sz : Nat → Nat} : ∀ {xs : List Nt} {KK : List (List Nat)} {i : Nat}, xs.length = KK.length → (strs sz i xs KK).length = KK.length
 | [], [], i, _ => rfl
 | [], K :: KK, i, h => by simp at h
 | x :: xs, [], i, h => by simp at h
 | x :: xs, K :: KK, i, h => by simp only [strs, List.length_cons]; rw [strs_len (by simpa using h)]
theorem strs_at {sz : Nat → Nat} : ∀ {t : Nat} {xs : List Nt} {KK : List (List Nat)} {i : Nat} {x : Nt} {K : List Nat}, xs[t]? = some x → KK[t]? = some K → (strs sz i xs KK)[t]? = some (K.map (fun k => pcO (cutP x (sz (i + t)) k)))
 | t, [], KK, i, x, K, h, _ => by simp at h
 | t, y :: xs, [], i, x, K, _, h => by simp at h
 | 0, y :: xs, L :: KK, i, x, K, h1, h2 => by simp at h1 h2; subst h1; subst h2; rfl
 | t + 1, y :: xs, L :: KK, i, x, K, h1, h2 => by
  have := strs_at (sz := sz) (i := i + 1) (t := t) (xs := xs) (KK := KK) (by simpa using h1) (by simpa using h2)
  simp only [strs, List.getElem?_cons_succ]
  rw [this, show i + 1 + t = i + (t + 1) by omega]
theorem strs_set {sz : Nat → Nat} {K2 : List Nat} : ∀ {t : Nat} {xs : List Nt} {KK : List (List Nat)} {i : Nat} {x : Nt}, xs[t]? = some x → (strs sz i xs KK).set t (K2.map (fun k => pcO (cutP x (sz (i + t)) k))) = strs sz i xs (KK.set t K2)
 | t, [], KK, i, x, h => by simp at h
 | t, y :: xs, [], i, x, _ => by simp [strs]
 | 0, y :: xs, L :: KK, i, x, h1 => by simp at h1; subst h1; rfl
 | t + 1, y :: xs, L :: KK, i, x, h1 => by
  have := strs_set (sz := sz) (K2 := K2) (i := i + 1) (t := t) (xs := xs) (KK := KK) (x := x) (by simpa using h1)
  simp only [strs, List.set]
  rw [← this, show i + 1 + t = i + (t + 1) by omega]
theorem strs_drop {sz : Nat → Nat} : ∀ {xs : List Nt} {KK : List (List Nat)} {i : Nat}, xs.length = KK.length → dropE (strs sz i xs KK) = strs sz (i + lead KK) (xs.drop (lead KK)) (KK.drop (lead KK))
 | [], [], i, _ => rfl
 | [], K :: KK, i, h => by simp at h
 | x :: xs, [], i, h => by simp at h
 | x :: xs, K :: KK, i, h => by
  simp only [strs, dropE, lead, List.length_map]
  cases hc : (K.length == 0)
  · rfl
  · rw [cond_true, cond_true, strs_drop (by simpa using h), show i + 1 + lead KK = i + (lead KK + 1) by omega]
    rfl
def full (sz : Nat → Nat) : Nat → List Nt → List (List Nat)
 | i, x :: xs => List.range (cutN x.bd.length (sz i)) :: full sz (i + 1) xs
 | _, [] => []
theorem full_len {sz : Nat → Nat} : ∀ {xs : List Nt} {i : Nat}, (full sz i xs).length = xs.length
 | [], i => rfl
 | x :: xs, i => by simp only [full, List.length_cons]; rw [full_len]
theorem full_at {sz : Nat → Nat} : ∀ {t : Nat} {xs : List Nt} {i : Nat} {x : Nt}, xs[t]? = some x → (full sz i xs)[t]? = some (List.range (cutN x.bd.length (sz (i + t))))
 | t, [], i, x, h => by simp at h
 | 0, y :: xs, i, x, h => by simp at h; subst h; rfl
 | t + 1, y :: xs, i, x, h => by
  have := full_at (sz := sz) (i := i + 1) (t := t) (xs := xs) (x := x) (by simpa using h)
  simp only [full, List.getElem?_cons_succ]
  rw [this, show i + 1 + t = i + (t + 1) by omega]
theorem mapN_range {α : Type} {g : Nat → α} : ∀ n, mapN g n = (List.range n).map g
 | 0 => rfl
 | n + 1 => by rw [mapN_s, mapN_range n, List.range_succ, List.map_append]; rfl
theorem lsS_strs (l : List Nt) (s : List UInt8) : lsS l s = strs (szK s) 0 l (full (szK s) 0 l) := by
 apply List.ext_getElem?
 intro t
 by_cases ht : t < l.length
 · obtain ⟨x, hx⟩ : ∃ x, l[t]? = some x := ⟨_, List.getElem?_eq_getElem ht⟩
   rw [strs_at hx (full_at hx)]
   unfold lsS
   rw [mapN_get ht]
   simp only [lsK, hx, cutL, mapN_range, Nat.zero_add]
 · rw [List.getElem?_eq_none (by rw [lsS_len]; omega), List.getElem?_eq_none (by rw [strs_len full_len.symm, full_len]; omega)]
theorem HS_full {sz : Nat → Nat} : ∀ {xs : List Nt} {i : Nat}, HS sz i xs (full sz i xs) []
 | [], i => by simp [HS]
 | x :: xs, i => by
  simp only [full, HS]
  refine .inr ⟨fun ⟨k, h1, h2⟩ => h2 (List.mem_range.2 h1), HS_full⟩
section
variable {b : Int} {ns : List Nt} {sz : Nat → Nat} {f : Nat} {KK : List (List Nat)} {j : Jn}
theorem Inv.start (c : Cuts b ns sz) : Inv b ns sz 0 (full sz 0 ns) ⟨b, []⟩ := by
 refine ⟨by simp, Nat.zero_le _, by rw [full_len]; rfl, HS_full, fun t x K h1 h2 => ?_⟩
 rw [List.drop_zero] at h1
 rw [full_at h1] at h2
 cases h2
 refine ⟨⟨List.nodup_range, fun k hk => List.mem_range.1 hk⟩, fun ⟨k, g1, g2⟩ => absurd (List.mem_range.2 g1) g2⟩
def Old (ns : List Nt) (sz : Nat → Nat) (f : Nat) (KK : List (List Nat)) (s : List UInt8) : Prop :=
 ∃ i x k, ns[i]? = some x ∧ k < cutN x.bd.length (sz i) ∧ s = pcO (cutP x (sz i) k) ∧ (i < f ∨ ∃ t K, i = f + t ∧ KK[t]? = some K ∧ k ∉ K)
theorem Old.take (c : Cuts b ns sz) (h : Inv b ns sz f KK j) {s : List UInt8} (ho : Old ns sz f KK s) : takeS j s = (j, [], 0) := by
 obtain ⟨i, x, k, h1, h2, rfl, h3 | ⟨t, K, rfl, h4, h5⟩⟩ := ho
 · exact h.old c h1 h2 h3
 · exact h.again c h1 h4 h2 h5
theorem pickK_4 (n : Nat) (LL : Lls) : pickK n LL < 4 := by
 have : pick1 n LL < 4 := by
  unfold pick1
  cases h : decide (4 ≤ n % LL.length)
  · have := of_decide_eq_false h
    rw [cond_false]; omega
  · rw [cond_true]; omega
 unfold pickK
 cases (LL.getD (pick1 n LL) []).length == 0 <;> simp only [cond_true, cond_false] <;> omega
theorem mix_step (c : Cuts b ns sz) (h : Inv b ns sz f KK j) (hne : KK ≠ []) (n : Nat) (hf : Frt (strs sz f (ns.drop f) KK)) :
 ∃ s f2 KK2 j2, takeS j s = (j2, (ns.drop f).take (f2 - f), 0) ∧ f ≤ f2 ∧ Inv b ns sz f2 KK2 j2 ∧ outK n ((strs sz f (ns.drop f) KK).getD (pickK n (strs sz f (ns.drop f) KK)) []) = (bif n % 3 == 0 then [s, s] else [s]) ∧
  dropE (setK n (strs sz f (ns.drop f) KK)) = strs sz f2 (ns.drop f2) KK2 ∧ Old ns sz f2 KK2 s ∧ ∀ s2, Old ns sz f KK s2 → Old ns sz f2 KK2 s2 := by
 have hlen := h.len
 have hsl := strs_len (sz := sz) (i := f) hlen
 have hLne : strs sz f (ns.drop f) KK ≠ [] := fun h0 => by
  rw [h0] at hsl
  exact hne (List.eq_nil_of_length_eq_zero hsl.symm)
 have ht4 := pickK_4 n (strs sz f (ns.drop f) KK)
 have htl := pickK_lt (n := n) hLne
 have hnn := pickK_ne (n := n) hLne hf
 have hset : setK n (strs sz f (ns.drop f) KK) = (strs sz f (ns.drop f) KK).set (pickK n (strs sz f (ns.drop f) KK)) (remK n ((strs sz f (ns.drop f) KK).getD (pickK n (strs sz f (ns.drop f) KK)) [])) := rfl
 generalize pickK n (strs sz f (ns.drop f) KK) = t at *
 rw [hsl] at htl
 obtain ⟨K, hK⟩ : ∃ K, KK[t]? = some K := ⟨_, List.getElem?_eq_getElem htl⟩
 obtain ⟨x, hx⟩ : ∃ x, (ns.drop f)[t]? = some x := ⟨_, List.getElem?_eq_getElem (by omega)⟩
 have hat := strs_at (sz := sz) (i := f) hx hK
 have hgd : (strs sz f (ns.drop f) KK).getD t [] = K.map (fun k => pcO (cutP x (sz (f + t)) k)) := by simp only [List.getD_eq_getElem?_getD, hat, Option.getD_some]
 rw [hgd] at hset hnn ⊢
 have hKl : 0 < K.length := by
  rcases Nat.eq_zero_or_pos K.length with h0 | h0
  · exact absurd (by rw [List.eq_nil_of_length_eq_zero h0]; rfl) hnn
  · exact h0
 have ha : atK n (K.map (fun k => pcO (cutP x (sz (f + t)) k))) < K.length := by
  have := Nat.mod_lt (n / 8) hKl
  simpa [atK] using this
 have hrem : remK n (K.map (fun k => pcO (cutP x (sz (f + t)) k))) = (K.take (atK n (K.map (fun k => pcO (cutP x (sz (f + t)) k)))) ++ K.drop (atK n (K.map (fun k => pcO (cutP x (sz (f + t)) k))) + 1)).map (fun k => pcO (cutP x (sz (f + t)) k)) := by
  simp only [remK, List.map_append, List.map_take, List.map_drop]
 obtain ⟨k, hk⟩ : ∃ k, K[atK n (K.map (fun k => pcO (cutP x (sz (f + t)) k)))]? = some k := ⟨_, List.getElem?_eq_getElem ha⟩
 have hout : outK n (K.map (fun k => pcO (cutP x (sz (f + t)) k))) = bif n % 3 == 0 then [pcO (cutP x (sz (f + t)) k), pcO (cutP x (sz (f + t)) k)] else [pcO (cutP x (sz (f + t)) k)] := by
  simp only [outK, List.getD_eq_getElem?_getD, List.getElem?_map, hk, Option.map_some, Option.getD_some]
 rw [hrem] at hset
 generalize atK n (K.map (fun k => pcO (cutP x (sz (f + t)) k))) = a at *
 have hok := h.ok t x K hx hK
 have hsplit : K = K.take a ++ k :: K.drop (a + 1) := by
  have h1 := List.getElem?_eq_some_iff.1 hk
  rw [← h1.2, ← List.drop_eq_getElem_cons h1.1, List.take_append_drop]
 have hnd := hok.1.nd
 rw [hsplit] at hnd
 have hnd2 : (K.take a ++ K.drop (a + 1)).Nodup := by
  rw [List.nodup_append] at hnd ⊢
  obtain ⟨d1, d2, d3⟩ := hnd
  rw [List.nodup_cons] at d2
  exact ⟨d1, d2.2, fun y hy z hz => d3 y hy z (List.mem_cons_of_mem _ hz)⟩
 have hiff : ∀ l, l ∈ K.take a ++ K.drop (a + 1) ↔ l ∈ K ∧ l ≠ k := fun l => by
  rw [List.nodup_append] at hnd
  obtain ⟨d1, d2, d3⟩ := hnd
  rw [List.nodup_cons] at d2
  constructor
  · intro hl
    rcases List.mem_append.1 hl with hl | hl
    · refine ⟨List.mem_of_mem_take hl, d3 l hl k List.mem_cons_self⟩
    · refine ⟨List.mem_of_mem_drop hl, fun e => d2.1 (e ▸ hl)⟩
  · rintro ⟨hl, hlk⟩
    rw [hsplit] at hl
    rcases List.mem_append.1 hl with hl | hl
    · exact List.mem_append.2 (.inl hl)
    · rcases List.mem_cons.1 hl with hl | hl
      · exact absurd hl hlk
      · exact List.mem_append.2 (.inr hl)
 have hkK : k ∈ K := List.mem_of_getElem? hk
 have hx1 : ns[f + t]? = some x := by rw [← drop_at]; exact hx
 obtain ⟨j2, e1, e2⟩ := h.step c ht4 hx1 hK hkK hnd2 hiff
 generalize hK2 : K.take a ++ K.drop (a + 1) = K2 at *
 have hss := strs_set (sz := sz) (K2 := K2) (KK := KK) (i := f) hx
 have hmono : ∀ (i k' : Nat), (i < f ∨ ∃ u L, i = f + u ∧ KK[u]? = some L ∧ k' ∉ L) → (i < f + lead (KK.set t K2) ∨ ∃ u L, i = f + lead (KK.set t K2) + u ∧ ((KK.set t K2).drop (lead (KK.set t K2)))[u]? = some L ∧ k' ∉ L) := fun i k' hh => by
  rcases hh with hh | ⟨u, L, rfl, h5, h6⟩
  · exact .inl (by omega)
  · by_cases hu : u < lead (KK.set t K2)
    · exact .inl (by omega)
    · refine .inr ?_
      by_cases e : u = t
      · subst e
        rw [hK] at h5
        cases h5
        refine ⟨u - lead (KK.set u K2), K2, by omega, ?_, fun h7 => h6 ((hiff _).1 h7).1⟩
        rw [List.getElem?_drop, show lead (KK.set u K2) + (u - lead (KK.set u K2)) = u by omega, List.getElem?_set_self htl]
      · refine ⟨u - lead (KK.set t K2), L, by omega, ?_, h6⟩
        rw [List.getElem?_drop, show lead (KK.set t K2) + (u - lead (KK.set t K2)) = u by omega, List.getElem?_set_ne (fun e2 => e e2.symm)]
        exact h5
 refine ⟨_, f + lead (KK.set t K2), (KK.set t K2).drop (lead (KK.set t K2)), j2, by rw [Nat.add_sub_cancel_left]; exact e1, Nat.le_add_right _ _, e2, hout, ?_, ?_, fun s2 ho => ?_⟩
 · rw [hset, hss, strs_drop (by rw [List.length_set]; exact hlen), List.drop_drop]
 · refine ⟨f + t, x, k, hx1, hok.1.lt k hkK, rfl, ?_⟩
   by_cases hu : t < lead (KK.set t K2)
   · exact .inl (by omega)
   · refine .inr ⟨t - lead (KK.set t K2), K2, by omega, ?_, fun h7 => ((hiff _).1 h7).2 rfl⟩
     rw [List.getElem?_drop, show lead (KK.set t K2) + (t - lead (KK.set t K2)) = t by omega, List.getElem?_set_self htl]
 · obtain ⟨i, y, l, h3, h4, h5, h6⟩ := ho
   exact ⟨i, y, l, h3, h4, h5, hmono i l h6⟩
end
end Go.Proofs.Flt
end
section
/- Chapter 19: all pieces in Mixed's order; any part of them. -/
namespace Go.Proofs.Flt
open Go.Ab
set_option linter.unusedVariables false
def runT : Jn → List (List UInt8) → Option (Jn × List Nt)
 | j, [] => some (j, [])
 | j, s :: r => if (takeS j s).2.2 = 0 then (runT (takeS j s).1 r).map (fun u => (u.1, (takeS j s).2.1 ++ u.2)) else none
theorem runT_cons {j j2 j3 : Jn} {s : List UInt8} {r : List (List UInt8)} {n1 n2 : List Nt} (h1 : takeS j s = (j2, n1, 0)) (h2 : runT j2 r = some (j3, n2)) : runT j (s :: r) = some (j3, n1 ++ n2) := by
 simp only [runT, h1, if_true, h2, Option.map_some]
theorem take_cat {α : Type} {l : List α} {f f2 f3 : Nat} (h1 : f ≤ f2) (h2 : f2 ≤ f3) : (l.drop f).take (f2 - f) ++ (l.drop f2).take (f3 - f2) = (l.drop f).take (f3 - f) := by
 have h : l.drop f2 = (l.drop f).drop (f2 - f) := by rw [List.drop_drop]; congr 1; omega
 rw [h, show f3 - f = (f2 - f) + (f3 - f2) by omega, List.take_add]
section
variable {b : Int} {ns : List Nt} {sz : Nat → Nat}
theorem mix_run (c : Cuts b ns sz) (od : List UInt8) : ∀ (m : Nat) (f : Nat) (KK : List (List Nat)) (j : Jn) (st : Nat), tot (strs sz f (ns.drop f) KK) = m → Inv b ns sz f KK j → Frt (strs sz f (ns.drop f) KK) → ∀ pre post, mixL od m (strs sz f (ns.drop f) KK) st = pre ++ post →
 ∃ f2 KK2 j2, runT j pre = some (j2, (ns.drop f).take (f2 - f)) ∧ f ≤ f2 ∧ Inv b ns sz f2 KK2 j2 ∧ (∀ s ∈ pre, Old ns sz f2 KK2 s) ∧ (∀ s, Old ns sz f KK s → Old ns sz f2 KK2 s) ∧ (post = [] → KK2 = []) := by
 intro m
 induction m with
 | zero =>
  intro f KK j st ht h hf pre post hm
  have hKK : KK = [] := by
   rcases Classical.em (KK = []) with h0 | h0
   · exact h0
   · exfalso
     have hsl := strs_len (sz := sz) (i := f) h.len
     cases hS : strs sz f (ns.drop f) KK with
     | nil => rw [hS] at hsl; exact h0 (List.eq_nil_of_length_eq_zero hsl.symm)
     | cons x r =>
      have hx := hf x r hS
      rw [hS] at ht
      simp only [tot, List.map_cons, List.sum_cons] at ht
      exact hx (List.eq_nil_of_length_eq_zero (by omega))
  have he : pre = [] ∧ post = [] := by
   have : pre ++ post = [] := by rw [← hm]; rfl
   simpa using this
  obtain ⟨rfl, rfl⟩ := he
  exact ⟨f, KK, j, by simp [runT], Nat.le_refl _, h, (fun s hs => by cases hs), fun s hs => hs, fun _ => hKK⟩
 | succ m ih =>
  intro f KK j st ht h hf pre post hm
  have hsl := strs_len (sz := sz) (i := f) h.len
  by_cases h0 : KK = []
  · exfalso
    rw [h0] at hsl
    rw [h0, List.eq_nil_of_length_eq_zero hsl] at ht
    cases ht
  have hLne : strs sz f (ns.drop f) KK ≠ [] := fun e => by rw [e] at hsl; exact h0 (List.eq_nil_of_length_eq_zero hsl.symm)
  obtain ⟨s, f2, KK2, j2, e1, e2, e3, e4, e5, e6, e7⟩ := mix_step c h h0 (orK od st) hf
  have htot := setK_tot (n := orK od st) hLne hf
  have hfr := dropE_frt (setK (orK od st) (strs sz f (ns.drop f) KK))
  have hstep := mixL_step (od := od) (st := st) hLne hf
  rw [ht, hm, e4, e5] at hstep
  rw [e5] at htot hfr
  have ht2 : tot (strs sz f2 (ns.drop f2) KK2) = m := by omega
  rw [ht2] at hstep
  have ih := ih f2 KK2 j2 (st + 1) ht2 e3 hfr
  have again := Old.take c e3 e6
  have nil_case : post ≠ [] → pre = [] → ∃ f3 KK3 j3, runT j pre = some (j3, (ns.drop f).take (f3 - f)) ∧ f ≤ f3 ∧ Inv b ns sz f3 KK3 j3 ∧ (∀ s ∈ pre, Old ns sz f3 KK3 s) ∧ (∀ s, Old ns sz f KK s → Old ns sz f3 KK3 s) ∧ (post = [] → KK3 = []) := fun hp hpre => by
   subst hpre
   exact ⟨f, KK, j, by simp [runT], Nat.le_refl _, h, (fun s hs => by cases hs), fun s hs => hs, fun e => absurd e hp⟩
  cases hc : (orK od st % 3 == 0)
  · rw [hc, cond_false] at hstep
    cases pre with
    | nil => exact nil_case (by rintro rfl; simp at hstep) rfl
    | cons a pre =>
     rw [List.cons_append, List.cons_append, List.nil_append] at hstep
     injection hstep with g1 g2
     subst g1
     obtain ⟨f3, KK3, j3, i1, i2, i3, i4, i5, i6⟩ := ih pre post g2.symm
     refine ⟨f3, KK3, j3, ?_, by omega, i3, fun s2 hs2 => ?_, fun s2 hs2 => i5 s2 (e7 s2 hs2), i6⟩
     · rw [runT_cons e1 i1, take_cat e2 i2]
     · rcases List.mem_cons.1 hs2 with rfl | hs2
       · exact i5 _ e6
       · exact i4 s2 hs2
  · rw [hc, cond_true] at hstep
    cases pre with
    | nil => exact nil_case (by rintro rfl; simp at hstep) rfl
    | cons a pre =>
     rw [List.cons_append, List.cons_append, List.cons_append, List.nil_append] at hstep
     injection hstep with g1 g2
     subst g1
     cases pre with
     | nil =>
      refine ⟨f2, KK2, j2, ?_, e2, e3, fun s2 hs2 => ?_, e7, fun e => ?_⟩
      · have := runT_cons (r := []) e1 (by rfl : runT j2 [] = some (j2, []))
        rw [this, List.append_nil]
      · rw [List.mem_singleton] at hs2; subst hs2; exact e6
      · subst e; simp at g2
     | cons a2 pre =>
      rw [List.cons_append] at g2
      injection g2 with g3 g4
      subst g3
      obtain ⟨f3, KK3, j3, i1, i2, i3, i4, i5, i6⟩ := ih pre post g4.symm
      refine ⟨f3, KK3, j3, ?_, by omega, i3, fun s2 hs2 => ?_, fun s2 hs2 => i5 s2 (e7 s2 hs2), i6⟩
      · rw [runT_cons e1 (runT_cons again i1), List.nil_append, take_cat e2 i2]
      · rcases List.mem_cons.1 hs2 with rfl | hs2
        · exact i5 _ e6
        · rcases List.mem_cons.1 hs2 with rfl | hs2
          · exact i5 _ e6
          · exact i4 s2 hs2
theorem mixS_run (s od : List UInt8) (c : Cuts b ns (szK s)) (pre post : List (List UInt8)) (h : mixS ns s od = pre ++ post) :
 ∃ f2 KK2 j2, runT ⟨b, []⟩ pre = some (j2, ns.take f2) ∧ Inv b ns (szK s) f2 KK2 j2 ∧ (∀ s2 ∈ pre, takeS j2 s2 = (j2, [], 0)) ∧ (post = [] → j2 = ⟨b + ns.length, []⟩ ∧ f2 = ns.length) := by
 have hL := lsS_strs ns s
 unfold mixS at h
 rw [hL] at h
 have hfr := lsS_frt (sz := s) c.ok
 rw [hL] at hfr
 obtain ⟨f2, KK2, j2, a1, a2, a3, a4, a5, a6⟩ := mix_run c od _ 0 _ ⟨b, []⟩ 0 rfl (Inv.start c) hfr pre post h
 refine ⟨f2, KK2, j2, by simpa using a1, a3, fun s2 hs => Old.take c a3 (a4 s2 hs), fun hp => ?_⟩
 have hk := a6 hp
 subst hk
 have hlen := a3.len
 rw [List.length_drop] at hlen
 have hle := a3.fle
 have hf : f2 = ns.length := by simp at hlen; omega
 subst hf
 have hhs := a3.hs
 have hnx := a3.nx
 rw [List.drop_length] at hhs
 simp only [HS] at hhs
 obtain ⟨nx, hs⟩ := j2
 dsimp only at hhs hnx
 subst hhs; subst hnx
 exact ⟨rfl, rfl⟩
end
end Go.Proofs.Flt
end
section
/- Chapter 19: the joiners on the way; bounds of valid joiners. -/
namespace Go.Proofs.Flt
open Go.Ab
set_option linter.unusedVariables false
theorem runT_snoc {s : List UInt8} : ∀ {pre : List (List UInt8)} {j : Jn}, runT j (pre ++ [s]) = (runT j pre).bind fun u => if (takeS u.1 s).2.2 = 0 then some ((takeS u.1 s).1, u.2 ++ (takeS u.1 s).2.1) else none
 | [], j => by
  simp only [List.nil_append, runT, Option.bind_some]
  split <;> simp
 | a :: pre, j => by
  simp only [List.cons_append, runT]
  split
  · rw [runT_snoc]
    cases runT (takeS j a).1 pre with
    | none => rfl
    | some u =>
     simp only [Option.bind_some, Option.map_some]
     split
     · simp
     · simp
  · rfl
def JJ (b : Int) (L : List (List UInt8)) : Nat → Jn
 | 0 => ⟨b, []⟩
 | i + 1 => (takeS (JJ b L i) (L.getD i [])).1
def NN (b : Int) (L : List (List UInt8)) : Nat → List Nt
 | 0 => []
 | i + 1 => NN b L i ++ (takeS (JJ b L i) (L.getD i [])).2.1
theorem runT_JJ {b : Int} {L : List (List UInt8)} : ∀ {i : Nat}, i ≤ L.length → (∃ u, runT ⟨b, []⟩ (L.take i) = some u) → runT ⟨b, []⟩ (L.take i) = some (JJ b L i, NN b L i) ∧ ∀ k, k < i → (takeS (JJ b L k) (L.getD k [])).2.2 = 0
 | 0, _, _ => ⟨rfl, fun k hk => by omega⟩
 | i + 1, hi, ⟨u, hu⟩ => by
  obtain ⟨s, hs⟩ : ∃ s, L[i]? = some s := ⟨_, List.getElem?_eq_getElem (by omega)⟩
  have ht : L.take (i + 1) = L.take i ++ [s] := by rw [List.take_add_one, hs]; rfl
  rw [ht, runT_snoc] at hu ⊢
  cases hr : runT ⟨b, []⟩ (L.take i) with
  | none => rw [hr] at hu; cases hu
  | some v =>
   have ih := runT_JJ (b := b) (L := L) (i := i) (by omega) ⟨v, hr⟩
   rw [hr] at hu ih
   have hv := Option.some.inj ih.1
   subst hv
   have hg : L.getD i [] = s := by simp only [List.getD_eq_getElem?_getD, hs, Option.getD_some]
   simp only [Option.bind_some] at hu ⊢
   split at hu
   · rename_i he
     rw [if_pos he]
     refine ⟨by simp only [JJ, NN, hg], fun k hk => ?_⟩
     rcases Nat.lt_succ_iff_lt_or_eq.1 hk with h | h
     · exact ih.2 k h
     · subst h; rw [hg]; exact he
   · cases hu
section
variable {b : Int} {ns : List Nt}
theorem way (s od : List UInt8) (c : Cuts b ns (szK s)) {L : List (List UInt8)} (hL : L = mixS ns s od) {i : Nat} (hi : i ≤ L.length) :
 jnB (JJ b L i) = true ∧ (∀ k, k < i → (takeS (JJ b L k) (L.getD k [])).2.2 = 0) ∧ (∀ k, k < i → takeS (JJ b L i) (L.getD k []) = (JJ b L i, [], 0)) ∧ (i = L.length → JJ b L i = ⟨b + ns.length, []⟩ ∧ NN b L i = ns) ∧ ∃ f, NN b L i = ns.take f := by
 obtain ⟨f2, KK2, j2, a1, a2, a3, a4⟩ := mixS_run s od c (L.take i) (L.drop i) (by rw [← hL, List.take_append_drop])
 have h := runT_JJ (b := b) hi ⟨_, a1⟩
 rw [a1] at h
 have he := Option.some.inj h.1
 have e1 : j2 = JJ b L i := congrArg Prod.fst he
 have e2 : ns.take f2 = NN b L i := congrArg Prod.snd he
 subst e1
 refine ⟨a2.jn c, h.2, fun k hk => ?_, fun hil => ?_, f2, e2.symm⟩
 · obtain ⟨x, hx⟩ : ∃ x, L[k]? = some x := ⟨_, List.getElem?_eq_getElem (by omega)⟩
   have hg : L.getD k [] = x := by simp only [List.getD_eq_getElem?_getD, hx, Option.getD_some]
   rw [hg]
   refine a3 x (List.mem_of_getElem? (i := k) ?_)
   rw [List.getElem?_take, if_pos hk]; exact hx
 · obtain ⟨g1, g2⟩ := a4 (by rw [hil, List.drop_length])
   refine ⟨g1, ?_⟩
   rw [← e2, g2, List.take_length]
end
theorem srt_len {ln : Int} : ∀ {lo : Int} {l : List (Int × Int)}, srt ln lo l → lo ≤ ln → (l.length : Int) ≤ ln - lo
 | lo, [], _, h => by simp; omega
 | lo, x :: r, hs, h => by
  obtain ⟨s1, s2, s3, s4⟩ := hs
  have := srt_len s4 s3
  simp only [List.length_cons]; omega
theorem half_bnd {h : Hf} (hh : halfB h = true) : h.got.length ≤ 4001 ∧ h.bd.length ≤ 4000 := by
 simp only [halfB, Bool.and_eq_true, beq_iff_eq] at hh
 obtain ⟨h1, h2, h3, h4, h5, h6⟩ := hh
 have h2 := inW_t h2
 have := srt_len (gotB_srt.1 h5) (by omega)
 omega
theorem hsB_bnd {nx : Int} : ∀ {hs : List Hf} {e : Int}, hsB nx (some e) hs = true → (hs = [] ∨ e + hs.length ≤ nx + 3) ∧ ∀ h ∈ hs, halfB h = true
 | [], e, _ => ⟨.inl rfl, fun h hh => by cases hh⟩
 | h :: r, e, hb => by
  simp only [hsB, Bool.and_eq_true, decide_eq_true_eq] at hb
  obtain ⟨h1, h2, h3, h4, h5, h6⟩ := hb
  obtain ⟨i1, i2⟩ := hsB_bnd h6
  refine ⟨.inr ?_, fun y hy => ?_⟩
  · rcases i1 with rfl | i1
    · simp only [List.length_cons, List.length_nil]; omega
    · simp only [List.length_cons]; omega
  · rcases List.mem_cons.1 hy with rfl | hy
    · exact h4
    · exact i2 y hy
theorem jnB_bnd {j : Jn} (hj : jnB j = true) : j.hs.length ≤ 4 ∧ ∀ h ∈ j.hs, h.got.length ≤ 4001 ∧ h.bd.length ≤ 4000 := by
 simp only [jnB, Bool.and_eq_true] at hj
 obtain ⟨h1, h2⟩ := hj
 cases hh : j.hs with
 | nil => exact ⟨by simp, fun h hx => by cases hx⟩
 | cons a r =>
  rw [hh] at h2
  simp only [hsB, Bool.and_eq_true, decide_eq_true_eq] at h2
  obtain ⟨g1, g2, g3, g4, g5, g6⟩ := h2
  obtain ⟨i1, i2⟩ := hsB_bnd g6
  refine ⟨?_, fun y hy => ?_⟩
  · rcases i1 with rfl | i1
    · simp
    · simp only [List.length_cons]; omega
  · rcases List.mem_cons.1 hy with rfl | hy
    · exact half_bnd g4
    · exact half_bnd (i2 y hy)
end Go.Proofs.Flt
end
section
/- Chapter 19: a draft's messages have numbers that follow each other. -/
namespace Go.Proofs.Flt
open Go.Ab
set_option linter.unusedVariables false
theorem SqS_snoc : ∀ {xs : List Nt} {b : Int} {x : Nt}, SqS b xs → x.sq = b + xs.length → SqS b (xs ++ [x])
 | [], b, x, _, h => ⟨by simpa using h, trivial⟩
 | y :: xs, b, x, hs, h => ⟨hs.1, SqS_snoc hs.2 (by rw [h]; simp only [List.length_cons]; omega)⟩
theorem nts_sq {d : Dr} (hd : d.fi ≤ 65535) : ∀ k, SqS d.fi (nts d k) ∧ d.fi + (nts d k).length ≤ 65536 ∧ (d.fi + k ≤ 65536 → (nts d k).length = k)
 | 0 => ⟨trivial, by simp [nts]; omega, fun _ => rfl⟩
 | k + 1 => by
  obtain ⟨h1, h2, h3⟩ := nts_sq hd k
  unfold nts
  cases hc : decide (d.fi + k < 65536)
  · have := of_decide_eq_false hc
    rw [cond_false]
    exact ⟨h1, h2, fun h => by omega⟩
  · have := of_decide_eq_true hc
    have h4 := h3 (by omega)
    rw [cond_true]
    refine ⟨SqS_snoc h1 (by simp only [noteK, h4]), by rw [List.length_append, h4]; simp; omega, fun h => by rw [List.length_append, h4]; rfl⟩
theorem notes_cuts {d : Dr} (hd : d.ok = true) (s : List UInt8) : Cuts d.fi (notesS d) (szK s) := by
 have hd2 := hd
 simp only [Dr.ok, Bool.and_eq_true, decide_eq_true_eq] at hd2
 have h := nts_sq (d := d) hd2.1.2.1 (min 5 d.bo.length)
 exact ⟨hd2.1.1, h.2.1, h.1, fun x hx => (notes_ok hd x hx).1, fun i => (szK_rng s i).1, fun i => by have := (szK_rng s i).2; omega⟩
theorem take_len {j : Jn} {s : List UInt8} (h : (takeS j s).2.2 = 0) : s.length ≤ 1200 := by
 rcases Nat.lt_or_ge 1200 s.length with h1 | h1
 · exfalso
   have h2 : readS s = (zPc, 3) := by unfold readS; rw [if_pos h1]
   simp only [takeS, h2] at h
   cases hj : jnB j
   · rw [hj] at h; simp at h
   · rw [hj] at h; simp at h
 · exact h1
theorem mixL_len (od : List UInt8) : ∀ (m : Nat) (LL : Lls) (st : Nat), (mixL od m LL st).length ≤ 2 * m
 | 0, LL, st => by simp [mixL]
 | m + 1, LL, st => by
  simp only [mixL]
  cases LL.length == 0
  · rw [cond_false, List.length_append]
    have h1 := outK_len (orK od st) (LL.getD (pickK (orK od st) LL) [])
    have h2 := mixL_len od m (dropE (setK (orK od st) LL)) (st + 1)
    omega
  · simp
theorem mixS_len {ns : List Nt} (s od : List UInt8) (hl : ns.length ≤ 5) (hok : ∀ x ∈ ns, noteB x = true) : (mixS ns s od).length ≤ 40000 := by
 have h1 := mixL_len od (tot (lsS ns s)) (lsS ns s) 0
 have h2 := tot_le (m := 4000) (LL := lsS ns s) (fun x hx => (lsS_mem hok hx).2)
 rw [lsS_len] at h2
 unfold mixS
 omega
end Go.Proofs.Flt
end
