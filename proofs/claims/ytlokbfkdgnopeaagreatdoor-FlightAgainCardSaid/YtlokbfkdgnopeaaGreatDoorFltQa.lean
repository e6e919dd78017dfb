/- Texts laid as one: FltQ FltR. -/
import Derived.Test.YtlokbfkdgnopeaaGreatDoorFltGa
section
/- Chapter 19: a joiner of which is known what came. -/
namespace Go.Proofs.Flt
open Go.Ab
set_option linter.unusedVariables false
def SqS (b : Int) : List Nt → Prop
 | [] => True
 | x :: xs => x.sq = b ∧ SqS (b + 1) xs
def HS (sz : Nat → Nat) : Nat → List Nt → List (List Nat) → List Hf → Prop
 | i, x :: xs, K :: KK, hs => (staK x (sz i) K ∧ ∃ h t, hs = h :: t ∧ OkH x (GK x (sz i) K) h ∧ HS sz (i + 1) xs KK t) ∨ (¬ staK x (sz i) K ∧ HS sz (i + 1) xs KK hs)
 | _, _, _, hs => hs = []
theorem HS_sq {sz : Nat → Nat} : ∀ {xs : List Nt} {KK : List (List Nat)} {i : Nat} {b : Int} {hs : List Hf}, SqS b xs → HS sz i xs KK hs → ∀ h ∈ hs, b ≤ h.sq
 | [], _, i, b, hs, _, h, y, hy => by simp only [HS] at h; subst h; cases hy
 | x :: xs, [], i, b, hs, _, h, y, hy => by simp only [HS] at h; subst h; cases hy
 | x :: xs, K :: KK, i, b, hs, hq, h, y, hy => by
  simp only [HS] at h
  rcases h with ⟨_, h0, t, rfl, ho, ht⟩ | ⟨_, ht⟩
  · rcases List.mem_cons.1 hy with rfl | hy
    · rw [ho.sq, hq.1]; exact Int.le_refl _
    · have := HS_sq hq.2 ht y hy; omega
  · have := HS_sq hq.2 ht y hy; omega
theorem SqS_at : ∀ {xs : List Nt} {b : Int} {t : Nat} {x : Nt}, SqS b xs → xs[t]? = some x → x.sq = b + t
 | [], b, t, x, _, h => by simp at h
 | y :: xs, b, 0, x, hq, h => by simp at h; subst h; rw [hq.1]; simp
 | y :: xs, b, t + 1, x, hq, h => by
  have := SqS_at hq.2 (t := t) (x := x) (by simpa using h)
  rw [this]; omega
theorem GK_iff {x : Nt} {sz k : Nat} {K K2 : List Nat} (hk : k < cutN x.bd.length sz) (h2 : ∀ l, l ∈ K2 ↔ l ∈ K ∧ l ≠ k) (o : Int) : ((((k * sz : Nat) : Int) ≤ o ∧ o < ((k * sz : Nat) : Int) + (pcM x sz k : Nat)) ∨ GK x sz K o) ↔ GK x sz K2 o := by
 constructor
 · rintro (h | ⟨l, h1, h3, h4⟩)
   · exact ⟨k, hk, fun h3 => ((h2 k).1 h3).2 rfl, h⟩
   · exact ⟨l, h1, fun h5 => h3 ((h2 l).1 h5).1, h4⟩
 · rintro ⟨l, h1, h3, h4⟩
   by_cases e : l = k
   · subst e; exact .inl h4
   · exact .inr ⟨l, h1, fun h5 => h3 ((h2 l).2 ⟨h5, e⟩), h4⟩
theorem staK_2 {x : Nt} {sz k : Nat} {K K2 : List Nat} (hk : k < cutN x.bd.length sz) (h2 : ∀ l, l ∈ K2 ↔ l ∈ K ∧ l ≠ k) : staK x sz K2 := ⟨k, hk, fun h => ((h2 k).1 h).2 rfl⟩
theorem put_HS {sz : Nat → Nat} (hsz : ∀ i, 1 ≤ sz i) : ∀ {t : Nat} {xs : List Nt} {KK : List (List Nat)} {i : Nat} {b : Int} {hs : List Hf} {x : Nt} {K K2 : List Nat} {k : Nat}, SqS b xs → HS sz i xs KK hs → xs[t]? = some x → KK[t]? = some K → k < cutN x.bd.length (sz (i + t)) → (∀ l, l ∈ K2 ↔ l ∈ K ∧ l ≠ k) →
 ∃ hs2, putH (cutP x (sz (i + t)) k) hs = some hs2 ∧ HS sz i xs (KK.set t K2) hs2
 | t, [], KK, i, b, hs, x, K, K2, k, hq, h, hx, hK, hk, h2 => by simp at hx
 | t, y :: xs, [], i, b, hs, x, K, K2, k, hq, h, hx, hK, hk, h2 => by simp at hK
 | 0, y :: xs, L :: KK, i, b, hs, x, K, K2, k, hq, h, hx, hK, hk, h2 => by
  simp at hx hK
  subst hx; subst hK
  simp only [Nat.add_zero] at hk ⊢
  have hp := pcOf (hsz i) hk
  simp only [HS] at h
  rcases h with ⟨_, h0, r, rfl, ho, ht⟩ | ⟨hns, ht⟩
  · obtain ⟨h3, e, o3⟩ := ho.fill hp
    refine ⟨h3 :: r, ?_, ?_⟩
    · have e1 : ¬ h0.sq < (cutP y (sz i) k).sq := by rw [ho.sq, hp.sq]; omega
      have e2 : h0.sq = (cutP y (sz i) k).sq := by rw [ho.sq, hp.sq]
      simp only [putH, if_neg e1, if_pos e2, e, Option.map_some]
    · simp only [List.set, HS]
      exact .inl ⟨staK_2 hk h2, h3, r, rfl, o3.iff (GK_iff hk h2), ht⟩
  · have hn : OkH y (fun _ => False) (newH (cutP y (sz i) k)) := OkH.new hp.kd hp.ln hp.sq
    obtain ⟨h3, e, o3⟩ := hn.fill hp
    have o4 : OkH y (GK y (sz i) K2) h3 := o3.iff (fun o => by
     rw [← GK_iff hk h2]
     refine or_congr Iff.rfl ⟨fun h => h.elim, fun ⟨l, h1, h4, _⟩ => hns ⟨l, h1, h4⟩⟩)
    refine ⟨h3 :: hs, ?_, ?_⟩
    · cases hs with
      | nil => simp only [putH, e, Option.map_some]
      | cons h5 r =>
       have h6 := HS_sq hq.2 ht h5 List.mem_cons_self
       have h7 : (cutP y (sz i) k).sq = b := by rw [hp.sq, hq.1]
       simp only [putH, if_neg (show ¬ h5.sq < (cutP y (sz i) k).sq by omega), if_neg (show ¬ h5.sq = (cutP y (sz i) k).sq by omega), e, Option.map_some]
    · simp only [List.set, HS]
      exact .inl ⟨staK_2 hk h2, h3, hs, rfl, o4, ht⟩
 | t + 1, y :: xs, L :: KK, i, b, hs, x, K, K2, k, hq, h, hx, hK, hk, h2 => by
  have hx1 : xs[t]? = some x := by simpa using hx
  have hK1 : KK[t]? = some K := by simpa using hK
  have hit : i + (t + 1) = (i + 1) + t := by omega
  rw [hit] at hk ⊢
  have hp := pcOf (hsz (i + 1 + t)) hk
  have hsq := SqS_at hq.2 hx1
  simp only [HS] at h
  rcases h with ⟨hst, h0, r, rfl, ho, ht⟩ | ⟨hns, ht⟩
  · obtain ⟨hs2, e, h3⟩ := put_HS hsz hq.2 ht hx1 hK1 hk h2
    refine ⟨h0 :: hs2, ?_, ?_⟩
    · have e1 : h0.sq < (cutP x (sz (i + 1 + t)) k).sq := by rw [ho.sq, hp.sq, hsq, hq.1]; omega
      simp only [putH, if_pos e1, e, Option.map_some]
    · simp only [List.set, HS]
      exact .inl ⟨hst, h0, hs2, rfl, ho, h3⟩
  · obtain ⟨hs2, e, h3⟩ := put_HS hsz hq.2 ht hx1 hK1 hk h2
    refine ⟨hs2, e, ?_⟩
    simp only [List.set, HS]
    exact .inr ⟨hns, h3⟩
theorem again_HS {sz : Nat → Nat} (hsz : ∀ i, 1 ≤ sz i) : ∀ {t : Nat} {xs : List Nt} {KK : List (List Nat)} {i : Nat} {b : Int} {hs : List Hf} {x : Nt} {K : List Nat} {k : Nat}, SqS b xs → HS sz i xs KK hs → xs[t]? = some x → KK[t]? = some K → k < cutN x.bd.length (sz (i + t)) → k ∉ K →
 putH (cutP x (sz (i + t)) k) hs = some hs
 | t, [], KK, i, b, hs, x, K, k, hq, h, hx, hK, hk, h2 => by simp at hx
 | t, y :: xs, [], i, b, hs, x, K, k, hq, h, hx, hK, hk, h2 => by simp at hK
 | 0, y :: xs, L :: KK, i, b, hs, x, K, k, hq, h, hx, hK, hk, h2 => by
  simp at hx hK
  subst hx; subst hK
  simp only [Nat.add_zero] at hk ⊢
  have hp := pcOf (hsz i) hk
  simp only [HS] at h
  rcases h with ⟨_, h0, r, rfl, ho, ht⟩ | ⟨hns, ht⟩
  · have e := ho.again hp (fun o g1 g2 => ⟨k, hk, h2, g1, g2⟩)
    have e1 : ¬ h0.sq < (cutP y (sz i) k).sq := by rw [ho.sq, hp.sq]; omega
    have e2 : h0.sq = (cutP y (sz i) k).sq := by rw [ho.sq, hp.sq]
    simp only [putH, if_neg e1, if_pos e2, e, Option.map_some]
  · exact absurd ⟨k, hk, h2⟩ hns
 | t + 1, y :: xs, L :: KK, i, b, hs, x, K, k, hq, h, hx, hK, hk, h2 => by
  have hx1 : xs[t]? = some x := by simpa using hx
  have hK1 : KK[t]? = some K := by simpa using hK
  have hit : i + (t + 1) = (i + 1) + t := by omega
  rw [hit] at hk ⊢
  have hp := pcOf (hsz (i + 1 + t)) hk
  have hsq := SqS_at hq.2 hx1
  simp only [HS] at h
  rcases h with ⟨hst, h0, r, rfl, ho, ht⟩ | ⟨hns, ht⟩
  · have e := again_HS hsz hq.2 ht hx1 hK1 hk h2
    have e1 : h0.sq < (cutP x (sz (i + 1 + t)) k).sq := by rw [ho.sq, hp.sq, hsq, hq.1]; omega
    simp only [putH, if_pos e1, e, Option.map_some]
  · exact again_HS hsz hq.2 ht hx1 hK1 hk h2
def lead : List (List Nat) → Nat
 | [] => 0
 | K :: r => bif K.length == 0 then lead r + 1 else 0
theorem whole_note {x : Nt} {sz : Nat} {h : Hf} (hs : 1 ≤ sz) (ho : OkH x (GK x sz []) h) : (⟨h.kd, h.sq, h.bd⟩ : Nt) = x := by
 have : h.bd = x.bd := by
  apply List.ext_getElem?
  intro k
  cases hx : x.bd[k]? with
  | none => exact List.getElem?_eq_none (by rw [ho.len]; exact List.getElem?_eq_none_iff.1 hx)
  | some c =>
   have hk := (List.getElem?_eq_some_iff.1 hx).1
   obtain ⟨g1, g2, g3⟩ := cutN_at (n := x.bd.length) hs hk
   exact (ho.at_ k c hx).1 ⟨k / sz, g1, by simp, by omega, by unfold pcM; omega⟩
 obtain ⟨a, b, c⟩ := x
 dsimp only at this
 have e1 := ho.kd
 have e2 := ho.sq
 dsimp only at e1 e2
 rw [this, e1, e2]
theorem give_HS {sz : Nat → Nat} (hsz : ∀ i, 1 ≤ sz i) : ∀ {xs : List Nt} {KK : List (List Nat)} {i : Nat} {b : Int} {hs : List Hf}, xs.length = KK.length → (∀ t x K, xs[t]? = some x → KK[t]? = some K → OkK x (sz (i + t)) K) → SqS b xs → HS sz i xs KK hs →
 ∃ hs2, giveS b hs = (⟨b + lead KK, hs2⟩, xs.take (lead KK)) ∧ HS sz (i + lead KK) (xs.drop (lead KK)) (KK.drop (lead KK)) hs2
 | [], [], i, b, hs, hl, hK, hq, h => by
  simp only [HS] at h
  subst h
  exact ⟨[], by simp [giveS, lead], by simp [lead, HS]⟩
 | x :: xs, [], i, b, hs, hl, hK, hq, h => by simp at hl
 | [], K :: KK, i, b, hs, hl, hK, hq, h => by simp at hl
 | x :: xs, K :: KK, i, b, hs, hl, hK, hq, h => by
  have hok : OkK x (sz i) K := hK 0 x K rfl rfl
  have h' := h
  simp only [HS] at h
  cases hc : (K.length == 0)
  · have hl0 : lead (K :: KK) = 0 := by simp only [lead, hc, cond_false]
    rw [hl0]
    refine ⟨hs, ?_, by simpa using h'⟩
    rcases h with ⟨hst, h0, r, rfl, ho, ht⟩ | ⟨hns, ht⟩
    · have hd : doneB h0 = false := by
       cases hd : doneB h0
       · rfl
       · have := (done_iff (hsz i) hok hst ho).1 hd
         rw [this] at hc; cases hc
      simp only [giveS, hd, Bool.and_false, cond_false]; simp
    · cases hs with
      | nil => simp [giveS]
      | cons h5 r =>
       have h6 := HS_sq hq.2 ht h5 List.mem_cons_self
       have e : (h5.sq == b) = false := beq_eq_false_iff_ne.2 (by omega)
       simp only [giveS, e, Bool.false_and, cond_false]; simp
  · have hKn : K = [] := List.eq_nil_of_length_eq_zero (beq_iff_eq.1 hc)
    subst hKn
    have hl0 : lead ([] :: KK) = lead KK + 1 := by simp only [lead, hc, cond_true]
    rw [hl0]
    rcases h with ⟨hst, h0, r, rfl, ho, ht⟩ | ⟨hns, ht⟩
    · have hd := (done_iff (hsz i) hok hst ho).2 rfl
      have hs1 : (h0.sq == b) = true := by rw [beq_iff_eq, ho.sq, hq.1]
      obtain ⟨hs2, e, h3⟩ := give_HS hsz (by simpa using hl) (fun t y L g1 g2 => by have := hK (t + 1) y L (by simpa using g1) (by simpa using g2); rwa [show i + (t + 1) = i + 1 + t by omega] at this) hq.2 ht
      refine ⟨hs2, ?_, ?_⟩
      · simp only [giveS, hs1, hd, Bool.and_self, cond_true, e, whole_note (hsz i) ho]
        rw [List.take_succ_cons]
        congr 2
        show b + 1 + (lead KK : Int) = b + ((lead KK + 1 : Nat) : Int)
        omega
      · rw [show i + (lead KK + 1) = i + 1 + lead KK by omega]
        simpa using h3
    · exact absurd (staK_nil (hsz i)) hns
theorem hsB_HS {sz : Nat → Nat} (hsz : ∀ i, 1 ≤ sz i) {nx : Int} : ∀ {xs : List Nt} {KK : List (List Nat)} {i : Nat} {b : Int} {hs : List Hf} {prev : Option Int}, (∀ t x K, xs[t]? = some x → KK[t]? = some K → OkK x (sz (i + t)) K ∧ (staK x (sz (i + t)) K → b + t < nx + 4 ∧ (b + t = nx → K ≠ []))) → (∀ x ∈ xs, noteB x = true) → SqS b xs → HS sz i xs KK hs → nx ≤ b → (∀ e, prev = some e → e < b) →
 hsB nx prev hs = true
 | [], KK, i, b, hs, prev, hK, hn, hq, h, hb, hp => by simp only [HS] at h; subst h; rfl
 | x :: xs, [], i, b, hs, prev, hK, hn, hq, h, hb, hp => by simp only [HS] at h; subst h; rfl
 | x :: xs, K :: KK, i, b, hs, prev, hK, hn, hq, h, hb, hp => by
  have hok := hK 0 x K rfl rfl
  have hx := hn x List.mem_cons_self
  have hK2 : ∀ t y L, xs[t]? = some y → KK[t]? = some L → OkK y (sz (i + 1 + t)) L ∧ (staK y (sz (i + 1 + t)) L → b + 1 + t < nx + 4 ∧ (b + 1 + t = nx → L ≠ [])) := fun t y L g1 g2 => by
   have := hK (t + 1) y L (by simpa using g1) (by simpa using g2)
   rw [show i + (t + 1) = i + 1 + t by omega] at this
   refine ⟨this.1, fun g3 => ?_⟩
   have h4 := this.2 g3
   refine ⟨by have := h4.1; omega, fun g5 => h4.2 (by omega)⟩
  have hn2 : ∀ y ∈ xs, noteB y = true := fun y hy => hn y (List.mem_cons_of_mem _ hy)
  simp only [HS] at h
  rcases h with ⟨hst, h0, r, rfl, ho, ht⟩ | ⟨hns, ht⟩
  · have h2 := hok.2 hst
    have hsq : h0.sq = b := by rw [ho.sq, hq.1]
    have hd : b = nx → doneB h0 = false := fun e => by
     cases hd : doneB h0
     · rfl
     · exact absurd ((done_iff (hsz i) hok.1 hst ho).1 hd) (h2.2 (by simpa using e))
    have hx2 := hx
    simp only [noteB, Bool.and_eq_true, decide_eq_true_eq] at hx2
    have h65 := inW_t hx2.2.1
    simp only [hsB, Bool.and_eq_true, decide_eq_true_eq, Bool.or_eq_true, Bool.not_eq_true']
    refine ⟨by omega, ?_, ?_, ho.half hx (staK_ne (hsz i) hst), ?_, hsB_HS hsz hK2 hn2 hq.2 ht (by omega) (fun e he => by cases he; omega)⟩
    · have := h2.1; have := hq.1; rw [hsq]; simp at this ⊢; omega
    · cases prev with
      | none => rfl
      | some e => have := hp e rfl; simp; omega
    · by_cases e : b = nx
      · exact .inr (hd e)
      · exact .inl (by omega)
  · exact hsB_HS hsz hK2 hn2 hq.2 ht (by omega) (fun e he => by have := hp e he; omega)
end Go.Proofs.Flt
end
section
/- Chapter 19: a joiner into which pieces of messages are put, one by one. -/
namespace Go.Proofs.Flt
open Go.Ab
set_option linter.unusedVariables false
structure Cuts (b : Int) (ns : List Nt) (sz : Nat → Nat) : Prop where
 b0 : 0 ≤ b
 bn : b + ns.length ≤ 65536
 sq : SqS b ns
 ok : ∀ x ∈ ns, noteB x = true
 s1 : ∀ i, 1 ≤ sz i
 s2 : ∀ i, sz i ≤ 1100
structure Inv (b : Int) (ns : List Nt) (sz : Nat → Nat) (f : Nat) (KK : List (List Nat)) (j : Jn) : Prop where
 nx : j.nx = b + f
 fle : f ≤ ns.length
 len : (ns.drop f).length = KK.length
 hs : HS sz f (ns.drop f) KK j.hs
 ok : ∀ t x K, (ns.drop f)[t]? = some x → KK[t]? = some K → OkK x (sz (f + t)) K ∧ (staK x (sz (f + t)) K → t < 4 ∧ (t = 0 → K ≠ []))
theorem SqS_drop : ∀ {xs : List Nt} {b : Int} (f : Nat), SqS b xs → SqS (b + f) (xs.drop f)
 | xs, b, 0, h => by simpa using h
 | [], b, f + 1, h => by simp [SqS]
 | x :: xs, b, f + 1, h => by
  have := SqS_drop f h.2
  rw [List.drop_succ_cons, show b + ((f + 1 : Nat) : Int) = b + 1 + f by omega]; exact this
section
variable {b : Int} {ns : List Nt} {sz : Nat → Nat} {f : Nat} {KK : List (List Nat)} {j : Jn}
theorem Inv.jn (c : Cuts b ns sz) (h : Inv b ns sz f KK j) : jnB j = true := by
 have hfle := h.fle
 have h0 := c.b0
 have hn := c.bn
 simp only [jnB, Bool.and_eq_true]
 refine ⟨inW_of (by rw [h.nx]; omega), ?_⟩
 refine hsB_HS c.s1 (b := b + f) (fun t x K g1 g2 => ⟨(h.ok t x K g1 g2).1, fun g3 => ?_⟩) (fun x hx => c.ok x (List.mem_of_mem_drop hx)) (SqS_drop f c.sq) h.hs (by rw [h.nx]; exact Int.le_refl _) (fun e he => by cases he)
 have := (h.ok t x K g1 g2).2 g3
 rw [h.nx]
 exact ⟨by omega, fun g4 => this.2 (by omega)⟩
theorem drop_at {xs : List Nt} {f t : Nat} : (xs.drop f)[t]? = xs[f + t]? := by rw [List.getElem?_drop]
theorem read_piece (c : Cuts b ns sz) {i k : Nat} {x : Nt} (hx : ns[i]? = some x) (hk : k < cutN x.bd.length (sz i)) : readS (pcO (cutP x (sz i) k)) = (cutP x (sz i) k, 0) :=
 read_cut (cutP_ok (c.ok x (List.mem_of_getElem? hx)) ⟨c.s1 i, c.s2 i⟩ hk)
theorem sq_at (c : Cuts b ns sz) {i : Nat} {x : Nt} (hx : ns[i]? = some x) (k : Nat) : (cutP x (sz i) k).sq = b + i := SqS_at c.sq hx
theorem Inv.old (c : Cuts b ns sz) (h : Inv b ns sz f KK j) {i k : Nat} {x : Nt} (hx : ns[i]? = some x) (hk : k < cutN x.bd.length (sz i)) (hi : i < f) : takeS j (pcO (cutP x (sz i) k)) = (j, [], 0) := by
 have h1 := read_piece c hx hk
 have h2 := sq_at c hx k
 have h3 := h.nx
 simp only [takeS, h.jn c, h1, if_true]
 rw [if_pos (by rw [h2, h3]; omega)]
theorem Inv.again (c : Cuts b ns sz) (h : Inv b ns sz f KK j) {t k : Nat} {x : Nt} {K : List Nat} (hx : ns[f + t]? = some x) (hK : KK[t]? = some K) (hk : k < cutN x.bd.length (sz (f + t))) (h2 : k ∉ K) : takeS j (pcO (cutP x (sz (f + t)) k)) = (j, [], 0) := by
 have e1 := read_piece c hx hk
 have e2 := sq_at c hx k
 have e3 := h.nx
 have hx2 : (ns.drop f)[t]? = some x := by rw [drop_at]; exact hx
 have ht := ((h.ok t x K hx2 hK).2 ⟨k, hk, h2⟩).1
 have e4 := again_HS c.s1 (SqS_drop f c.sq) h.hs hx2 hK hk h2
 obtain ⟨hs2, g1, g2⟩ := give_HS c.s1 h.len (fun t x K a1 a2 => (h.ok t x K a1 a2).1) (SqS_drop f c.sq) h.hs
 have hl : lead KK = 0 := by
  cases hKK : KK with
  | nil => rfl
  | cons L r =>
   simp only [lead]
   cases hc : (L.length == 0)
   · rfl
   · exfalso
     have hL : L = [] := List.eq_nil_of_length_eq_zero (beq_iff_eq.1 hc)
     have hlen := h.len
     rw [hKK] at hlen
     obtain ⟨y, hy⟩ : ∃ y, (ns.drop f)[0]? = some y := ⟨_, List.getElem?_eq_getElem (by rw [hlen]; simp)⟩
     have := (h.ok 0 y L hy (by rw [hKK]; rfl)).2 (by rw [hL]; exact staK_nil (c.s1 _))
     exact this.2 rfl hL
 rw [hl] at g1 g2
 have g3 : giveS (b + f) j.hs = (j, []) := by
  have hh : ∀ hs : List Hf, (∀ h ∈ hs, b + f ≤ h.sq) → giveS (b + f) hs = (⟨b + (f : Int) + ((0 : Nat) : Int), hs2⟩, List.take 0 (ns.drop f)) → hs = hs2 := fun hs _ he => by
   cases hs with
   | nil => simp only [giveS] at he; have := congrArg (fun z => z.1.hs) he; exact this
   | cons a r =>
    simp only [giveS] at he
    cases hc : ((a.sq == b + (f : Int)) && doneB a)
    · rw [hc, cond_false] at he; exact congrArg (fun z => z.1.hs) he
    · rw [hc, cond_true] at he
      have := congrArg (fun z => z.2.length) he
      simp at this
  have := hh j.hs (HS_sq (SqS_drop f c.sq) h.hs) g1
  rw [g1, ← this]
  obtain ⟨nx, hs⟩ := j
  have e5 : nx = b + f := e3
  rw [e5]; simp
 simp only [takeS, h.jn c, e1, if_true]
 rw [if_neg (by rw [e2, e3]; omega), if_neg (by rw [e2, e3]; omega), e4]
 simp only [e3, g3]
theorem Inv.step (c : Cuts b ns sz) (h : Inv b ns sz f KK j) {t k : Nat} {x : Nt} {K K2 : List Nat} (ht : t < 4) (hx : ns[f + t]? = some x) (hK : KK[t]? = some K) (hk : k ∈ K) (hnd : K2.Nodup) (h2 : ∀ l, l ∈ K2 ↔ l ∈ K ∧ l ≠ k) :
 ∃ j2, takeS j (pcO (cutP x (sz (f + t)) k)) = (j2, (ns.drop f).take (lead (KK.set t K2)), 0) ∧ Inv b ns sz (f + lead (KK.set t K2)) ((KK.set t K2).drop (lead (KK.set t K2))) j2 := by
 have hx2 : (ns.drop f)[t]? = some x := by rw [drop_at]; exact hx
 have hok := h.ok t x K hx2 hK
 have hkc := hok.1.lt k hk
 have e1 := read_piece c hx hkc
 have e2 := sq_at c hx k
 have e3 := h.nx
 have htl : t < KK.length := (List.getElem?_eq_some_iff.1 hK).1
 obtain ⟨hs2, p1, p2⟩ := put_HS c.s1 (SqS_drop f c.sq) h.hs hx2 hK hkc h2
 have hok2 : ∀ u y L, (ns.drop f)[u]? = some y → (KK.set t K2)[u]? = some L → OkK y (sz (f + u)) L ∧ (staK y (sz (f + u)) L → u < 4) := fun u y L g1 g2 => by
  by_cases e : u = t
  · subst e
    rw [List.getElem?_set_self htl] at g2
    cases g2
    rw [hx2] at g1
    cases g1
    exact ⟨⟨hnd, fun l hl => hok.1.lt l ((h2 l).1 hl).1⟩, fun _ => ht⟩
  · rw [List.getElem?_set_ne (fun h => e h.symm)] at g2
    have := h.ok u y L g1 g2
    exact ⟨this.1, fun g3 => (this.2 g3).1⟩
 obtain ⟨hs3, g1, g2⟩ := give_HS c.s1 (by rw [List.length_set]; exact h.len) (fun u y L a1 a2 => (hok2 u y L a1 a2).1) (SqS_drop f c.sq) p2
 refine ⟨⟨b + f + lead (KK.set t K2), hs3⟩, ?_, ?_⟩
 · simp only [takeS, h.jn c, e1, if_true]
   rw [if_neg (by rw [e2, e3]; omega), if_neg (by rw [e2, e3]; omega), p1]
   simp only [e3, g1]
 · have hll : ∀ M : List (List Nat), lead M ≤ M.length := fun M => by
    induction M with
    | nil => exact Nat.le_refl _
    | cons a r ih => simp only [lead]; cases a.length == 0 <;> simp only [cond_true, cond_false, List.length_cons] <;> omega
   have hlead := hll (KK.set t K2)
   have hlen := h.len
   rw [List.length_set] at hlead
   rw [List.length_drop] at hlen
   have hfle := h.fle
   refine ⟨by show b + (f : Int) + _ = b + ((f + lead (KK.set t K2) : Nat) : Int); omega, by omega, ?_, by rw [← List.drop_drop]; exact g2, fun u y L a1 a2 => ?_⟩
   · rw [List.length_drop, List.length_drop, List.length_set]; omega
   · rw [← List.drop_drop, List.getElem?_drop] at a1
     rw [List.getElem?_drop] at a2
     have := hok2 (lead (KK.set t K2) + u) y L a1 a2
     rw [show f + lead (KK.set t K2) + u = f + (lead (KK.set t K2) + u) by omega]
     refine ⟨this.1, fun g3 => ⟨by have := this.2 g3; omega, fun g4 => ?_⟩⟩
     subst g4
     have hne : ∀ (M : List (List Nat)) (L : List Nat), M[lead M + 0]? = some L → L ≠ [] := fun M => by
      induction M with
      | nil => intro L hL; simp at hL
      | cons a r ih =>
       intro L hL
       simp only [lead] at hL
       cases hc : (a.length == 0)
       · rw [hc, cond_false] at hL
         simp at hL
         subst hL
         rintro rfl
         cases hc
       · rw [hc, cond_true] at hL
         exact ih L (by simpa using hL)
     exact hne _ _ a2
end
end Go.Proofs.Flt
end
