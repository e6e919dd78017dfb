/- JitterPlays: the packets in another order, and what is held behind each. -/
import Derived.Test.YtcpgamgkbbckoaaJitP5
namespace Go.Proofs.Jit
open Go.Ab
set_option maxRecDepth 100000
set_option linter.unusedSimpArgs false
set_option linter.unusedVariables false
def insT (T : List Md) (k : Nat) (p : Md) : List Md := T.take k ++ p :: T.drop k
def atT (ord : List Int) (i len : Nat) : Nat := if i = 0 then len else match ord[i]? with
 | some x => 1 + (x % (max 1 (len : Int))).toNat
 | none => len
def turnN (L : List Md) (ord : List Int) : Nat → List Md
 | 0 => []
 | i + 1 => match L[i]? with
  | some p => insT (turnN L ord i) (atT ord i (turnN L ord i).length) p
  | none => turnN L ord i
theorem insT_len {T : List Md} {k : Nat} {p : Md} : (insT T k p).length = T.length + 1 := by
 simp only [insT, List.length_append, List.length_take, List.length_cons, List.length_drop]; omega
theorem insT_perm {T : List Md} {k : Nat} {p : Md} : (insT T k p).Perm (p :: T) := by
 have h : (T.take k ++ p :: T.drop k).Perm (p :: (T.take k ++ T.drop k)) := List.perm_middle
 rwa [List.take_append_drop] at h
theorem atT_le {ord : List Int} {i len : Nat} (h : i ≤ len) : atT ord i len ≤ len ∧ (0 < i → 1 ≤ atT ord i len) := by
 unfold atT
 by_cases hi : i = 0
 · rw [if_pos hi]; exact ⟨Nat.le_refl _, by omega⟩
 · rw [if_neg hi]
   split
   · rename_i x _
     have h1 := Int.emod_nonneg x (b := max 1 (len : Int)) (by omega)
     have h2 := Int.emod_lt_of_pos x (b := max 1 (len : Int)) (by omega)
     omega
   · omega
theorem turnN_len {L : List Md} {ord : List Int} : ∀ {i}, i ≤ L.length → (turnN L ord i).length = i
 | 0, _ => rfl
 | i + 1, h => by
  simp only [turnN, List.getElem?_eq_getElem (show i < L.length by omega)]
  rw [insT_len, turnN_len (by omega)]
theorem turnN_perm {L : List Md} {ord : List Int} : ∀ {i}, i ≤ L.length → (turnN L ord i).Perm (L.take i)
 | 0, _ => by simp [turnN]
 | i + 1, h => by
  have hi : i < L.length := by omega
  simp only [turnN, List.getElem?_eq_getElem hi]
  refine insT_perm.trans ?_
  rw [← List.take_append_getElem hi]
  refine (List.Perm.cons _ (turnN_perm (by omega))).trans ?_
  exact (List.perm_append_singleton _ _).symm
theorem turnN_0 {L : List Md} {ord : List Int} : ∀ {i}, 1 ≤ i → i ≤ L.length → (turnN L ord i)[0]? = L[0]?
 | 0, h, _ => by omega
 | 1, _, h => by
  simp only [turnN, List.getElem?_eq_getElem (show 0 < L.length by omega)]
  rfl
 | i + 2, _, h => by
  have hi : i + 1 < L.length := by omega
  have ih := turnN_0 (L := L) (ord := ord) (i := i + 1) (by omega) (by omega)
  have hl := turnN_len (L := L) (ord := ord) (i := i + 1) (by omega)
  rw [turnN, List.getElem?_eq_getElem hi]
  dsimp only
  generalize turnN L ord (i + 1) = T at *
  obtain ⟨h1, h2⟩ := atT_le (ord := ord) (i := i + 1) (len := T.length) (by omega)
  have h2 := h2 (by omega)
  rw [insT, List.getElem?_append_left (by rw [List.length_take]; omega), List.getElem?_take, if_pos (by omega)]
  exact ih
structure TurnOK (L T : List Md) : Prop where
 len : T.length = L.length
 mem : ∀ (i : Nat) p, T[i]? = some p → ∃ j : Nat, L[j]? = some p
 hd : T[0]? = L[0]?
 dist : ∀ (i k : Nat) p q, i < k → T[i]? = some p → T[k]? = some q → p.sq ≠ q.sq
theorem turn_ok {ck sq tm : Int} {L : List Md} {g : Nat → Nat} (hP : PkL ck sq tm L g) (ord : List Int) : TurnOK L (turnN L ord L.length) := by
 have hp := turnN_perm (L := L) (ord := ord) (Nat.le_refl _)
 rw [List.take_length] at hp
 have hlen := hP.len
 refine ⟨hp.length_eq, fun i p h => List.getElem?_of_mem (hp.mem_iff.1 (List.mem_of_getElem? h)), ?_, ?_⟩
 · by_cases h0 : L.length = 0
   · have : L = [] := List.eq_nil_of_length_eq_zero h0
     subst this; rfl
   · exact turnN_0 (by omega) (Nat.le_refl _)
 · have hn : (L.map (·.sq)).Nodup := by
    rw [List.nodup_iff_pairwise_ne, List.pairwise_iff_getElem]
    intro i j hi hj hij
    rw [List.length_map] at hi hj
    simp only [List.getElem_map]
    rw [hP.sqv i _ (List.getElem?_eq_getElem hi), hP.sqv j _ (List.getElem?_eq_getElem hj)]
    omega
   have hn2 : ((turnN L ord L.length).map (·.sq)).Nodup := (hp.map (·.sq)).nodup_iff.2 hn
   rw [List.nodup_iff_pairwise_ne, List.pairwise_iff_getElem] at hn2
   intro i k p q hik h1 h2
   obtain ⟨l1, e1⟩ := List.getElem?_eq_some_iff.1 h1
   obtain ⟨l2, e2⟩ := List.getElem?_eq_some_iff.1 h2
   have := hn2 i k (by simpa using l1) (by simpa using l2) hik
   simp only [List.getElem_map] at this
   rw [← e1, ← e2]; exact this
def wtE (ev : List Ev) (k : Nat) : Int := match ev[k]? with
 | some e => e.wt % 200
 | none => 0
def plB (b0 : Bf) (T : List Md) (ev : List Ev) : Nat → Bf
 | 0 => b0
 | k + 1 => match T[k]? with
  | some p => (putS (plB b0 T ev k) ((plB b0 T ev k).ti + wtE ev k) p).1
  | none => plB b0 T ev k
theorem wtE_rng {ev : List Ev} {k : Nat} : 0 ≤ wtE ev k ∧ wtE ev k ≤ 199 := by
 unfold wtE
 split <;> omega
structure PlOK (ck sq tm : Int) (L T : List Md) (g : Nat → Nat) (k : Nat) (b : Bf) : Prop where
 zero : k = 0 → b = evZ ck
 inv : 0 < k → ∃ S0, InvP ck sq tm L g S0 0 b
 len : b.l.length = k
 ti : 0 ≤ b.ti ∧ b.ti ≤ 200 * (k : Int)
 mem : ∀ x ∈ b.l, ∃ i, i < k ∧ T[i]? = some x.p
theorem pl_ok0 {ck sq tm : Int} {L T : List Md} {g : Nat → Nat} : PlOK ck sq tm L T g 0 (evZ ck) :=
 ⟨fun _ => rfl, fun h => by omega, rfl, by show (0 : Int) ≤ 0 ∧ (0 : Int) ≤ _; omega, fun x hx => by cases hx⟩
theorem pl_step {ck sq tm : Int} {L T : List Md} {g : Nat → Nat} (hc : 1 ≤ ck ∧ ck ≤ 96) (hP : PkL ck sq tm L g) (hT : TurnOK L T) {k : Nat} {b : Bf} {p : Md} {w : Int} (hb : PlOK ck sq tm L T g k b) (hp : T[k]? = some p) (hw : 0 ≤ w ∧ w ≤ 199) :
 (putS b (b.ti + w) p).2 = 0 ∧ PlOK ck sq tm L T g (k + 1) (putS b (b.ti + w) p).1 ∧ goodB (putS b (b.ti + w) p).1 = true := by
 have hk : k < T.length := (List.getElem?_eq_some_iff.1 hp).1
 have hlen := hP.len
 have hl := hT.len
 have ht := hb.ti
 by_cases h0 : k = 0
 · subst h0
   have hz := hb.zero rfl
   subst hz
   rw [hT.hd] at hp
   have ht0 : (evZ ck).ti = 0 := rfl
   obtain ⟨h1, ⟨S0, h2⟩, h3, h4, h5⟩ := pl_first hc hP (now := (evZ ck).ti + w) hp (by rw [ht0]; omega)
   refine ⟨h1, ⟨fun h => by omega, fun _ => ⟨S0, h2⟩, h3, by rw [h5, ht0]; omega, fun x hx => ⟨0, by omega, ?_⟩⟩, h2.good⟩
   rw [hT.hd, h4 x hx]; exact hp
 · obtain ⟨S0, hI⟩ := hb.inv (by omega)
   obtain ⟨j, hj⟩ := hT.mem k p hp
   obtain ⟨h1, h2, h3, h4, h5⟩ := pl_put hc hP (now := b.ti + w) hI (by omega) hj (fun x hx => by
    obtain ⟨i, i1, i2⟩ := hb.mem x hx
    exact hT.dist i k _ _ i1 i2 hp)
   refine ⟨h1, ⟨fun h => by omega, fun _ => ⟨S0, h2⟩, by rw [h3, hb.len], by rw [h5]; omega, fun x hx => ?_⟩, h2.good⟩
   rcases h4 x hx with e | e
   · exact ⟨k, by omega, by rw [e]; exact hp⟩
   · obtain ⟨i, i1, i2⟩ := hb.mem x e
     exact ⟨i, by omega, i2⟩
end Go.Proofs.Jit
