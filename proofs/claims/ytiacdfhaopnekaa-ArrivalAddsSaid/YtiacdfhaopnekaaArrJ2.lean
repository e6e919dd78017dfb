/- A law's argument that is a state, read. -/
import Derived.Test.YtiacdfhaopnekaaArrJ
namespace Go.Proofs.Arr
open Go.Ab
set_option linter.unusedVariables false
def ptT : Ty := .st [.i .i64, .i .i64]
theorem pt_flat : ∀ x, Flat ptT x → ∃ a : Pt, x = a.l ∧ (fun _ => true) a = true := by
  rintro x ⟨c1, r1, rfl, ⟨n1, rfl, h1⟩, c2, r2, rfl, ⟨n2, rfl, h2⟩, rfl⟩
  exact ⟨⟨n1, n2⟩, rfl, rfl⟩
def trT : TyD := .st [.f (.i .i64), .f .b, .f .b, .f (.i .i64), .f (.i .i64), .f (.i .i64), .f (.i .i64), .f (.i .i64), .f (.i .i64), .f (.i .i64), .f (.i .i64), .f (.i .i64), .f (.i .i64), .f (.i .i64), .f (.i .i64), .f (.i .i64), .sl ptT]
theorem tr_shpS {j : Nat} {l : List AV} {h : Hp} (hd : DShp trT j l h) : ∃ (t : Tr) (s : Sh) (pts : List Pt), Sh.pts s pts ∧ s.sane 2 = true ∧ l = t.l (s.v j) ∧ h = s.h j := by
  obtain ⟨c0, r0, p0, q0, rfl, rfl, ⟨⟨n0, rfl, _⟩, rfl⟩, c1, r1, p1, q1, rfl, rfl, ⟨⟨n1, rfl⟩, rfl⟩, c2, r2, p2, q2, rfl, rfl, ⟨⟨n2, rfl⟩, rfl⟩, c3, r3, p3, q3, rfl, rfl, ⟨⟨n3, rfl, _⟩, rfl⟩, c4, r4, p4, q4, rfl, rfl, ⟨⟨n4, rfl, _⟩, rfl⟩, c5, r5, p5, q5, rfl, rfl, ⟨⟨n5, rfl, _⟩, rfl⟩, c6, r6, p6, q6, rfl, rfl, ⟨⟨n6, rfl, _⟩, rfl⟩, c7, r7, p7, q7, rfl, rfl, ⟨⟨n7, rfl, _⟩, rfl⟩, c8, r8, p8, q8, rfl, rfl, ⟨⟨n8, rfl, _⟩, rfl⟩, c9, r9, p9, q9, rfl, rfl, ⟨⟨n9, rfl, _⟩, rfl⟩, c10, r10, p10, q10, rfl, rfl, ⟨⟨n10, rfl, _⟩, rfl⟩, c11, r11, p11, q11, rfl, rfl, ⟨⟨n11, rfl, _⟩, rfl⟩, c12, r12, p12, q12, rfl, rfl, ⟨⟨n12, rfl, _⟩, rfl⟩, c13, r13, p13, q13, rfl, rfl, ⟨⟨n13, rfl, _⟩, rfl⟩, c14, r14, p14, q14, rfl, rfl, ⟨⟨n14, rfl, _⟩, rfl⟩, c15, r15, p15, q15, rfl, rfl, ⟨⟨n15, rfl, _⟩, rfl⟩, cz, rz, pz, qz, rfl, rfl, hz, rfl, rfl⟩ := hd
  obtain ⟨s, e, _, e2, e3, rfl, rfl⟩ := sl_shpS (j := j) (ok := fun _ => true) Pt.len Pt.bel0 pt_flat hz
  exact ⟨⟨n0, n1, n2, n3, n4, n5, n6, n7, n8, n9, n10, n11, n12, n13, n14, n15⟩, s, e, e2, e3, rfl, by simp⟩
end Go.Proofs.Arr
