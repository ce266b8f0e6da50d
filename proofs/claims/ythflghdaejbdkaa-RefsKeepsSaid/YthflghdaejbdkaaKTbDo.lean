/- Lemmas of this claim. -/
import Derived.Test.YthflghdaejbdkaaKTbL
namespace Go.Proofs.Ythflghdaejbdkaa
open Go.RowKit Go.Maps
set_option maxHeartbeats 12800000
set_option maxRecDepth 100000
set_option linter.unusedVariables false
section
variable {bo hb q p r tb ub : Nat} {m m1 m2 m3 : Mk} {t t1 t2 t3 : Tb} {tl : List Asn} {w0 w : World}
theorem taddT (w : World) (hf : Fam w0 w (G7 bo hb q p r tb ub m1 m2 t1 t2 tl)) (kd x g : Int) (hx : wfI x) : Calls Try.prog 8 #[.pointer (some ⟨tb, 0, none⟩), .pointer (some ⟨p, 0, none⟩), .int .i64 kd, .int .i64 x, .int .i64 g] w (fun e w' => e = .returned (.tuple #[.int .i64 (t1.add m1 kd x g).1, .int .i64 (t1.add m1 kd x g).2.1]) ∧ Fam w0 w' (G7 bo hb q p r tb ub m1 m2 (t1.add m1 kd x g).2.2 t2 tl)) := by
  refine (tadd_rep w (G7.TP bo hb q p r tb ub m1 m2 t1 t2 tl) (kk := t1.ents.length) hf kd x g hx).mono fun e w1 ⟨h1, h2⟩ => ⟨h1, ?_⟩
  have h3 : (t1.add m1 kd x g).2.2 = t1 ∨ (t1.add m1 kd x g).2.2.ph ≠ 2 := by
    unfold Tb.add
    split
    · exact .inl rfl
    split
    · exact .inl rfl
    split
    · exact .inl rfl
    split
    · exact .inl rfl
    · rename_i h0 _ _
      refine .inr ?_
      show t1.ph ≠ 2
      rw [Classical.not_not.1 h0]; decide
  rcases h3 with h3 | h3
  · rw [h3] at h2 ⊢; exact h2
  · exact PL.anyK (l := G7 bo hb q p r tb ub m1 m2 t1 t2 tl) G7.tp h2 h3 _ _
end
end Go.Proofs.Ythflghdaejbdkaa
