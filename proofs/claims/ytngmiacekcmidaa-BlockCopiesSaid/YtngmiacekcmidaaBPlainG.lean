/- Pages of blocks, the plain laws: both sides' Same tell the same. -/
import Derived.Test.YtngmiacekcmidaaBSameB
namespace Go.Proofs.Ytngmiacekcmidaa
set_option linter.unusedVariables false

theorem Pg.same_iff {x y : Pg} (hx : x.ok) (hy : y.ok) : x.same y = true ↔ x.cls = y.cls ∧ (∀ k, x.used k = y.used k) ∧ ∀ k, k < bpt x.cls → x.used k = true → ∀ j, j < bsz x.cls → x.cell (k * bsz x.cls + j) = y.cell (k * bsz x.cls + j) := by
  unfold Pg.same
  rw [Bool.and_eq_true, Bool.or_eq_true, Bool.and_eq_true, beq_iff_eq, decide_eq_true_eq, allN_iff, allN_iff]
  constructor
  · rintro ⟨h1, h2⟩
    refine ⟨h1, fun k => ?_, fun k hk hu j hj => ?_⟩
    · rcases hx.cls with hc | hC
      · rw [hx.free hc, hy.free (by rw [← h1]; exact hc)]
      · rcases h2 with h2 | ⟨h2, _⟩
        · rcases hC with e | e | e <;> omega
        · by_cases h8 : k < 8
          · simpa using h2 k h8
          · have hne : x.cls ≠ -1 := by rcases hC with e | e | e <;> omega
            rw [hx.high hne k (by have := hC.sz; omega), hy.high (by rw [← h1]; exact hne) k (by rw [← h1]; have := hC.sz; omega)]
    · rcases hx.cls with hc | hC
      · rw [hx.free hc] at hu; cases hu
      · rcases h2 with h2 | ⟨_, h3⟩
        · rcases hC with e | e | e <;> omega
        · have h4 := h3 k hk
          unfold Pg.blkSame at h4
          rw [hu] at h4
          simp only [Bool.not_true, Bool.false_or] at h4
          simpa using allN_iff.1 h4 j hj
  · rintro ⟨h1, h2, h3⟩
    refine ⟨h1, ?_⟩
    rcases hx.cls with hc | hC
    · exact .inl (by omega)
    · refine .inr ⟨fun k _ => by simp [h2 k], fun k hk => ?_⟩
      unfold Pg.blkSame
      cases hu : x.used k with
      | false => rfl
      | true => simp only [Bool.not_true, Bool.false_or]; exact allN_iff.2 fun j hj => by simp [h3 k hk hu j hj]
theorem Pg.same_comm {x y : Pg} (hx : x.ok) (hy : y.ok) : x.same y = y.same x := by
  rw [Bool.eq_iff_iff, Pg.same_iff hx hy, Pg.same_iff hy hx]
  constructor
  · rintro ⟨h1, h2, h3⟩
    exact ⟨h1.symm, fun k => (h2 k).symm, fun k hk hu j hj => by rw [← h1] at hk hj ⊢; exact (h3 k hk (by rw [h2]; exact hu) j hj).symm⟩
  · rintro ⟨h1, h2, h3⟩
    exact ⟨h1.symm, fun k => (h2 k).symm, fun k hk hu j hj => by rw [← h1] at hk hj ⊢; exact (h3 k hk (by rw [h2]; exact hu) j hj).symm⟩
theorem Pg.same_refl {x : Pg} (hx : x.ok) : x.same x = true := (Pg.same_iff hx hx).2 ⟨rfl, fun _ => rfl, fun _ _ _ _ _ => rfl⟩
theorem Pl.same_refl {P : Pl} (h : P.ok) : P.same P = true := allN_iff.2 fun i hi => Pg.same_refl (h i hi)
theorem Pl.same_comm {P Q : Pl} (h : P.ok) (k : Q.ok) (hn : Q.n = P.n) : P.same Q = Q.same P := by
  unfold Pl.same
  rw [hn]
  exact allN_congr fun i hi => Pg.same_comm (h i hi) (k i (by omega))

/-- What a cell of a page tells. -/
def Pg.tell (x : Pg) (j : Nat) : Int × Int := if x.cls < 0 then (0, 3) else if x.used (j / bsz x.cls) then (x.cell j, 0) else (0, 3)
theorem Pl.cell_tell {P : Pl} {i j : Nat} (hi : i < P.n) (hj : j < 16) : P.cell ((16 * i + j : Nat) : Int) = (P.pg i).tell j := by
  obtain ⟨A, hA⟩ : ∃ A, A = 16 * i + j := ⟨_, rfl⟩
  rw [← hA]
  have h1 : A / 16 = i := by omega
  have h2 : A % 16 = j := by omega
  have ha : P.addr (A : Int) = true := Pl.addr_iff.2 ⟨by omega, by omega⟩
  have e0 : (A : Int).toNat = A := rfl
  unfold Pl.cell Pg.tell
  by_cases hc : (P.pg i).cls < 0
  · rw [Pl.begin_free ha (by rw [e0, h1]; exact hc)]
    simp [hc]
  · cases hu : (P.pg i).used (j / bsz (P.pg i).cls) with
    | true => rw [Pl.begin_yes ha (by rw [e0, h1]; exact hc) (by rw [e0, h1, h2]; exact hu)]; simp [hc, h1, h2]
    | false => rw [Pl.begin_no ha (by rw [e0, h1]; exact hc) (by rw [e0, h1, h2]; exact hu)]; simp [hc]
theorem Pl.same_rsame {P Q : Pl} (hP : P.ok) (hQ : Q.ok) (hn : Q.n = P.n) : P.rsame Q = P.same Q := by
  rw [Bool.eq_iff_iff]
  unfold Pl.same Pl.rsame
  rw [Bool.and_eq_true, allN_iff, allN_iff, allN_iff]
  have hrat : ∀ i j, i < P.n → j < 16 → (P.rat Q (16 * i + j) = true ↔ (P.pg i).tell j = (Q.pg i).tell j ∧ (P.pg i).live j = (Q.pg i).live j) := by
    intro i j hi hj
    unfold Pl.rat
    rw [Bool.and_eq_true, decide_eq_true_eq, beq_iff_eq, Pl.cell_tell hi hj, Pl.cell_tell (by omega) hj, show (16 * i + j) / 16 = i by omega, show (16 * i + j) % 16 = j by omega]
  constructor
  · rintro ⟨h1, h2⟩ i hi
    have hc : (P.pg i).cls = (Q.pg i).cls := by simpa using h1 i hi
    have h3 : ∀ j, j < 16 → (P.pg i).tell j = (Q.pg i).tell j ∧ (P.pg i).live j = (Q.pg i).live j := fun j hj => (hrat i j hi hj).1 (h2 (16 * i + j) (by omega))
    refine (Pg.same_iff (hP i hi) (hQ i (by omega))).2 ⟨hc, fun k => ?_, fun k hk hu j hj => ?_⟩
    · rcases (hP i hi).cls with h4 | hC
      · rw [(hP i hi).free h4, (hQ i (by omega)).free (by rw [← hc]; exact h4)]
      · have hne : (P.pg i).cls ≠ -1 := by rcases hC with e | e | e <;> omega
        by_cases hk : k < bpt (P.pg i).cls
        · have hb := hC.blk hk
          have h5 := (h3 (k * bsz (P.pg i).cls) (by have := hC.sz; omega)).2
          rw [Pg.live_at hC] at h5
          rw [h5]
          have := Pg.live_at (p := Q.pg i) (by rw [← hc]; exact hC) k
          rw [← hc] at this
          exact this
        · rw [(hP i hi).high hne k (by omega), (hQ i (by omega)).high (by rw [← hc]; exact hne) k (by rw [← hc]; omega)]
    · rcases (hP i hi).cls with h4 | hC
      · rw [(hP i hi).free h4] at hu; cases hu
      · have hb := hC.blk hk
        have h5 := (h3 (k * bsz (P.pg i).cls + j) (by omega)).1
        have hd : (k * bsz (P.pg i).cls + j) / bsz (P.pg i).cls = k := hC.of_at (by omega) (by omega)
        unfold Pg.tell at h5
        rw [← hc, hd, hu, if_neg (show ¬ (P.pg i).cls < 0 by rcases hC with e | e | e <;> omega), if_neg (show ¬ (P.pg i).cls < 0 by rcases hC with e | e | e <;> omega)] at h5
        simp only [if_true] at h5
        cases hq : (Q.pg i).used k with
        | true => rw [hq] at h5; simp at h5; exact h5
        | false => rw [hq] at h5; simp at h5
  · intro h
    refine ⟨fun i hi => by simp [((Pg.same_iff (hP i hi) (hQ i (by omega))).1 (h i hi)).1], fun A hA => ?_⟩
    obtain ⟨i, j, rfl, hi, hj⟩ : ∃ i j, A = 16 * i + j ∧ i < P.n ∧ j < 16 := ⟨A / 16, A % 16, by omega, by omega, by omega⟩
    obtain ⟨h1, h2, h3⟩ := (Pg.same_iff (hP i hi) (hQ i (by omega))).1 (h i hi)
    refine (hrat i j hi hj).2 ⟨?_, ?_⟩
    · unfold Pg.tell
      rw [← h1, ← h2]
      by_cases hc : (P.pg i).cls < 0
      · rw [if_pos hc, if_pos hc]
      · rw [if_neg hc, if_neg hc]
        rcases (hP i hi).cls with h4 | hC
        · omega
        · have hd := hC.div hj
          cases hu : (P.pg i).used (j / bsz (P.pg i).cls) with
          | false => rfl
          | true =>
            have := h3 _ hd.1 hu (j - j / bsz (P.pg i).cls * bsz (P.pg i).cls) (by omega)
            rw [show j / bsz (P.pg i).cls * bsz (P.pg i).cls + (j - j / bsz (P.pg i).cls * bsz (P.pg i).cls) = j by omega] at this
            rw [this]
    · unfold Pg.live
      rw [← h1, ← h2]
end Go.Proofs.Ytngmiacekcmidaa
