/- Layer 11's laws: samePool, and pools that nobody can tell apart. -/
import Derived.Test.YtcdeikbehpepjaaGreatOTells
import Derived.Test.YtcdeikbehpepjaaGreatOUndo
import Derived.Test.YtcdeikbehpepjaaGreatBSameB
namespace Go.Proofs.YtcdeikbehpepjaaGreat
open Go.RowKit Go.Maps
set_option maxHeartbeats 6400000
set_option maxRecDepth 100000
set_option linter.unusedVariables false
theorem drewN_add (w : World) (a b : Nat) : (w.drewN a).drewN b = w.drewN (a + b) := by simp [World.drewN, Nat.add_assoc]
theorem samePool_any (w : World) {p b q k c l : Nat} {P Q : Pl} (h : PRep w p b P) (h2 : RRep w q k c l Q) (hok : Q.ok) (hn : P.n = Q.n) (hcl : ∀ i, P.class i = Q.class i) (hbg : ∀ a, P.begin a = Q.begin a) (hce : ∀ a, P.cell a = Q.cell a) :
    Calls Tryz.prog 11 #[.pointer (some ⟨p, 0, none⟩), .pointer (some ⟨q, 0, none⟩)] w (fun e w' => e = .returned (.bool true) ∧ Drew w w') := by
  refine calls_abs fun R hR => ?_
  obtain ⟨c1, c2, c3, z0, z1, z2, _⟩ := h2.facts
  have HP := Lib.hid h
  have HQ := Lib.hid h2
  have HOK := Lib.hid hok
  have HCL := Lib.hid hcl
  have HBG := Lib.hid hbg
  have HCE := Lib.hid hce
  have h24 := h2.n24
  obtain ⟨n, hnn⟩ : ∃ n, n = Q.n := ⟨_, rfl⟩
  rw [← hnn] at z0 z1 h24
  clear h h2 hok hn hcl hbg hce hnn
  go_enter Tryz.func11, Tryz.ntmps11
  go_wp2_with fail
  go_loopw [5] (fun iv wr => ∃ i m : Nat, i ≤ n + 1 ∧ iv = .int .i64 i ∧ wr = w.drewN m) (fun iv _ => n + 1 - (intOf iv).toNat)
  case atStart => exact ⟨0, 0, by omega, rfl, rfl⟩
  case round =>
    obtain ⟨i, m, hi, rfl, rfl⟩ := hrel
    by_cases hlt : i ≤ n
    · have hlt1 : (i : Int) ≤ n := by omega
      have d1 := classOf_rep (w.drewN m) p b P (HP.out.only ((Only.refl [] w).drewN m) (by simp) (by simp)) i
      have d2 := rclass_rep (w.drewN m) q k c l Q (HQ.out.only ((Only.refl [] w).drewN m) (by simp) (by simp) (by simp) (by simp)) i
      rw [HCL.out] at d1
      generalize Q.class (i : Int) = r at *
      obtain ⟨r1, r2⟩ := r
      go_wp2_with fail
      refine d1.mono ?_
      rintro e _ ⟨rfl, rfl⟩
      go_wp2_with fail
      refine d2.mono ?_
      rintro e _ ⟨rfl, rfl⟩
      go_wp2_with fail
      exact ⟨⟨i + 1, m, by omega, by go_num, rfl⟩, by simp [intOf]; omega⟩
    · obtain rfl : i = n + 1 := by omega
      have hlt1 : ¬ ((n + 1 : Nat) : Int) ≤ n := by omega
      have HDF : Hid (decide (((n + 1 : Nat) : Int) ≤ (n : Int)) = false) := by show _ = _; simp; omega
      obtain ⟨w9, hw9⟩ : ∃ z, z = w.drewN m := ⟨_, rfl⟩
      have z0' : w9.cell? ⟨q, 0, none⟩ = some (.slice (some ⟨k, 0, none⟩) n c1) := by rw [hw9]; exact z0
      have z1' : w9.cell? ⟨q, 1, none⟩ = some (.slice (some ⟨c, 0, none⟩) (n * 16) c2) := by rw [hw9]; exact z1
      have HD9 : Hid (Drew w w9) := ⟨m, hw9⟩
      have HP9 : Hid (PRep w9 p b P) := by show PRep _ _ _ _; rw [hw9]; exact HP.out.only ((Only.refl [] w).drewN m) (by simp) (by simp)
      have HQ9 : Hid (RRep w9 q k c l Q) := by show RRep _ _ _ _ _ _; rw [hw9]; exact HQ.out.only ((Only.refl [] w).drewN m) (by simp) (by simp) (by simp) (by simp)
      rw [← hw9]
      obtain ⟨z, hz⟩ : ∃ z : Int, z = ((n + 1 : Nat) : Int) := ⟨_, rfl⟩
      rw [← hz] at hlt1 ⊢
      obtain ⟨A, hA⟩ : ∃ A : Nat, A = n * 16 := ⟨_, rfl⟩
      rw [← hA] at z1'
      have HA384 : A ≤ 384 := by omega
      clear hw9 z0 z1 hz hA HDF
      go_wp2_with fail
      go_loopw [10] (fun iv wr => ∃ i m : Nat, i ≤ A ∧ iv = .int .i64 i ∧ wr = w9.drewN m) (fun iv _ => A - (intOf iv).toNat)
      case atStart => exact ⟨0, 0, by omega, rfl, rfl⟩
      case round =>
        obtain ⟨i, m', hi, rfl, rfl⟩ := hrel
        by_cases hlt : i < A
        · have hlt2 : (i : Int) < (A : Int) := by omega
          have d1 := begin_rep (w9.drewN m') p b P (HP9.out.only ((Only.refl [] w9).drewN m') (by simp) (by simp)) i
          have d2 := rbegin_rep (w9.drewN m') q k c l Q (HQ9.out.only ((Only.refl [] w9).drewN m') (by simp) (by simp) (by simp) (by simp)) HOK.out i
          have d3 := Lib.hid fun m2 : Nat => cell_rep (w9.drewN m2) p b P (HP9.out.only ((Only.refl [] w9).drewN m2) (by simp) (by simp)) i
          have d4 := Lib.hid fun m2 : Nat => rcell_rep (w9.drewN m2) q k c l Q (HQ9.out.only ((Only.refl [] w9).drewN m2) (by simp) (by simp) (by simp) (by simp)) HOK.out i
          rw [HBG.out] at d1
          replace d3 := d3.out
          simp only [HCE.out] at d3
          replace d3 := Lib.hid d3
          have D2 := Lib.hid fun m2 : Nat => rbegin_rep (w9.drewN m2) q k c l Q (HQ9.out.only ((Only.refl [] w9).drewN m2) (by simp) (by simp) (by simp) (by simp)) HOK.out i
          clear d2
          generalize Q.begin (i : Int) = r at *
          obtain ⟨r1, r2⟩ := r
          generalize Q.cell (i : Int) = s at *
          obtain ⟨s1, s2⟩ := s
          go_wp2_with fail
          refine d1.mono ?_
          rintro e _ ⟨rfl, m1, rfl⟩
          rw [drewN_add]
          have c' := D2.out (m' + m1)
          clear d1
          go_wp2_with fail
          refine c'.mono ?_
          rintro e _ ⟨rfl, rfl⟩
          have c'' := d3.out (m' + m1)
          clear c'
          go_wp2_with fail
          refine c''.mono ?_
          rintro e _ ⟨rfl, m2, rfl⟩
          rw [drewN_add]
          have c3 := d4.out (m' + m1 + m2)
          clear c''
          go_wp2_with fail
          refine c3.mono ?_
          rintro e _ ⟨rfl, rfl⟩
          go_wp2_with fail
          exact ⟨⟨i + 1, m' + m1 + m2, by omega, by go_num, rfl⟩, by simp [intOf]; omega⟩
        · obtain rfl : i = A := by omega
          have hlt2 : ¬ (i : Int) < (i : Int) := by omega
          have HE : Hid (Drew w (w9.drewN m')) := HD9.out.more m'
          go_wp2_with fail
          exact hR.out _ _ ⟨rfl, HE.out⟩
end Go.Proofs.YtcdeikbehpepjaaGreat
