/- The law's total of all numbers of a pool. -/
import Derived.Test.YtngmiacekcmidaaBLawB
import Derived.Test.YtngmiacekcmidaaBPlainC
namespace Go.Proofs.Ytngmiacekcmidaa
open Go.RowKit
set_option maxHeartbeats 6400000
set_option maxRecDepth 100000
set_option linter.unusedVariables false

theorem wrap_wrap_add (a b : Int) : wrap64 (wrap64 a + b) = wrap64 (a + b) := by unfold wrap64; omega
/-- The law's total, cell by cell. -/
def Pl.totW (P : Pl) : Nat → Int
  | 0 => 0
  | k + 1 => if (P.cell (k : Int)).2 = 0 then wrap64 (P.totW k + (P.cell (k : Int)).1) else P.totW k
theorem Pl.totW_eq (P : Pl) (k : Nat) : P.totW k = wrap64 (sumI P.cellN k) := by
  induction k with
  | zero => show (0 : Int) = wrap64 0; unfold wrap64; omega
  | succ k ih =>
    unfold Pl.totW sumI Pl.cellN
    rw [ih]
    split
    · rw [wrap_wrap_add]; rfl
    · rw [Int.add_zero]; rfl
theorem Pl.totW_tot {P : Pl} (h : P.ok) : P.totW (P.n * 16) = wrap64 P.tot := by
  rw [Pl.totW_eq, Nat.mul_comm, Pl.tot_cells h]
theorem Pl.totW_yes {P : Pl} {k : Nat} (h : (P.cell (k : Int)).2 = 0) : P.totW (k + 1) = wrap64 (P.totW k + (P.cell (k : Int)).1) := by
  rw [show P.totW (k + 1) = if (P.cell (k : Int)).2 = 0 then wrap64 (P.totW k + (P.cell (k : Int)).1) else P.totW k from rfl, if_pos h]
theorem Pl.totW_no {P : Pl} {k : Nat} (h : ¬ (P.cell (k : Int)).2 = 0) : P.totW (k + 1) = P.totW k := by
  rw [show P.totW (k + 1) = if (P.cell (k : Int)).2 = 0 then wrap64 (P.totW k + (P.cell (k : Int)).1) else P.totW k from rfl, if_neg h]

theorem total_rep (w : World) (p b : Nat) (P : Pl) (h : PRep w p b P) :
    Calls Try.prog 30 #[.pointer (some ⟨p, 0, none⟩), .int .i64 (P.n : Nat)] w fun e w' => e = .returned (.int .i64 (P.totW (P.n * 16))) ∧ Drew w w' := by
  refine calls_abs fun R hR => ?_
  have H := Lib.hid h
  have h24 := h.n24
  clear h
  go_enter Try.func30, Try.ntmps30
  go_wp2_with fail
  go_loopw [5, 6] (fun s v wr => ∃ x : Nat, x ≤ P.n * 16 ∧ v = .int .i64 x ∧ s = .int .i64 (P.totW x) ∧ Drew w wr) (fun _ v _ => P.n * 16 - (intOf v).toNat)
  case atStart => exact ⟨0, by omega, rfl, rfl, Drew.refl _⟩
  case round =>
    obtain ⟨x, hx, rfl, rfl, hd⟩ := hrel
    have hd1 : Hid (Drew w wr) := hd
    have HP : Hid (PRep wr p b P) := H.out.drewTo hd
    clear hd
    by_cases hlt : x < P.n * 16
    · have e1 := cell_rep wr p b P HP.out (x : Int)
      by_cases h2 : (P.cell (x : Int)).2 = 0
      · have et := Lib.hid (Pl.totW_yes h2)
        rw [h2] at e1
        generalize (P.cell (x : Int)).1 = v1 at *
        generalize P.totW x = s at *
        clear h2
        go_wp2_with fail
        refine e1.mono ?_
        rintro e w2 ⟨rfl, hd2⟩
        have HD2 : Hid (Drew w w2) := hd1.out.trans hd2
        clear hd2
        go_wp2_with fail
        exact ⟨⟨x + 1, by omega, by go_num, by rw [et.out], HD2.out⟩, by simp [intOf]; omega⟩
      · have et := Lib.hid (Pl.totW_no h2)
        generalize (P.cell (x : Int)).1 = v1 at *
        generalize (P.cell (x : Int)).2 = v2 at *
        generalize P.totW x = s at *
        go_wp2_with fail
        refine e1.mono ?_
        rintro e w2 ⟨rfl, hd2⟩
        have HD2 : Hid (Drew w w2) := hd1.out.trans hd2
        clear hd2
        go_wp2_with fail
        exact ⟨⟨x + 1, by omega, by go_num, by rw [et.out], HD2.out⟩, by simp [intOf]; omega⟩
    · have e9 : x = P.n * 16 := by omega
      have hr := Lib.hid e9
      have E3 : Hid (P.totW x = P.totW (P.n * 16)) := congrArg P.totW hr.out
      generalize P.totW x = s at *
      clear e9
      go_wp2_with fail
      exact hR.out _ _ ⟨congrArg (fun n => Ending.returned (.int .i64 n)) E3.out, hd1.out⟩
end Go.Proofs.Ytngmiacekcmidaa
