/- The law's sane; Same of pools that are nil. -/
import Derived.Test.YtngmiacekcmidaaBlockM
namespace Go.Proofs.Ytngmiacekcmidaa
open Go.RowKit
set_option maxHeartbeats 1600000
set_option maxRecDepth 100000
set_option linter.unusedVariables false

def sP0 : Pl := Pl.zero 2
def sP1 : Pl := (sP0.alloc 2).2.2
def sP2 : Pl := (sP1.alloc 2).2.2
def sP3 : Pl := (sP2.alloc 2).2.2
def sP4 : Pl := (sP3.free 0).2
theorem s1 : (sP0.alloc 2).1 = 0 ∧ (sP0.alloc 2).2.1 = 0 := by decide +kernel
theorem s2 : (sP1.alloc 2).1 = 8 ∧ (sP1.alloc 2).2.1 = 0 := by decide +kernel
theorem s3 : (sP2.alloc 2).1 = 16 ∧ (sP2.alloc 2).2.1 = 0 := by decide +kernel
theorem s4 : (sP3.free 0).1 = 0 := by decide +kernel
theorem s5 : sP4.move.1 = 16 ∧ sP4.move.2.1 = 0 ∧ sP4.move.2.2.1 = 0 := by decide +kernel

theorem sane_any (w : World) : Calls Try.prog 13 #[] w fun e w' => e = .returned (.bool true) ∧ Only [] w w' := by
  refine calls_abs fun R hR => ?_
  go_enter Try.func13, Try.ntmps13
  go_wp2_with fail
  refine (new_yes w 2 (by omega) (by omega)).mono ?_
  rintro e w1 ⟨p, b, rfl, h1, o1, hp, hb⟩
  have c1 := fun wx hx => alloc_rep wx p b sP0 hx 2
  rw [s1.1, s1.2] at c1
  have c2 := fun wx hx => alloc_rep wx p b sP1 hx 2
  rw [s2.1, s2.2] at c2
  have c3 := fun wx hx => alloc_rep wx p b sP2 hx 2
  rw [s3.1, s3.2] at c3
  have c4 := fun wx hx => free_rep wx p b sP3 hx 0
  rw [s4] at c4
  have c5 := fun wx hx => move_rep wx p b sP4 hx
  rw [s5.1, s5.2.1, s5.2.2] at c5
  go_wp2_with fail
  refine (c1 _ h1).mono ?_
  rintro e w2 ⟨rfl, h2, o2⟩
  have o2' := o1.trans o2 (fun x hx => .inr (by simp at hx; omega))
  clear o1 o2 h1
  go_wp2_with fail
  refine (c2 _ h2).mono ?_
  rintro e w3 ⟨rfl, h3, o3⟩
  have o3' := o2'.trans o3 (fun x hx => .inr (by simp at hx; omega))
  clear o2' o3 h2
  go_wp2_with fail
  refine (c3 _ h3).mono ?_
  rintro e w4 ⟨rfl, h4, o4⟩
  have o4' := o3'.trans o4 (fun x hx => .inr (by simp at hx; omega))
  clear o3' o4 h3
  go_wp2_with fail
  refine (c4 _ h4).mono ?_
  rintro e w5 ⟨rfl, h5, o5⟩
  have o5' := o4'.trans o5 (fun x hx => .inr (by simp at hx; omega))
  clear o4' o5 h4
  go_wp2_with fail
  refine (c5 _ h5).mono ?_
  rintro e w6 ⟨rfl, h6, o6⟩
  have o6' := o5'.trans o6 (fun x hx => .inr (by simp at hx; omega))
  clear o5' o6 h5 h6 c1 c2 c3 c4 c5
  go_wp2_with fail
  exact hR.out _ _ ⟨rfl, o6'⟩

theorem same_nil (w : World) : Calls Try.prog 45 #[.pointer none, .pointer none] w fun e w' => e = .returned (.bool true) ∧ Drew w w' := by
  refine calls_abs fun R hR => ?_
  go_enter Try.func45, Try.ntmps45
  go_wp2_with fail
  go_quiet (first | (go_at_call 57; exact quiet_exact (none_nil _)))
  go_wp2_with fail
  refine (none_nil _).mono ?_
  rintro e _ ⟨rfl, rfl⟩
  go_wp2_with fail
  refine (none_nil _).mono ?_
  rintro e _ ⟨rfl, rfl⟩
  go_wp2_with fail
  exact hR.out _ _ ⟨rfl, Drew.of _ _⟩
theorem same_nil1 (w : World) (p b : Nat) (P : Pl) (h : PRep w p b P) : Calls Try.prog 45 #[.pointer none, .pointer (some ⟨p, 0, none⟩)] w fun e w' => e = .returned (.bool false) ∧ Drew w w' := by
  refine calls_abs fun R hR => ?_
  have hn := fun n => none_rep (w.drewN n) p b P (h.drewN n)
  go_enter Try.func45, Try.ntmps45
  go_wp2_with fail
  go_quiet (first | (go_at_call 57; first | (with_reducible exact quiet_exact (none_nil _)) | (with_reducible exact quiet_exact (hn _))))
  go_wp2_with fail
  refine (none_nil _).mono ?_
  rintro e _ ⟨rfl, rfl⟩
  go_wp2_with fail
  refine (hn _).mono ?_
  rintro e _ ⟨rfl, rfl⟩
  go_wp2_with fail
  exact hR.out _ _ ⟨rfl, Drew.of _ _⟩
theorem same_nil2 (w : World) (p b : Nat) (P : Pl) (h : PRep w p b P) : Calls Try.prog 45 #[.pointer (some ⟨p, 0, none⟩), .pointer none] w fun e w' => e = .returned (.bool false) ∧ Drew w w' := by
  refine calls_abs fun R hR => ?_
  have hn := fun n => none_rep (w.drewN n) p b P (h.drewN n)
  go_enter Try.func45, Try.ntmps45
  go_wp2_with fail
  go_quiet (first | (go_at_call 57; first | (with_reducible exact quiet_exact (none_nil _)) | (with_reducible exact quiet_exact (hn _))))
  go_wp2_with fail
  refine (hn _).mono ?_
  rintro e _ ⟨rfl, rfl⟩
  go_wp2_with fail
  exact hR.out _ _ ⟨rfl, Drew.of _ _⟩
end Go.Proofs.Ytngmiacekcmidaa
