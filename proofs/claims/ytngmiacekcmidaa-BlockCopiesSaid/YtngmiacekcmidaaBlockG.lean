/- Contracts of package block's pools over the model Pl: Cell, SetCell, Free, Do's parts. -/
import Derived.Test.YtngmiacekcmidaaBlockF
namespace Go.Proofs.Ytngmiacekcmidaa
open Go.RowKit
set_option maxHeartbeats 400000
set_option maxRecDepth 100000
set_option linter.unusedVariables false

/-- What the walks want of an address that lies in a used block. -/
theorem begin_split {P : Pl} (hok : P.ok) {a : Int} (h : (P.begin a).2 = 0) : ∃ A i j k z m : Nat, a = (A : Int) ∧ A < 16 * P.n ∧ Split P A i j k z m ∧ (P.pg i).used k = true ∧ (P.begin a).1 = ((i * 16 + m : Nat) : Int) := by
  obtain ⟨h1, h2, h3, h4, h5, h6, h7⟩ := Pl.begin_ok h
  have hA : a.toNat < 16 * P.n := by have := Pl.addr_iff.1 h1; omega
  obtain ⟨i, j, k, z, m, s⟩ := split_of hok hA h2
  refine ⟨a.toNat, i, j, k, z, m, h7, hA, s, ?_, ?_⟩
  · rw [s.hk, s.hz, s.hj, s.hi]; exact h3
  · rw [h4, s.hm, s.hk, s.hz, s.hj, s.hi]
theorem cell_rep (w : World) (p b : Nat) (P : Pl) (h : PRep w p b P) (a : Int) :
    Calls Try.prog 20 #[.pointer (some ⟨p, 0, none⟩), .int .i64 a] w fun e w' =>
      e = .returned (.tuple #[.int .i64 (P.cell a).1, .int .i64 (P.cell a).2]) ∧ ∃ n, w' = w.drewN n := by
  refine calls_abs fun R hR => ?_
  have hbg := begin_rep w p b P h a
  by_cases h0 : (P.begin a).2 = 0
  · obtain ⟨A, i, j, k, z, m, rfl, hA, s, hu, hb1⟩ := begin_split h.ok h0
    have e1 : P.cell (A : Int) = ((P.pg i).cell j, 0) := by unfold Pl.cell; rw [if_pos h0, s.hj, s.hi]; rfl
    rw [e1] at hR
    rw [h0] at hbg
    obtain ⟨cap, z0, zf, zfb, _⟩ := h.facts
    have hq : (A : Int) / 16 = (i : Int) := by have := s.hi; omega
    have hr : (A : Int) % 16 = (j : Int) := by have := s.hj; omega
    have hi24 : i < 24 := by have := s.hin; have := h.n24; omega
    have hin := s.hin
    have hj16 := s.hj16
    have hcell := (h.pg i hin).cell hj16
    generalize (P.begin (A : Int)).1 = B at hbg
    clear e1 hb1 h0 h s hu
    go_enter Try.func20, Try.ntmps20
    go_wp2_with fail
    refine hbg.mono ?_
    rintro e _ ⟨rfl, n1, rfl⟩
    go_wp2_with fail
    exact hR.out _ _ ⟨rfl, _, rfl⟩
  · have e1 : P.cell a = (0, (P.begin a).2) := by unfold Pl.cell; rw [if_neg h0]
    rw [e1] at hR
    have hne : ((P.begin a).2 != 0) = true := by rw [bne_iff_ne]; exact h0
    clear h0 e1
    go_enter Try.func20, Try.ntmps20
    go_wp2_with fail
    refine hbg.mono ?_
    rintro e _ ⟨rfl, n1, rfl⟩
    go_wp2_with fail
    exact hR.out _ _ ⟨rfl, _, rfl⟩
theorem cell_nil (w : World) (a : Int) :
    Calls Try.prog 20 #[.pointer none, .int .i64 a] w (Exact w (.tuple #[.int .i64 0, .int .i64 1])) := by
  refine calls_abs fun R hR => ?_
  go_enter Try.func20, Try.ntmps20
  go_wp2_with fail
  refine (begin_nil _ _).mono ?_
  rintro e _ ⟨rfl, rfl⟩
  go_wp2_with fail
  exact hR.out _ _ ⟨rfl, rfl⟩

theorem setCell_rep (w : World) (p b : Nat) (P : Pl) (h : PRep w p b P) (a n : Int) :
    Calls Try.prog 17 #[.pointer (some ⟨p, 0, none⟩), .int .i64 a, .int .i64 n] w fun e w' =>
      e = .returned (.int .i64 (P.setCell a n).1) ∧ PRep w' p b (P.setCell a n).2 ∧ Only [b] w w' := by
  refine calls_abs fun R hR => ?_
  have hbg := begin_rep w p b P h a
  by_cases h0 : (P.begin a).2 = 0
  · obtain ⟨A, i, j, k, z, m, rfl, hA, s, hu, hb1⟩ := begin_split h.ok h0
    have e1 : P.setCell (A : Int) n = (0, P.set i { P.pg i with cell := up (P.pg i).cell j n }) := by unfold Pl.setCell; rw [if_pos h0, s.hj, s.hi]; rfl
    rw [e1] at hR
    rw [h0] at hbg
    obtain ⟨cap, z0, zf, zfb, _⟩ := h.facts
    have hq : (A : Int) / 16 = (i : Int) := by have := s.hi; omega
    have hr : (A : Int) % 16 = (j : Int) := by have := s.hj; omega
    have hi24 : i < 24 := by have := s.hin; have := h.n24; omega
    have hin := s.hin
    have hj16 := s.hj16
    have hcell := (h.pg i hin).cell hj16
    have hfin : ∀ n1, PRep ((w.drewN n1).setCell ⟨b, i * 25 + 9 + j, none⟩ (.int .i64 n)) p b (P.set i { P.pg i with cell := up (P.pg i).cell j n }) := fun n1 =>
      (h.drewN n1).turn hin ((((h.pg i hin).drewN n1).setCell hj16 n)) (by rw [Nat.add_assoc]; exact (PgOnly.refl _ _ _).set _ (by omega) _) (h.ok.set ((h.ok i hin).put _))
    have hfin2 : ∀ n1, Only [b] w ((w.drewN n1).setCell ⟨b, i * 25 + 9 + j, none⟩ (.int .i64 n)) := fun n1 => ((Only.refl [b] w).drewN n1).set (by simp) _
    have HF := Lib.hid hfin
    have HF2 := Lib.hid hfin2
    generalize (P.begin (A : Int)).1 = B at hbg
    clear e1 hb1 h0 h s hu hfin hfin2
    go_enter Try.func17, Try.ntmps17
    go_wp2_with fail
    refine hbg.mono ?_
    rintro e _ ⟨rfl, n1, rfl⟩
    go_wp2_with fail
    exact hR.out _ _ ⟨rfl, HF.out _, HF2.out _⟩
  · have e1 : P.setCell a n = ((P.begin a).2, P) := by unfold Pl.setCell; rw [if_neg h0]
    rw [e1] at hR
    have hne : ((P.begin a).2 == 0) = false := by rw [beq_eq_false_iff_ne]; exact h0
    clear h0 e1
    go_enter Try.func17, Try.ntmps17
    go_wp2_with fail
    refine hbg.mono ?_
    rintro e _ ⟨rfl, n1, rfl⟩
    go_wp2_with fail
    exact hR.out _ _ ⟨rfl, h.drewN _, (Only.refl _ _).drewN _⟩
theorem setCell_nil (w : World) (a n : Int) :
    Calls Try.prog 17 #[.pointer none, .int .i64 a, .int .i64 n] w (Exact w (.int .i64 1)) := by
  refine calls_abs fun R hR => ?_
  go_enter Try.func17, Try.ntmps17
  go_wp2_with fail
  refine (begin_nil _ _).mono ?_
  rintro e _ ⟨rfl, rfl⟩
  go_wp2_with fail
  exact hR.out _ _ ⟨rfl, rfl⟩

theorem free_rep (w : World) (p b : Nat) (P : Pl) (h : PRep w p b P) (a : Int) :
    Calls Try.prog 27 #[.pointer (some ⟨p, 0, none⟩), .int .i64 a] w fun e w' =>
      e = .returned (.int .i64 (P.free a).1) ∧ PRep w' p b (P.free a).2 ∧ Only [b] w w' := by
  refine calls_abs fun R hR => ?_
  have hbg := begin_rep w p b P h a
  by_cases h0 : (P.begin a).2 = 0
  · rw [h0] at hbg
    by_cases h1 : (P.begin a).1 = a
    · obtain ⟨A, i, j, k, z, m, rfl, hA, s, hu, hb1⟩ := begin_split h.ok h0
      have e1 : P.free (A : Int) = (0, P.set i ((P.pg i).release k)) := by
        unfold Pl.free
        rw [if_pos h0, if_pos h1, s.hk, s.hz, s.hj, s.hi]; simp
      rw [e1] at hR
      rw [h1] at hbg
      have hwh := fun n1 => where_at (w.drewN n1) p b P (h.drewN n1) hA s
      have hrel := fun n1 => release_of (w.drewN n1) b (i * 25) (P.pg i) ((h.pg i s.hin).drewN n1) (fun x => h.facts.choose_spec.2.2.1 x) k s.hk8
      have hin := s.hin
      have H := Lib.hid h
      have hok : ((P.pg i).release k).ok := (h.ok i hin).release (by rcases s.hC with h2 | h2 | h2 <;> omega) k
      clear e1 hb1 h0 h s h1
      go_enter Try.func27, Try.ntmps27
      go_wp2_with fail
      refine hbg.mono ?_
      rintro e _ ⟨rfl, n1, rfl⟩
      go_wp2_with fail
      refine (hwh n1).mono ?_
      rintro e _ ⟨rfl, n2, rfl⟩
      go_wp2_with fail
      refine (hrel (n1 + n2)).mono ?_
      rintro e w3 ⟨rfl, g3, o3⟩
      go_wp2_with fail
      exact hR.out _ _ ⟨rfl, (H.out.drewN _).turn hin g3 o3 (H.out.ok.set hok), ((Only.refl [b] w).drewN _).trans o3.only (by simp)⟩
    · have e1 : P.free a = (3, P) := by unfold Pl.free; rw [if_pos h0, if_neg h1]
      rw [e1] at hR
      have hne : ((P.begin a).1 != a) = true := by rw [bne_iff_ne]; exact h1
      clear h0 e1 h1
      go_enter Try.func27, Try.ntmps27
      go_wp2_with fail
      refine hbg.mono ?_
      rintro e _ ⟨rfl, n1, rfl⟩
      go_wp2_with fail
      exact hR.out _ _ ⟨rfl, h.drewN _, (Only.refl _ _).drewN _⟩
  · have e1 : P.free a = ((P.begin a).2, P) := by unfold Pl.free; rw [if_neg h0]
    rw [e1] at hR
    have hne : ((P.begin a).2 == 0) = false := by rw [beq_eq_false_iff_ne]; exact h0
    have hne2 : ((P.begin a).2 != 0) = true := by rw [bne_iff_ne]; exact h0
    clear h0 e1
    go_enter Try.func27, Try.ntmps27
    go_wp2_with fail
    refine hbg.mono ?_
    rintro e _ ⟨rfl, n1, rfl⟩
    go_wp2_with fail
    exact hR.out _ _ ⟨rfl, h.drewN _, (Only.refl _ _).drewN _⟩
theorem free_nil (w : World) (a : Int) :
    Calls Try.prog 27 #[.pointer none, .int .i64 a] w (Exact w (.int .i64 1)) := by
  refine calls_abs fun R hR => ?_
  go_enter Try.func27, Try.ntmps27
  go_wp2_with fail
  refine (begin_nil _ _).mono ?_
  rintro e _ ⟨rfl, rfl⟩
  go_wp2_with fail
  exact hR.out _ _ ⟨rfl, rfl⟩
end Go.Proofs.Ytngmiacekcmidaa
