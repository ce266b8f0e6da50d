/- Contracts of package block's pools over the model Pl: Begin, Cell, SetCell, Free. -/
import Derived.Test.YtngmiacekcmidaaBlockE
namespace Go.Proofs.Ytngmiacekcmidaa
open Go.RowKit
set_option maxHeartbeats 400000
set_option maxRecDepth 100000
set_option linter.unusedVariables false

theorem where_free (w : World) (p b : Nat) (P : Pl) (h : PRep w p b P) (A : Nat) (hA : A < 16 * P.n) (hc : (P.pg (A / 16)).cls < 0) :
    Calls Try.prog 61 #[.pointer (some ⟨p, 0, none⟩), .int .i64 A] w (Exact w (.tuple #[.pointer none, .int .i64 0, .bool false])) := by
  refine calls_abs fun R hR => ?_
  obtain ⟨cap, h0, hf, _⟩ := h.facts
  have h24 := h.n24
  obtain ⟨i, hi⟩ : ∃ i, i = A / 16 := ⟨_, rfl⟩
  rw [← hi] at hc
  have hin : i < P.n := by omega
  have hq : (A : Int) / 16 = (i : Int) := by omega
  have hpc := (h.pg i hin).cls
  have HI := Lib.hid hi
  clear h hi
  go_enter Try.func61, Try.ntmps61
  go_wp2_with fail
  go_ret3
  exact hR.out _ _ ⟨rfl, rfl⟩
theorem where_used (w : World) (p b : Nat) (P : Pl) (h : PRep w p b P) (A : Nat) (hA : A < 16 * P.n) (hc : ¬ (P.pg (A / 16)).cls < 0) :
    Calls Try.prog 61 #[.pointer (some ⟨p, 0, none⟩), .int .i64 A] w fun e w' =>
      e = .returned (.tuple #[.pointer (some ⟨b, A / 16 * 25, none⟩), .int .i64 ((A % 16 / bsz (P.pg (A / 16)).cls : Nat) : Int), .bool ((P.pg (A / 16)).used (A % 16 / bsz (P.pg (A / 16)).cls))]) ∧ ∃ n, w' = w.drewN n := by
  refine calls_abs fun R hR => ?_
  obtain ⟨cap, h0, hf, _⟩ := h.facts
  have h24 := h.n24
  have HR0 := Lib.hid hR
  obtain ⟨i, hi⟩ : ∃ i, i = A / 16 := ⟨_, rfl⟩
  obtain ⟨j, hj⟩ : ∃ j, j = A % 16 := ⟨_, rfl⟩
  rw [← hi, ← hj] at hR
  rw [← hi] at hc
  have hin : i < P.n := by omega
  have hj16 : j < 16 := by omega
  have hq : (A : Int) / 16 = (i : Int) := by omega
  have hr : (A : Int) % 16 = (j : Int) := by omega
  have hpg := h.pg i hin
  have hpc := hpg.cls
  have hC : IsC (P.pg i).cls := by
    rcases (h.ok i hin).cls with h1 | h1
    · omega
    · exact h1
  obtain ⟨z, hz⟩ : ∃ z, z = bsz (P.pg i).cls := ⟨_, rfl⟩
  obtain ⟨k, hk⟩ : ∃ k, k = j / z := ⟨_, rfl⟩
  rw [← hz, ← hk] at hR
  have hk8 : k < 8 := by have h1 := (hC.div hj16).1; have := hC.sz; rw [← hz, ← hk] at h1; omega
  have hz2 : 2 ≤ z := by have := hC.sz; omega
  have hz8 : z ≤ 8 := by have := hC.sz; omega
  have hu := hpg.used hk8
  have hdiv : (j : Int) / (z : Int) = (k : Int) := by rw [hk]; simp
  have hsize : ∀ wx, Calls Try.prog 54 #[.int .i64 (P.pg i).cls] wx (Exact wx (.int .i64 (z : Int))) := fun wx => by rw [hz]; exact size_of wx _ hC
  have hz0 : ((z : Int) == 0) = false := by simp; omega
  have hc' : decide ((P.pg i).cls < 0) = false := by simpa using hc
  clear h hi hj hz hk hpg HR0
  go_enter Try.func61, Try.ntmps61
  go_wp2_with fail
  refine (hsize _).mono ?_
  rintro e _ ⟨rfl, rfl⟩
  go_wp2_with fail
  go_quiet (fail)
  go_wp2_with fail
  go_ret3
  exact hR.out _ _ ⟨rfl, _, rfl⟩

/-- An address within a page in use, taken apart. -/
structure Split (P : Pl) (A i j k z m : Nat) : Prop where
  hi : i = A / 16
  hj : j = A % 16
  hz : z = bsz (P.pg i).cls
  hk : k = j / z
  hm : m = k * z
  hin : i < P.n
  hj16 : j < 16
  hC : IsC (P.pg i).cls
  hk8 : k < 8
  hz2 : 2 ≤ z
  hz8 : z ≤ 8
  hm16 : m + z ≤ 16
  hkp : k < bpt (P.pg i).cls
theorem split_of {P : Pl} (hok : P.ok) {A : Nat} (hA : A < 16 * P.n) (hc : ¬ (P.pg (A / 16)).cls < 0) : ∃ i j k z m, Split P A i j k z m := by
  have hin : A / 16 < P.n := by omega
  have hC : IsC (P.pg (A / 16)).cls := by
    rcases (hok _ hin).cls with h1 | h1
    · omega
    · exact h1
  have hsz := hC.sz
  have hd := hC.div (j := A % 16) (by omega)
  exact ⟨_, _, _, _, _, rfl, rfl, rfl, rfl, rfl, hin, by omega, hC, by omega, by omega, by omega, (hC.blk hd.1).1, hd.1⟩
theorem where_at (w : World) (p b : Nat) (P : Pl) (h : PRep w p b P) {A i j k z m : Nat} (hA : A < 16 * P.n) (s : Split P A i j k z m) :
    Calls Try.prog 61 #[.pointer (some ⟨p, 0, none⟩), .int .i64 A] w fun e w' =>
      e = .returned (.tuple #[.pointer (some ⟨b, i * 25, none⟩), .int .i64 k, .bool ((P.pg i).used k)]) ∧ ∃ n, w' = w.drewN n := by
  have h1 := s.hi
  have hc : ¬ (P.pg (A / 16)).cls < 0 := by rw [← h1]; rcases s.hC with h2 | h2 | h2 <;> omega
  have h3 := where_used w p b P h A hA hc
  rw [← h1, ← s.hj, ← s.hz, ← s.hk] at h3
  exact h3

theorem begin_rep (w : World) (p b : Nat) (P : Pl) (h : PRep w p b P) (a : Int) :
    Calls Try.prog 21 #[.pointer (some ⟨p, 0, none⟩), .int .i64 a] w fun e w' =>
      e = .returned (.tuple #[.int .i64 (P.begin a).1, .int .i64 (P.begin a).2]) ∧ ∃ n, w' = w.drewN n := by
  refine calls_abs fun R hR => ?_
  cases ha : P.addr a with
  | false =>
    rw [Pl.begin_bad ha] at hR
    go_enter Try.func21, Try.ntmps21
    go_wp2_with fail
    refine (address_rep _ _ _ _ h _).mono ?_
    rintro e _ ⟨rfl, rfl⟩
    rw [ha]
    go_wp2_with fail
    exact hR.out _ _ ⟨rfl, drewN_0 _⟩
  | true =>
    obtain ⟨A, rfl⟩ : ∃ A : Nat, a = A := ⟨a.toNat, by have := Pl.addr_iff.1 ha; omega⟩
    have hA : A < 16 * P.n := by have := Pl.addr_iff.1 ha; omega
    have h24 := h.n24
    by_cases hc : (P.pg (A / 16)).cls < 0
    · have hb := Pl.begin_free ha (by simpa using hc)
      rw [hb] at hR
      clear hb
      have HA := Lib.hid ha
      have hadr := address_rep w _ _ _ h (A : Int)
      rw [ha] at hadr
      clear ha
      go_enter Try.func21, Try.ntmps21
      go_wp2_with fail
      refine hadr.mono ?_
      rintro e _ ⟨rfl, rfl⟩
      go_wp2_with fail
      refine (where_free _ _ _ _ h A hA hc).mono ?_
      rintro e _ ⟨rfl, rfl⟩
      go_wp2_with fail
      exact hR.out _ _ ⟨rfl, drewN_0 _⟩
    · obtain ⟨i, j, k, z, m, s⟩ := split_of h.ok hA hc
      have hadr := address_rep w _ _ _ h (A : Int)
      rw [ha] at hadr
      have hq : (A : Int) / 16 = (i : Int) := by have := s.hi; omega
      have hwh := where_at w p b P h hA s
      have hi24 : i < 24 := by have := s.hin; omega
      have hm16 : m ≤ 16 := by have := s.hm16; omega
      have hkz : (k : Int) * (z : Int) = (m : Int) := by rw [s.hm]; simp
      have hpc := (h.pg i s.hin).cls
      have hsize : ∀ wx, Calls Try.prog 54 #[.int .i64 (P.pg i).cls] wx (Exact wx (.int .i64 (z : Int))) := fun wx => by rw [s.hz]; exact size_of wx _ s.hC
      cases hu : (P.pg i).used k with
      | false =>
        have hb := Pl.begin_no ha (by simpa using hc) (by have h1 := hu; rw [s.hk, s.hz, s.hj, s.hi] at h1; simpa using h1)
        rw [hb] at hR
        rw [hu] at hwh
        clear hb ha hc
        go_enter Try.func21, Try.ntmps21
        go_wp2_with fail
        refine hadr.mono ?_
        rintro e _ ⟨rfl, rfl⟩
        go_wp2_with fail
        refine hwh.mono ?_
        rintro e _ ⟨rfl, n1, rfl⟩
        go_wp2_with fail
        exact hR.out _ _ ⟨rfl, _, rfl⟩
      | true =>
        have hb := Pl.begin_yes ha (by simpa using hc) (by have h1 := hu; rw [s.hk, s.hz, s.hj, s.hi] at h1; simpa using h1)
        have e1 : P.begin (A : Int) = (((i * 16 + m : Nat) : Int), 0) := by rw [hb, s.hm, s.hk, s.hz, s.hj, s.hi]; simp
        rw [e1] at hR
        rw [hu] at hwh
        have hw4 : IntKind.i64.wrap ((i : Int) * 16) = (i : Int) * 16 := IntWalk.i64_in _ (by omega)
        clear hb ha hc e1 hu
        go_enter Try.func21, Try.ntmps21
        go_wp2_with fail
        refine hadr.mono ?_
        rintro e _ ⟨rfl, rfl⟩
        go_wp2_with fail
        refine hwh.mono ?_
        rintro e _ ⟨rfl, n1, rfl⟩
        go_wp2_with fail
        refine (hsize _).mono ?_
        rintro e _ ⟨rfl, rfl⟩
        go_wp2_with fail
        exact hR.out _ _ ⟨rfl, _, rfl⟩
theorem begin_nil (w : World) (a : Int) :
    Calls Try.prog 21 #[.pointer none, .int .i64 a] w (Exact w (.tuple #[.int .i64 0, .int .i64 1])) := by
  refine calls_abs fun R hR => ?_
  go_enter Try.func21, Try.ntmps21
  go_wp2_with fail
  refine (address_nil _ _).mono ?_
  rintro e _ ⟨rfl, rfl⟩
  go_wp2_with fail
  exact hR.out _ _ ⟨rfl, rfl⟩
end Go.Proofs.Ytngmiacekcmidaa
