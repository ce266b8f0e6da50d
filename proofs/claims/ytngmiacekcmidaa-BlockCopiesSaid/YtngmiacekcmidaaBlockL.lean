/- Contracts of package block's pools over the model Pl: Class, Used, Room, Pages. -/
import Derived.Test.YtngmiacekcmidaaBlockK
namespace Go.Proofs.Ytngmiacekcmidaa
open Go.RowKit
set_option maxHeartbeats 1600000
set_option maxRecDepth 100000
set_option linter.unusedVariables false

theorem classOf_rep (w : World) (p b : Nat) (P : Pl) (h : PRep w p b P) (i : Int) :
    Calls Try.prog 31 #[.pointer (some ⟨p, 0, none⟩), .int .i64 i] w (Exact w (.tuple #[.int .i64 (P.class i).1, .int .i64 (P.class i).2])) := by
  refine calls_abs fun R hR => ?_
  obtain ⟨cap, z0, zf, zfb, _⟩ := h.facts
  have h24 := h.n24
  by_cases h0 : i < 0
  · rw [show P.class i = (0, 1) by unfold Pl.class; rw [if_pos (.inl h0)]] at hR
    have h0' : decide (i < 0) = true := by simpa using h0
    go_enter Try.func31, Try.ntmps31
    go_wp2_with fail
    refine (none_rep _ _ _ _ h).mono ?_
    rintro e _ ⟨rfl, rfl⟩
    go_wp2_with fail
    exact hR.out _ _ ⟨rfl, rfl⟩
  · have h0' : decide (i < 0) = false := by simpa using h0
    obtain ⟨I, rfl⟩ : ∃ I : Nat, i = I := ⟨i.toNat, by omega⟩
    by_cases h1 : P.n ≤ I
    · rw [show P.class (I : Int) = (0, 1) by unfold Pl.class; rw [if_pos (.inr (by omega))]] at hR
      go_enter Try.func31, Try.ntmps31
      go_wp2_with fail
      refine (none_rep _ _ _ _ h).mono ?_
      rintro e _ ⟨rfl, rfl⟩
      go_wp2_with fail
      exact hR.out _ _ ⟨rfl, rfl⟩
    · have h1' : decide (P.n ≤ I) = false := by simpa using h1
      have hlt : I < P.n := by omega
      have hpc := (h.pg I hlt).cls
      rw [show P.class (I : Int) = ((P.pg I).cls, 0) by unfold Pl.class; rw [if_neg (by omega)]; simp] at hR
      have H := Lib.hid h
      clear h h1
      go_enter Try.func31, Try.ntmps31
      go_wp2_with fail
      refine (none_rep _ _ _ _ H.out).mono ?_
      rintro e _ ⟨rfl, rfl⟩
      go_wp2_with fail
      exact hR.out _ _ ⟨rfl, rfl⟩
theorem classOf_nil (w : World) (i : Int) : Calls Try.prog 31 #[.pointer none, .int .i64 i] w (Exact w (.tuple #[.int .i64 0, .int .i64 1])) := by
  refine calls_abs fun R hR => ?_
  go_enter Try.func31, Try.ntmps31
  go_wp2_with fail
  refine (none_nil _).mono ?_
  rintro e _ ⟨rfl, rfl⟩
  go_wp2_with fail
  exact hR.out _ _ ⟨rfl, rfl⟩

theorem usedN_le (P : Pl) (c : Int) (k : Nat) : P.usedN c k ≤ 8 * k := sumN_le fun i _ => by unfold Pl.usedF; split; exact Pg.count_le _; omega
theorem roomN_le (P : Pl) (c : Int) (hc : IsC c) (k : Nat) : P.roomN c k ≤ 8 * k := sumN_le fun i _ => by have := hc.sz; unfold Pl.roomF; split; omega; split; omega; omega
theorem used_rep (w : World) (p b : Nat) (P : Pl) (h : PRep w p b P) (c : Int) :
    Calls Try.prog 26 #[.pointer (some ⟨p, 0, none⟩), .int .i64 c] w (Exact w (.tuple #[.int .i64 (P.used c).1, .int .i64 (P.used c).2])) := by
  refine calls_abs fun R hR => ?_
  obtain ⟨cap, z0, zf, zfb, _⟩ := h.facts
  have h24 := h.n24
  have hcls := class_rep w p b P h c
  by_cases hc : IsC c
  · rw [isCB_iff.2 hc] at hcls
    rw [show P.used c = (((P.usedN c P.n : Nat) : Int), 0) by unfold Pl.used; rw [if_neg (isC_iff.2 hc)]] at hR
    have H := Lib.hid h
    clear h
    go_enter Try.func26, Try.ntmps26
    go_wp2_with fail
    refine hcls.mono ?_
    rintro e _ ⟨rfl, rfl⟩
    go_wp2_with fail
    go_loop [6, 17] (fun n i => ∃ k : Nat, k ≤ P.n ∧ i = .int .i64 k ∧ n = .int .i64 (P.usedN c k : Nat)) (fun _ i => P.n - (intOf i).toNat)
    case atStart => exact ⟨0, by omega, rfl, rfl⟩
    case round =>
      obtain ⟨k, hk, rfl, rfl⟩ := hrel
      have hle := usedN_le P c k
      by_cases hlt : k < P.n
      · have hpc := (H.out.pg k hlt).cls
        have hs : Hid (P.usedN c (k + 1) = P.usedN c k + P.usedF c k) := rfl
        have hu : Hid (P.usedF c k = if (P.pg k).cls = c then (P.pg k).count else 0) := rfl
        have h8 := (P.pg k).count_le
        cases he : ((P.pg k).cls == c)
        · have he' : ¬ (P.pg k).cls = c := by simpa using he
          have HE := Lib.hid he'
          clear he'
          go_wp2_with fail
          go_round
          case rel => exact ⟨k + 1, by omega, by go_num, by rw [hs.out, hu.out, if_neg HE.out]; rfl⟩
          case measure => simp [intOf]; omega
        · have he' : (P.pg k).cls = c := by simpa using he
          have HE := Lib.hid he'
          clear he'
          go_wp2_with fail
          refine (count_of _ _ _ _ (H.out.pg k hlt)).mono ?_
          rintro e _ ⟨rfl, rfl⟩
          go_wp2_with fail
          go_round
          case rel => exact ⟨k + 1, by omega, by go_num, by rw [hs.out, hu.out, if_pos HE.out]; go_num⟩
          case measure => simp [intOf]; omega
      · obtain rfl : k = P.n := by omega
        go_wp2_with fail
        exact hR.out _ _ ⟨rfl, rfl⟩
  · have hf : isCB c = false := by
      cases hq : isCB c with
      | false => rfl
      | true => exact absurd (isCB_iff.1 hq) hc
    rw [hf] at hcls
    rw [show P.used c = (0, 1) by unfold Pl.used; rw [if_pos (by unfold IsC at hc; omega)]] at hR
    clear hf
    go_enter Try.func26, Try.ntmps26
    go_wp2_with fail
    refine hcls.mono ?_
    rintro e _ ⟨rfl, rfl⟩
    go_wp2_with fail
    exact hR.out _ _ ⟨rfl, rfl⟩
theorem used_nil (w : World) (c : Int) : Calls Try.prog 26 #[.pointer none, .int .i64 c] w (Exact w (.tuple #[.int .i64 0, .int .i64 1])) := by
  refine calls_abs fun R hR => ?_
  go_enter Try.func26, Try.ntmps26
  go_wp2_with fail
  refine (class_nil _ _).mono ?_
  rintro e _ ⟨rfl, rfl⟩
  go_wp2_with fail
  exact hR.out _ _ ⟨rfl, rfl⟩

theorem room_rep (w : World) (p b : Nat) (P : Pl) (h : PRep w p b P) (c : Int) :
    Calls Try.prog 25 #[.pointer (some ⟨p, 0, none⟩), .int .i64 c] w fun e w' => e = .returned (.tuple #[.int .i64 (P.room c).1, .int .i64 (P.room c).2]) ∧ Drew w w' := by
  refine calls_abs fun R hR => ?_
  have h24 := h.n24
  have hcls := class_rep w p b P h c
  by_cases hc : IsC c
  · rw [isCB_iff.2 hc] at hcls
    rw [show P.room c = (((P.roomN c P.n : Nat) : Int), 0) by unfold Pl.room; rw [if_neg (isC_iff.2 hc)]] at hR
    obtain ⟨cap, z0, zf, zfb, _⟩ := h.facts
    have H := Lib.hid h
    clear h
    have hcm : (c == -1) = false := by rw [beq_eq_false_iff_ne]; rcases hc with h | h | h <;> omega
    go_enter Try.func25, Try.ntmps25
    go_wp2_with fail
    refine hcls.mono ?_
    rintro e _ ⟨rfl, rfl⟩
    go_wp2_with fail
    go_loopw [6, 17] (fun n i wr => ∃ k : Nat, k ≤ P.n ∧ i = .int .i64 k ∧ n = .int .i64 (P.roomN c k : Nat) ∧ Drew w wr) (fun _ i _ => P.n - (intOf i).toNat)
    case atStart => exact ⟨0, by omega, rfl, rfl, Drew.refl _⟩
    case round =>
      clear z0 zf zfb
      obtain ⟨k, hk, rfl, rfl, hd⟩ := hrel
      have HP1 := Lib.hid (H.out.drewTo hd)
      obtain ⟨cap1, z0, zf, zfb, _⟩ := HP1.out.facts
      have hle := roomN_le P c hc k
      by_cases hlt : k < P.n
      · have hpc := (HP1.out.pg k hlt).cls
        have hs : Hid (P.roomN c (k + 1) = P.roomN c k + P.roomF c k) := rfl
        have hu : Hid (P.roomF c k = if (P.pg k).cls = -1 then bpt c else if (P.pg k).cls = c then bpt c - (P.pg k).count else 0) := rfl
        have h8 := (P.pg k).count_le
        have hb8 : bpt c ≤ 8 := hc.sz.2.2.2
        cases hm : ((P.pg k).cls == -1)
        · have hm' : ¬ (P.pg k).cls = -1 := by simpa using hm
          have hcl := (H.out.ok k hlt).count_le hm'
          have HM := Lib.hid hm'
          clear hm'
          cases he : ((P.pg k).cls == c)
          · have he' : ¬ (P.pg k).cls = c := by simpa using he
            have HE := Lib.hid he'
            clear he'
            go_wp2_with fail
            exact ⟨⟨k + 1, by omega, by go_num, by rw [hs.out, hu.out, if_neg HM.out, if_neg HE.out]; rfl, hd⟩, by simp [intOf]; omega⟩
          · have he' : (P.pg k).cls = c := by simpa using he
            rw [he'] at hcl
            have HE := Lib.hid he'
            clear he'
            have hpt := fun n => parts_of (wr.drewN n) c hc
            have hct := fun n => count_of (wr.drewN n) b (k * 25) (P.pg k) ((HP1.out.pg k hlt).drewN n)
            have hwr : IntKind.i64.wrap ((bpt c : Int) - ((P.pg k).count : Int)) = (bpt c : Int) - ((P.pg k).count : Int) := IntWalk.i64_in _ (by omega)
            have hwr2 : IntKind.i64.wrap ((P.roomN c k : Int) + ((bpt c : Int) - ((P.pg k).count : Int))) = (P.roomN c k : Int) + ((bpt c : Int) - ((P.pg k).count : Int)) := IntWalk.i64_in _ (by omega)
            go_wp2_with fail
            go_quiet (first | (go_at_call 62; with_reducible exact quiet_exact (hpt _)) | (go_at_call 63; with_reducible exact quiet_exact (hct _)))
            go_wp2_with fail
            refine ⟨⟨k + 1, by omega, by go_num, ?_, hd.more _⟩, by simp [intOf]; omega⟩
            rw [hs.out, hu.out, if_neg HM.out, if_pos HE.out]
            go_num
        · have hm' : (P.pg k).cls = -1 := by simpa using hm
          have HM := Lib.hid hm'
          clear hm'
          go_wp2_with fail
          refine (parts_of _ _ hc).mono ?_
          rintro e _ ⟨rfl, rfl⟩
          go_wp2_with fail
          exact ⟨⟨k + 1, by omega, by go_num, by rw [hs.out, hu.out, if_pos HM.out]; go_num, hd⟩, by simp [intOf]; omega⟩
      · obtain rfl : k = P.n := by omega
        go_wp2_with fail
        exact hR.out _ _ ⟨rfl, hd⟩
  · have hf : isCB c = false := by
      cases hq : isCB c with
      | false => rfl
      | true => exact absurd (isCB_iff.1 hq) hc
    rw [hf] at hcls
    rw [show P.room c = (0, 1) by unfold Pl.room; rw [if_pos (by unfold IsC at hc; omega)]] at hR
    clear hf
    go_enter Try.func25, Try.ntmps25
    go_wp2_with fail
    refine hcls.mono ?_
    rintro e _ ⟨rfl, rfl⟩
    go_wp2_with fail
    exact hR.out _ _ ⟨rfl, Drew.refl _⟩
theorem room_nil (w : World) (c : Int) : Calls Try.prog 25 #[.pointer none, .int .i64 c] w (Exact w (.tuple #[.int .i64 0, .int .i64 1])) := by
  refine calls_abs fun R hR => ?_
  go_enter Try.func25, Try.ntmps25
  go_wp2_with fail
  refine (class_nil _ _).mono ?_
  rintro e _ ⟨rfl, rfl⟩
  go_wp2_with fail
  exact hR.out _ _ ⟨rfl, rfl⟩

theorem pages_rep (w : World) (p b : Nat) (P : Pl) (h : PRep w p b P) :
    Calls Try.prog 28 #[.pointer (some ⟨p, 0, none⟩)] w (Exact w (.tuple #[.int .i64 (P.freeN P.n : Nat), .int .i64 (P.partN P.n : Nat), .int .i64 (P.fullN P.n : Nat)])) := by
  refine calls_abs fun R hR => ?_
  have h24 := h.n24
  obtain ⟨cap, z0, zf, zfb, _⟩ := h.facts
  have H := Lib.hid h
  clear h
  go_enter Try.func28, Try.ntmps28
  go_wp2_with fail
  refine (none_rep _ _ _ _ H.out).mono ?_
  rintro e _ ⟨rfl, rfl⟩
  go_wp2_with fail
  go_loop [2, 3, 4, 14] (fun x y z i => ∃ k : Nat, k ≤ P.n ∧ i = .int .i64 k ∧ x = .int .i64 (P.freeN k : Nat) ∧ y = .int .i64 (P.partN k : Nat) ∧ z = .int .i64 (P.fullN k : Nat)) (fun _ _ _ i => P.n - (intOf i).toNat)
  case atStart => exact ⟨0, by omega, rfl, rfl, rfl, rfl⟩
  case round =>
    obtain ⟨k, hk, rfl, rfl, rfl, rfl⟩ := hrel
    have l1 : P.freeN k ≤ 1 * k := sumN_le fun i _ => by unfold Pl.freeF; split <;> omega
    have l2 : P.partN k ≤ 1 * k := sumN_le fun i _ => by unfold Pl.partF; split <;> omega
    have l3 : P.fullN k ≤ 1 * k := sumN_le fun i _ => by unfold Pl.fullF; split <;> omega
    by_cases hlt : k < P.n
    · have hpc := (H.out.pg k hlt).cls
      have s1 : Hid (P.freeN (k + 1) = P.freeN k + if (P.pg k).cls < 0 then 1 else 0) := rfl
      have s2 : Hid (P.partN (k + 1) = P.partN k + if 0 ≤ (P.pg k).cls ∧ (P.pg k).partly (P.pg k).cls = true then 1 else 0) := rfl
      have s3 : Hid (P.fullN (k + 1) = P.fullN k + if 0 ≤ (P.pg k).cls ∧ (P.pg k).partly (P.pg k).cls = false then 1 else 0) := rfl
      by_cases hc : (P.pg k).cls < 0
      · go_wp2_with fail
        go_round
        case rel => exact ⟨k + 1, by omega, by go_num, by rw [s1.out, if_pos hc]; go_num, by rw [s2.out, if_neg (by omega)]; rfl, by rw [s3.out, if_neg (by omega)]; rfl⟩
        case measure => simp [intOf]; omega
      · have hc' : decide ((P.pg k).cls < 0) = false := by simpa using hc
        have hC : IsC (P.pg k).cls := by
          rcases (H.out.ok k hlt).cls with h1 | h1
          · omega
          · exact h1
        have hq := partly_of w b (k * 25) (P.pg k) (H.out.pg k hlt) _ hC
        have HC := Lib.hid hc
        clear hc
        cases hp : (P.pg k).partly (P.pg k).cls with
        | true =>
          rw [hp] at hq s2 s3
          clear hp
          go_wp2_with fail
          refine hq.mono ?_
          rintro e _ ⟨rfl, rfl⟩
          go_wp2_with fail
          go_round
          case rel => exact ⟨k + 1, by omega, by go_num, by rw [s1.out, if_neg (by have := HC.out; omega)]; rfl, by rw [s2.out, if_pos ⟨by have := HC.out; omega, by trivial⟩]; go_num, by rw [s3.out, if_neg (by simp)]; rfl⟩
          case measure => simp [intOf]; omega
        | false =>
          rw [hp] at hq s2 s3
          clear hp
          go_wp2_with fail
          refine hq.mono ?_
          rintro e _ ⟨rfl, rfl⟩
          go_wp2_with fail
          go_round
          case rel => exact ⟨k + 1, by omega, by go_num, by rw [s1.out, if_neg (by have := HC.out; omega)]; rfl, by rw [s2.out, if_neg (by simp)]; rfl, by rw [s3.out, if_pos ⟨by have := HC.out; omega, by trivial⟩]; go_num⟩
          case measure => simp [intOf]; omega
    · obtain rfl : k = P.n := by omega
      go_wp2_with fail
      go_ret3
      exact hR.out _ _ ⟨rfl, rfl⟩
theorem pages_nil (w : World) : Calls Try.prog 28 #[.pointer none] w (Exact w (.tuple #[.int .i64 0, .int .i64 0, .int .i64 0])) := by
  refine calls_abs fun R hR => ?_
  go_enter Try.func28, Try.ntmps28
  go_wp2_with fail
  refine (none_nil _).mono ?_
  rintro e _ ⟨rfl, rfl⟩
  go_wp2_with fail
  go_ret3
  exact hR.out _ _ ⟨rfl, rfl⟩
end Go.Proofs.Ytngmiacekcmidaa
