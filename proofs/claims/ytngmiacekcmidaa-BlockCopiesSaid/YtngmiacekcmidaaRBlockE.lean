/- Contracts of the reference's pools over the model Pl: Class, Used, Room, Pages, partly. -/
import Derived.Test.YtngmiacekcmidaaRBlockD
namespace Go.Proofs.Ytngmiacekcmidaa
open Go.RowKit
set_option maxHeartbeats 1600000
set_option maxRecDepth 100000
set_option linter.unusedVariables false

theorem rclass_rep (w : World) (q k c l : Nat) (P : Pl) (h : RRep w q k c l P) (i : Int) :
    Calls Try.prog 36 #[.pointer (some ⟨q, 0, none⟩), .int .i64 i] w (Exact w (.tuple #[.int .i64 (P.class i).1, .int .i64 (P.class i).2])) := by
  refine calls_abs fun R hR => ?_
  obtain ⟨c1, c2, c3, z0, z1, z2, _⟩ := h.facts
  have h24 := h.n24
  by_cases h0 : i < 0
  · rw [show P.class i = (0, 1) by unfold Pl.class; rw [if_pos (.inl h0)]] at hR
    have h0' : decide (i < 0) = true := by simpa using h0
    go_enter Try.func36, Try.ntmps36
    go_wp2_with fail
    exact hR.out _ _ ⟨rfl, rfl⟩
  · have h0' : decide (i < 0) = false := by simpa using h0
    obtain ⟨I, rfl⟩ : ∃ I : Nat, i = I := ⟨i.toNat, by omega⟩
    by_cases h1 : P.n ≤ I
    · rw [show P.class (I : Int) = (0, 1) by unfold Pl.class; rw [if_pos (.inr (by omega))]] at hR
      go_enter Try.func36, Try.ntmps36
      go_wp2_with fail
      exact hR.out _ _ ⟨rfl, rfl⟩
    · have h1' : decide (P.n ≤ I) = false := by simpa using h1
      have hlt : I < P.n := by omega
      have hpc := h.kind I hlt
      rw [show P.class (I : Int) = ((P.pg I).cls, 0) by unfold Pl.class; rw [if_neg (by omega)]; simp] at hR
      have H := Lib.hid h
      clear h h1
      go_enter Try.func36, Try.ntmps36
      go_wp2_with fail
      exact hR.out _ _ ⟨rfl, rfl⟩

theorem usedN_leR (P : Pl) (c : Int) (k : Nat) : P.usedN c k ≤ 8 * k := sumN_le fun i _ => by unfold Pl.usedF; split; exact Pg.count_le _; omega
theorem roomN_leR (P : Pl) (c : Int) (hc : IsC c) (k : Nat) : P.roomN c k ≤ 8 * k := sumN_le fun i _ => by have := hc.sz; unfold Pl.roomF; split; omega; split; omega; omega
theorem rused_rep (w : World) (q k c l : Nat) (P : Pl) (h : RRep w q k c l P) (hok : P.ok) (cl : Int) :
    Calls Try.prog 37 #[.pointer (some ⟨q, 0, none⟩), .int .i64 cl] w (Exact w (.tuple #[.int .i64 (P.used cl).1, .int .i64 (P.used cl).2])) := by
  refine calls_abs fun R hR => ?_
  by_cases hC : IsC cl
  · rw [show P.used cl = (((P.usedN cl P.n : Nat) : Int), 0) by unfold Pl.used; rw [if_neg (isC_iff.2 hC)]] at hR
    have hlo : decide (cl < 0) = false := by simp; rcases hC with e | e | e <;> omega
    have hhi : decide (2 < cl) = false := by simp; rcases hC with e | e | e <;> omega
    obtain ⟨c1, c2, c3, z0, z1, z2, _⟩ := h.facts
    have h24 := h.n24
    have H := Lib.hid h
    have HOK := Lib.hid hok
    clear h hok
    go_enter Try.func37, Try.ntmps37
    go_wp2_with fail
    go_loop [6, 7] (fun n i => ∃ x : Nat, x ≤ P.n ∧ i = .int .i64 x ∧ n = .int .i64 (P.usedN cl x : Nat)) (fun _ i => P.n - (intOf i).toNat)
    case atStart => exact ⟨0, by omega, rfl, rfl⟩
    case round =>
      obtain ⟨x, hx, rfl, rfl⟩ := hrel
      have hle := usedN_leR P cl x
      by_cases hlt : x < P.n
      · have hkind := H.out.kind x hlt
        have hs : Hid (P.usedN cl (x + 1) = P.usedN cl x + P.usedF cl x) := rfl
        have hu : Hid (P.usedF cl x = if (P.pg x).cls = cl then (P.pg x).count else 0) := rfl
        have h8 := (P.pg x).count_le
        cases he : ((P.pg x).cls == cl)
        · have he' : ¬ (P.pg x).cls = cl := by simpa using he
          have HE := Lib.hid he'
          clear he'
          go_wp2_with fail
          go_round
          case rel => exact ⟨x + 1, by omega, by go_num, by rw [hs.out, hu.out, if_neg HE.out]; rfl⟩
          case measure => simp [intOf]; omega
        · have he' : (P.pg x).cls = cl := by simpa using he
          have HE := Lib.hid he'
          clear he'
          go_wp2_with fail
          refine (rcount_of w q k c l P H.out x hlt (HOK.out x hlt).w).mono ?_
          rintro e _ ⟨rfl, rfl⟩
          go_wp2_with fail
          go_round
          case rel => exact ⟨x + 1, by omega, by go_num, by rw [hs.out, hu.out, if_pos HE.out]; go_num⟩
          case measure => simp [intOf]; omega
      · obtain rfl : x = P.n := by omega
        go_wp2_with fail
        exact hR.out _ _ ⟨rfl, rfl⟩
  · rw [show P.used cl = (0, 1) by unfold Pl.used; rw [if_pos (by unfold IsC at hC; omega)]] at hR
    by_cases hlo : cl < 0
    · have hlo' : decide (cl < 0) = true := by simpa using hlo
      go_enter Try.func37, Try.ntmps37
      go_wp2_with fail
      exact hR.out _ _ ⟨rfl, rfl⟩
    · have hlo' : decide (cl < 0) = false := by simpa using hlo
      have hhi' : decide (2 < cl) = true := by simp; unfold IsC at hC; omega
      go_enter Try.func37, Try.ntmps37
      go_wp2_with fail
      exact hR.out _ _ ⟨rfl, rfl⟩

theorem rroom_rep (w : World) (q k c l : Nat) (P : Pl) (h : RRep w q k c l P) (hok : P.ok) (cl : Int) :
    Calls Try.prog 38 #[.pointer (some ⟨q, 0, none⟩), .int .i64 cl] w (Exact w (.tuple #[.int .i64 (P.room cl).1, .int .i64 (P.room cl).2])) := by
  refine calls_abs fun R hR => ?_
  by_cases hC : IsC cl
  · rw [show P.room cl = (((P.roomN cl P.n : Nat) : Int), 0) by unfold Pl.room; rw [if_neg (isC_iff.2 hC)]] at hR
    have hlo : decide (cl < 0) = false := by simp; rcases hC with e | e | e <;> omega
    have hhi : decide (2 < cl) = false := by simp; rcases hC with e | e | e <;> omega
    have hcm : Hid (cl ≠ -1) := by show _ ≠ _; rcases hC with h | h | h <;> omega
    obtain ⟨c1, c2, c3, z0, z1, z2, _⟩ := h.facts
    have h24 := h.n24
    have H := Lib.hid h
    have HOK := Lib.hid hok
    have hcut := fun wx => cut_of wx cl hC
    have hsz := hC.sz
    have hfull := hC.full
    obtain ⟨z, hz⟩ : ∃ z, z = bsz cl := ⟨_, rfl⟩
    obtain ⟨n, hn⟩ : ∃ n, n = bpt cl := ⟨_, rfl⟩
    have hrl := roomN_leR P cl hC
    have hru : Hid (∀ x, P.roomF cl x = if (P.pg x).cls = -1 then n else if (P.pg x).cls = cl then n - (P.pg x).count else 0) := by intro x; rw [hn]; rfl
    have hcb : Hid (∀ x, x < P.n → (P.pg x).cls = cl → (P.pg x).count ≤ n) := by
      intro x hx e
      rw [hn, ← e]
      exact (hok x hx).count_le (by rw [e]; exact hcm.out)
    rw [← hz] at hcut hsz hfull
    rw [← hn] at hfull hsz
    have hdiv : (16 : Int) / (z : Int) = (n : Int) := by
      have e1 : 16 / z = n := by rw [← hfull]; exact Nat.mul_div_cancel _ (by omega)
      rw [← e1]; simp
    have hz2 : 0 < z := by omega
    have hn8 : n ≤ 8 := by omega
    have hzz : ((z : Int) == 0) = false := by simp; omega
    have HRL := Lib.hid hrl
    clear h hok hz hn hfull hsz hrl
    go_enter Try.func38, Try.ntmps38
    go_wp2_with fail
    refine (hcut _).mono ?_
    rintro e _ ⟨rfl, rfl⟩
    go_wp2_with fail
    rw [hdiv]
    clear hdiv
    go_loop [7, 8] (fun s i => ∃ x : Nat, x ≤ P.n ∧ i = .int .i64 x ∧ s = .int .i64 (P.roomN cl x : Nat)) (fun _ i => P.n - (intOf i).toNat)
    case atStart => exact ⟨0, by omega, rfl, rfl⟩
    case round =>
      obtain ⟨x, hx, rfl, rfl⟩ := hrel
      have hle := HRL.out x
      by_cases hlt : x < P.n
      · have hkind := H.out.kind x hlt
        have hs : Hid (P.roomN cl (x + 1) = P.roomN cl x + P.roomF cl x) := rfl
        have h8 := (P.pg x).count_le
        cases he : ((P.pg x).cls == cl)
        · have he' : ¬ (P.pg x).cls = cl := by simpa using he
          have HE := Lib.hid he'
          clear he'
          cases hm : ((P.pg x).cls == -1)
          · have hm' : ¬ (P.pg x).cls = -1 := by simpa using hm
            have HM := Lib.hid hm'
            clear hm'
            go_wp2_with fail
            go_round
            case rel => exact ⟨x + 1, by omega, by go_num, by rw [hs.out, hru.out, if_neg HM.out, if_neg HE.out]; rfl⟩
            case measure => simp [intOf]; omega
          · have hm' : (P.pg x).cls = -1 := by simpa using hm
            have HM := Lib.hid hm'
            clear hm'
            go_wp2_with fail
            go_round
            case rel => exact ⟨x + 1, by omega, by go_num, by rw [hs.out, hru.out, if_pos HM.out]; go_num⟩
            case measure => simp [intOf]; omega
        · have he' : (P.pg x).cls = cl := by simpa using he
          have hcl := hcb.out x hlt he'
          have hm : ((P.pg x).cls == -1) = false := by rw [beq_eq_false_iff_ne, he']; exact hcm.out
          have hm' : ¬ (P.pg x).cls = -1 := by rw [he']; exact hcm.out
          have HE := Lib.hid he'
          have HM := Lib.hid hm'
          clear he' hm'
          go_wp2_with fail
          refine (rcount_of w q k c l P H.out x hlt (HOK.out x hlt).w).mono ?_
          rintro e _ ⟨rfl, rfl⟩
          have hwr : IntKind.i64.wrap ((n : Int) - ((P.pg x).count : Int)) = (n : Int) - ((P.pg x).count : Int) := IntWalk.i64_in _ (by omega)
          have hwr2 : IntKind.i64.wrap ((P.roomN cl x : Int) + ((n : Int) - ((P.pg x).count : Int))) = (P.roomN cl x : Int) + ((n : Int) - ((P.pg x).count : Int)) := IntWalk.i64_in _ (by omega)
          go_wp2_with fail
          go_round
          case rel => exact ⟨x + 1, by omega, by go_num, by rw [hs.out, hru.out, if_neg HM.out, if_pos HE.out]; go_num⟩
          case measure => simp [intOf]; omega
      · obtain rfl : x = P.n := by omega
        go_wp2_with fail
        exact hR.out _ _ ⟨rfl, rfl⟩
  · rw [show P.room cl = (0, 1) by unfold Pl.room; rw [if_pos (by unfold IsC at hC; omega)]] at hR
    by_cases hlo : cl < 0
    · have hlo' : decide (cl < 0) = true := by simpa using hlo
      go_enter Try.func38, Try.ntmps38
      go_wp2_with fail
      exact hR.out _ _ ⟨rfl, rfl⟩
    · have hlo' : decide (cl < 0) = false := by simpa using hlo
      have hhi' : decide (2 < cl) = true := by simp; unfold IsC at hC; omega
      go_enter Try.func38, Try.ntmps38
      go_wp2_with fail
      exact hR.out _ _ ⟨rfl, rfl⟩

theorem gapV_neg {P : Pl} {i : Nat} (hok : (P.pg i).ok) (hC : IsC (P.pg i).cls) : decide (0 ≤ gapV P i) = (P.pg i).partly (P.pg i).cls := by
  cases hp : (P.pg i).partly (P.pg i).cls with
  | true => rw [(gapV_yes hok hC hp).1]; rw [decide_eq_true_eq]; omega
  | false => rw [gapV_no hok hC rfl hp]; rfl
theorem rpages_rep (w : World) (q k c l : Nat) (P : Pl) (h : RRep w q k c l P) (hok : P.ok) :
    Calls Try.prog 66 #[.pointer (some ⟨q, 0, none⟩)] w (Exact w (.tuple #[.int .i64 (P.freeN P.n : Nat), .int .i64 (P.partN P.n : Nat), .int .i64 (P.fullN P.n : Nat)])) := by
  refine calls_abs fun R hR => ?_
  obtain ⟨c1, c2, c3, z0, z1, z2, _⟩ := h.facts
  have h24 := h.n24
  have H := Lib.hid h
  have HOK := Lib.hid hok
  clear h hok
  go_enter Try.func66, Try.ntmps66
  go_wp2_with fail
  go_loop [5, 6, 7, 8] (fun x y z i => ∃ n : Nat, n ≤ P.n ∧ i = .int .i64 n ∧ x = .int .i64 (P.freeN n : Nat) ∧ y = .int .i64 (P.partN n : Nat) ∧ z = .int .i64 (P.fullN n : Nat)) (fun _ _ _ i => P.n - (intOf i).toNat)
  case atStart => exact ⟨0, by omega, rfl, rfl, rfl, rfl⟩
  case round =>
    obtain ⟨n, hn, rfl, rfl, rfl, rfl⟩ := hrel
    have l1 : P.freeN n ≤ 1 * n := sumN_le fun i _ => by unfold Pl.freeF; split <;> omega
    have l2 : P.partN n ≤ 1 * n := sumN_le fun i _ => by unfold Pl.partF; split <;> omega
    have l3 : P.fullN n ≤ 1 * n := sumN_le fun i _ => by unfold Pl.fullF; split <;> omega
    by_cases hlt : n < P.n
    · have hkind := H.out.kind n hlt
      have s1 : Hid (P.freeN (n + 1) = P.freeN n + if (P.pg n).cls < 0 then 1 else 0) := rfl
      have s2 : Hid (P.partN (n + 1) = P.partN n + if 0 ≤ (P.pg n).cls ∧ (P.pg n).partly (P.pg n).cls = true then 1 else 0) := rfl
      have s3 : Hid (P.fullN (n + 1) = P.fullN n + if 0 ≤ (P.pg n).cls ∧ (P.pg n).partly (P.pg n).cls = false then 1 else 0) := rfl
      rcases (HOK.out n hlt).cls with hf | hC
      · have hE : ((P.pg n).cls == -1) = true := by simpa using hf
        have HF := Lib.hid hf
        clear hf
        go_wp2_with fail
        go_round
        case rel => exact ⟨n + 1, by omega, by go_num, by rw [s1.out, if_pos (by rw [HF.out]; decide)]; go_num, by rw [s2.out, if_neg (by rw [HF.out]; simp)]; rfl, by rw [s3.out, if_neg (by rw [HF.out]; simp)]; rfl⟩
        case measure => simp [intOf]; omega
      · have hE : ((P.pg n).cls == -1) = false := by rw [beq_eq_false_iff_ne]; rcases hC with e | e | e <;> omega
        have h0 : Hid (0 ≤ (P.pg n).cls) := by show 0 ≤ _; rcases hC with e | e | e <;> omega
        have hg := rgap_of w q k c l P H.out n hlt hC
        have hgv := gapV_neg (HOK.out n hlt) hC
        cases hp : (P.pg n).partly (P.pg n).cls with
        | true =>
          rw [hp] at hgv s2 s3
          clear hp
          go_wp2_with fail
          refine hg.mono ?_
          rintro e _ ⟨rfl, rfl⟩
          go_wp2_with fail
          go_round
          case rel => exact ⟨n + 1, by omega, by go_num, by rw [s1.out, if_neg (by have := h0.out; omega)]; rfl, by rw [s2.out, if_pos ⟨h0.out, by trivial⟩]; go_num, by rw [s3.out, if_neg (by simp)]; rfl⟩
          case measure => simp [intOf]; omega
        | false =>
          rw [hp] at hgv s2 s3
          clear hp
          go_wp2_with fail
          refine hg.mono ?_
          rintro e _ ⟨rfl, rfl⟩
          go_wp2_with fail
          go_round
          case rel => exact ⟨n + 1, by omega, by go_num, by rw [s1.out, if_neg (by have := h0.out; omega)]; rfl, by rw [s2.out, if_neg (by simp)]; rfl, by rw [s3.out, if_pos ⟨h0.out, by trivial⟩]; go_num⟩
          case measure => simp [intOf]; omega
    · obtain rfl : n = P.n := by omega
      go_wp2_with fail
      go_ret3
      exact hR.out _ _ ⟨rfl, rfl⟩

theorem rpartly_of (w : World) (q k c l : Nat) (P : Pl) (h : RRep w q k c l P) (i : Nat) (hi : i < P.n) (hok : (P.pg i).ok) (cl : Int) (hC : IsC cl) :
    Calls Try.prog 72 #[.pointer (some ⟨q, 0, none⟩), .int .i64 i, .int .i64 cl] w (Exact w (.bool ((P.pg i).partly cl))) := by
  refine calls_abs fun R hR => ?_
  obtain ⟨c1, c2, c3, z0, z1, z2, _⟩ := h.facts
  have h24 := h.n24
  have hkind := h.kind i hi
  cases he : ((P.pg i).cls == cl)
  · have hp : Hid ((P.pg i).partly cl = false) := by show _ = _; unfold Pg.partly; rw [he]; rfl
    go_enter Try.func72, Try.ntmps72
    go_wp2_with fail
    exact hR.out _ _ ⟨by rw [hp.out]; rfl, rfl⟩
  · have he' : (P.pg i).cls = cl := by simpa using he
    have hg := rgap_of w q k c l P h i hi (by rw [he']; exact hC)
    have hgv : Hid (decide (0 ≤ gapV P i) = (P.pg i).partly cl) := by have := gapV_neg hok (by rw [he']; exact hC); rw [he'] at this; exact this
    clear he'
    go_enter Try.func72, Try.ntmps72
    go_wp2_with fail
    refine hg.mono ?_
    rintro e _ ⟨rfl, rfl⟩
    go_wp2_with fail
    exact hR.out _ _ ⟨by rw [← hgv.out]; rfl, rfl⟩
end Go.Proofs.Ytngmiacekcmidaa
