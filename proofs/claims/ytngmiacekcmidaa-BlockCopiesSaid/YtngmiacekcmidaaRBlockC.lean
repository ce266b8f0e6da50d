/- Contracts of the reference's pools over the model Pl: Alloc. -/
import Derived.Test.YtngmiacekcmidaaRBlockB
namespace Go.Proofs.Ytngmiacekcmidaa
open Go.RowKit
set_option maxHeartbeats 3200000
set_option maxRecDepth 100000
set_option linter.unusedVariables false

theorem gapV_no {P : Pl} {i : Nat} (hok : (P.pg i).ok) {c : Int} (hC : IsC c) (he : (P.pg i).cls = c) (hp : (P.pg i).partly c = false) : gapV P i = -1 := by
  unfold gapV
  rw [if_neg]
  rw [gap_partly hok (by rw [he]; exact hC), he, hp]
  simp
theorem gapV_yes {P : Pl} {i : Nat} (hok : (P.pg i).ok) {c : Int} (hC : IsC c) (hp : (P.pg i).partly c = true) : gapV P i = ((16 * i + (P.pg i).gap c * bsz c : Nat) : Int) ∧ (P.pg i).gap c < bpt c := by
  have he := (Pg.partly_iff.1 hp).1
  have hg := (hok.gap hC hp).1
  unfold gapV
  rw [he, if_pos hg]
  exact ⟨rfl, hg⟩

theorem ralloc_part (w : World) (q k c l : Nat) (P : Pl) (h : RRep w q k c l P) (hok : P.ok) (cl : Int) (hC : IsC cl) (i : Nat) (hi : i < P.n) (hp : (P.pg i).partly cl = true) (hb : ∀ j, j < i → (P.pg j).partly cl = false) :
    Calls Try.prog 15 #[.pointer (some ⟨q, 0, none⟩), .int .i64 cl] w fun e w' =>
      e = .returned (.tuple #[.int .i64 ((16 * i + (P.pg i).gap cl * bsz cl : Nat) : Int), .int .i64 0]) ∧ RRep w' q k c l (P.set i ((P.pg i).take cl ((P.pg i).gap cl) fun _ => 0)) ∧ Only [k, c, l] w w' := by
  refine calls_abs fun R hR => ?_
  have hlo : decide (cl < 0) = false := by simp; rcases hC with e | e | e <;> omega
  have hhi : decide (2 < cl) = false := by simp; rcases hC with e | e | e <;> omega
  have hcm : (cl == -1) = false := by rw [beq_eq_false_iff_ne]; rcases hC with e | e | e <;> omega
  obtain ⟨c1, c2, c3, z0, z1, z2, _⟩ := h.facts
  have h24 := h.n24
  have H := Lib.hid h
  have HOK := Lib.hid hok
  have hcut := fun wx => cut_of wx cl hC
  have HBB := Lib.hid hb
  have HPP := Lib.hid hp
  clear h hok hb hp
  go_enter Try.func15, Try.ntmps15
  go_wp2_with fail
  go_loop [6] (fun v => ∃ j : Nat, j ≤ i ∧ v = .int .i64 j) (fun v => i - (intOf v).toNat)
  case atStart => exact ⟨0, by omega, rfl⟩
  case round =>
    obtain ⟨j, hj, rfl⟩ := hrel
    by_cases hlt : j < i
    · have hjn : j < P.n := by omega
      have hkind := H.out.kind j hjn
      have hnp := HBB.out j hlt
      cases hE : ((P.pg j).cls == cl)
      · clear hnp
        go_wp2_with fail
        go_round
        case rel => exact ⟨j + 1, by omega, by go_num⟩
        case measure => simp [intOf]; omega
      · have hE' : (P.pg j).cls = cl := by simpa using hE
        have hgap := rgap_of w q k c l P H.out j hjn (by rw [hE']; exact hC)
        rw [gapV_no (HOK.out j hjn) hC hE' hnp] at hgap
        clear hnp hE'
        go_wp2_with fail
        refine hgap.mono ?_
        rintro e _ ⟨rfl, rfl⟩
        go_wp2_with fail
        go_round
        case rel => exact ⟨j + 1, by omega, by go_num⟩
        case measure => simp [intOf]; omega
    · obtain rfl : j = i := by omega
      have hkind := H.out.kind j hi
      have hE' := (Pg.partly_iff.1 HPP.out).1
      have hE : ((P.pg j).cls == cl) = true := by simpa using hE'
      have hgap := rgap_of w q k c l P H.out j hi (by rw [hE']; exact hC)
      obtain ⟨g1, g2⟩ := gapV_yes (HOK.out j hi) hC HPP.out
      have hval : Hid (((16 * j + (P.pg j).gap cl * bsz cl : Nat) : Int) = gapV P j) := g1.symm
      have hge : 0 ≤ gapV P j := by rw [g1]; omega
      have htk := take_of w q k c l P H.out j hi cl hC hE' ((P.pg j).gap cl) _ _ g2 rfl rfl (gapV P j) (by rw [g1]; omega)
      rw [hval.out] at hR
      clear hE' g1 g2 hlt
      go_wp2_with fail
      refine hgap.mono ?_
      rintro e _ ⟨rfl, rfl⟩
      go_wp2_with fail
      refine hgap.mono ?_
      rintro e _ ⟨rfl, rfl⟩
      go_wp2_with fail
      refine (hcut _).mono ?_
      rintro e _ ⟨rfl, rfl⟩
      go_wp2_with fail
      refine htk.mono ?_
      rintro e w2 ⟨rfl, h2, o2⟩
      go_wp2_with fail
      exact hR.out _ _ ⟨rfl, h2, o2.mono (by simp)⟩

theorem ralloc_new (w : World) (q k c l : Nat) (P : Pl) (h : RRep w q k c l P) (hok : P.ok) (cl : Int) (hC : IsC cl) (hn : ∀ j, j < P.n → (P.pg j).partly cl = false) (i : Nat) (hi : i < P.n) (hp : (P.pg i).cls < 0) (hb : ∀ j, j < i → ¬ (P.pg j).cls < 0) :
    Calls Try.prog 15 #[.pointer (some ⟨q, 0, none⟩), .int .i64 cl] w fun e w' =>
      e = .returned (.tuple #[.int .i64 ((16 * i : Nat) : Int), .int .i64 0]) ∧ RRep w' q k c l (P.set i ((P.pg i).take cl 0 fun _ => 0)) ∧ Only [k, c, l] w w' := by
  refine calls_abs fun R hR => ?_
  have hlo : decide (cl < 0) = false := by simp; rcases hC with e | e | e <;> omega
  have hhi : decide (2 < cl) = false := by simp; rcases hC with e | e | e <;> omega
  have hcm : (cl == -1) = false := by rw [beq_eq_false_iff_ne]; rcases hC with e | e | e <;> omega
  obtain ⟨c1, c2, c3, z0, z1, z2, _⟩ := h.facts
  have h24 := h.n24
  have H := Lib.hid h
  have HOK := Lib.hid hok
  have hcut := fun wx => cut_of wx cl hC
  have HBB := Lib.hid hb
  have HNN := Lib.hid hn
  have hfree : (P.pg i).cls = -1 := ((hok i hi).neg).1 hp
  clear h hok hb hn hp
  go_enter Try.func15, Try.ntmps15
  go_wp2_with fail
  go_loop [6] (fun v => ∃ j : Nat, j ≤ P.n ∧ v = .int .i64 j) (fun v => P.n - (intOf v).toNat)
  case atStart => exact ⟨0, by omega, rfl⟩
  case round =>
    obtain ⟨j, hj, rfl⟩ := hrel
    by_cases hlt : j < P.n
    · have hjn : j < P.n := by omega
      have hkind := H.out.kind j hjn
      have hnp := HNN.out j hlt
      cases hE : ((P.pg j).cls == cl)
      · clear hnp
        go_wp2_with fail
        go_round
        case rel => exact ⟨j + 1, by omega, by go_num⟩
        case measure => simp [intOf]; omega
      · have hE' : (P.pg j).cls = cl := by simpa using hE
        have hgap := rgap_of w q k c l P H.out j hjn (by rw [hE']; exact hC)
        rw [gapV_no (HOK.out j hjn) hC hE' hnp] at hgap
        clear hnp hE'
        go_wp2_with fail
        refine hgap.mono ?_
        rintro e _ ⟨rfl, rfl⟩
        go_wp2_with fail
        go_round
        case rel => exact ⟨j + 1, by omega, by go_num⟩
        case measure => simp [intOf]; omega
    · have hj9 : j = P.n := by omega
      subst hj9
      go_wp2_with fail
      go_loop [8] (fun v => ∃ j : Nat, j ≤ i ∧ v = .int .i64 j) (fun v => i - (intOf v).toNat)
      case atStart => exact ⟨0, by omega, rfl⟩
      case round =>
        clear hlt
        obtain ⟨j, hj, rfl⟩ := hrel
        by_cases hlt : j < i
        · have hjn : j < P.n := by omega
          have hkind := H.out.kind j hjn
          have hnf := HBB.out j hlt
          have hE : ((P.pg j).cls == -1) = false := by rw [beq_eq_false_iff_ne]; omega
          clear hnf
          go_wp2_with fail
          go_round
          case rel => exact ⟨j + 1, by omega, by go_num⟩
          case measure => simp [intOf]; omega
        · obtain rfl : j = i := by omega
          clear hlt
          have hkind := H.out.kind j hi
          have hE : ((P.pg j).cls == -1) = true := by rw [hfree]; rfl
          have hne := H.out.ne
          obtain ⟨n1, n2, n3, n4, n5, n6⟩ := hne
          have hfr := H.out.facts.choose_spec.choose_spec.choose_spec.2.2.2.1
          have h2 := H.out.setKind hi cl (fun x hx => by
            rw [Pg.live_free hfree]
            simp [Pg.live, (HOK.out j hi).free hfree])
          have htk := fun a ha => take_of _ q k c l _ h2 j hi cl hC (by rw [Pl.set_same]) 0 0 (bsz cl) (by have := hC.sz; omega) rfl (by omega) a ha
          rw [Pl.set_same, Pl.set_set] at htk
          have e1 : ({ P.pg j with cls := cl } : Pg).take cl 0 (fun _ => 0) = (P.pg j).take cl 0 fun _ => 0 := rfl
          rw [e1] at htk
          have HTK := Lib.hid htk
          have hwr : IntKind.i64.wrap ((j : Int) * 16) = (j : Int) * 16 := IntWalk.i64_in _ (by omega)
          have hval : Hid (((16 * j : Nat) : Int) = (j : Int) * 16) := by show _ = _; omega
          rw [hval.out] at hR
          clear h2 htk e1
          go_wp2_with fail
          refine (hcut _).mono ?_
          rintro e _ ⟨rfl, rfl⟩
          go_wp2_with fail
          refine (HTK.out _ (by omega)).mono ?_
          rintro e w2 ⟨rfl, h2, o2⟩
          go_wp2_with fail
          exact hR.out _ _ ⟨rfl, h2, ((Only.refl [k, c, l] w).set (by simp) _).trans o2 (by simp)⟩

theorem ralloc_full (w : World) (q k c l : Nat) (P : Pl) (h : RRep w q k c l P) (hok : P.ok) (cl : Int) (hC : IsC cl) (hn : ∀ j, j < P.n → (P.pg j).partly cl = false) (hp : ∀ j, j < P.n → ¬ (P.pg j).cls < 0) :
    Calls Try.prog 15 #[.pointer (some ⟨q, 0, none⟩), .int .i64 cl] w fun e w' => e = .returned (.tuple #[.int .i64 0, .int .i64 14]) ∧ w = w' := by
  refine calls_abs fun R hR => ?_
  have hlo : decide (cl < 0) = false := by simp; rcases hC with e | e | e <;> omega
  have hhi : decide (2 < cl) = false := by simp; rcases hC with e | e | e <;> omega
  have hcm : (cl == -1) = false := by rw [beq_eq_false_iff_ne]; rcases hC with e | e | e <;> omega
  obtain ⟨c1, c2, c3, z0, z1, z2, _⟩ := h.facts
  have h24 := h.n24
  have H := Lib.hid h
  have HOK := Lib.hid hok
  have hcut := fun wx => cut_of wx cl hC
  have HBB := Lib.hid hp
  have HNN := Lib.hid hn
  clear h hok hn hp
  go_enter Try.func15, Try.ntmps15
  go_wp2_with fail
  go_loop [6] (fun v => ∃ j : Nat, j ≤ P.n ∧ v = .int .i64 j) (fun v => P.n - (intOf v).toNat)
  case atStart => exact ⟨0, by omega, rfl⟩
  case round =>
    obtain ⟨j, hj, rfl⟩ := hrel
    by_cases hlt : j < P.n
    · have hjn : j < P.n := by omega
      have hkind := H.out.kind j hjn
      have hnp := HNN.out j hlt
      cases hE : ((P.pg j).cls == cl)
      · clear hnp
        go_wp2_with fail
        go_round
        case rel => exact ⟨j + 1, by omega, by go_num⟩
        case measure => simp [intOf]; omega
      · have hE' : (P.pg j).cls = cl := by simpa using hE
        have hgap := rgap_of w q k c l P H.out j hjn (by rw [hE']; exact hC)
        rw [gapV_no (HOK.out j hjn) hC hE' hnp] at hgap
        clear hnp hE'
        go_wp2_with fail
        refine hgap.mono ?_
        rintro e _ ⟨rfl, rfl⟩
        go_wp2_with fail
        go_round
        case rel => exact ⟨j + 1, by omega, by go_num⟩
        case measure => simp [intOf]; omega
    · have hj9 : j = P.n := by omega
      subst hj9
      go_wp2_with fail
      go_loop [8] (fun v => ∃ j : Nat, j ≤ P.n ∧ v = .int .i64 j) (fun v => P.n - (intOf v).toNat)
      case atStart => exact ⟨0, by omega, rfl⟩
      case round =>
        clear hlt
        obtain ⟨j, hj, rfl⟩ := hrel
        by_cases hlt : j < P.n
        · have hkind := H.out.kind j hlt
          have hnf := HBB.out j hlt
          have hE : ((P.pg j).cls == -1) = false := by rw [beq_eq_false_iff_ne]; omega
          clear hnf
          go_wp2_with fail
          go_round
          case rel => exact ⟨j + 1, by omega, by go_num⟩
          case measure => simp [intOf]; omega
        · go_wp2_with fail
          exact hR.out _ _ ⟨rfl, rfl⟩

theorem ralloc_bad (w : World) (q k c l : Nat) (P : Pl) (h : RRep w q k c l P) (hok : P.ok) (cl : Int) (hC : cl < 0 ∨ 2 < cl) :
    Calls Try.prog 15 #[.pointer (some ⟨q, 0, none⟩), .int .i64 cl] w fun e w' => e = .returned (.tuple #[.int .i64 0, .int .i64 1]) ∧ w = w' := by
  refine calls_abs fun R hR => ?_
  by_cases hlo : cl < 0
  · have hlo' : decide (cl < 0) = true := by simpa using hlo
    go_enter Try.func15, Try.ntmps15
    go_wp2_with fail
    exact hR.out _ _ ⟨rfl, rfl⟩
  · have hlo' : decide (cl < 0) = false := by simpa using hlo
    have hhi' : decide (2 < cl) = true := by simp; omega
    go_enter Try.func15, Try.ntmps15
    go_wp2_with fail
    exact hR.out _ _ ⟨rfl, rfl⟩
theorem ralloc_rep (w : World) (q k c l : Nat) (P : Pl) (h : RRep w q k c l P) (hok : P.ok) (cl : Int) :
    Calls Try.prog 15 #[.pointer (some ⟨q, 0, none⟩), .int .i64 cl] w fun e w' => e = .returned (.tuple #[.int .i64 (P.alloc cl).1, .int .i64 (P.alloc cl).2.1]) ∧ RRep w' q k c l (P.alloc cl).2.2 ∧ Only [k, c, l] w w' := by
  rcases P.alloc_cases cl with hc | ⟨hc, ⟨i, hi, hp, hb⟩ | ⟨hn, ⟨i, hi, hp, hb⟩ | hf⟩⟩
  · rw [Pl.alloc_bad hc]; exact (ralloc_bad w q k c l P h hok cl hc).mono fun e w' ⟨a, b⟩ => ⟨a, b ▸ h, b ▸ Only.refl _ _⟩
  · rw [Pl.alloc_part hc hi hp hb]; exact ralloc_part w q k c l P h hok cl hc i hi hp hb
  · rw [Pl.alloc_new hc hn hi hp hb]; exact ralloc_new w q k c l P h hok cl hc hn i hi hp hb
  · rw [Pl.alloc_full hc hn hf]; exact (ralloc_full w q k c l P h hok cl hc hn hf).mono fun e w' ⟨a, b⟩ => ⟨a, b ▸ h, b ▸ Only.refl _ _⟩
end Go.Proofs.Ytngmiacekcmidaa
