/- The law QueueSteps, walked. -/
import Derived.Test.YtemdkffkpdhciaaQLawB
import Derived.Test.YtemdkffkpdhciaaArgs
namespace Go.Proofs.Ytemdkffkpdhciaa
open Go.RowKit
set_option maxHeartbeats 400000
set_option maxRecDepth 100000
set_option linter.unusedVariables false

theorem size_cases (size : Int) : (∃ n : Nat, size = n ∧ 1 ≤ n ∧ n ≤ 8) ∨ size < 1 ∨ 8 < size := by
  by_cases h : 1 ≤ size ∧ size ≤ 8
  · exact .inl ⟨size.toNat, by omega, by omega, by omega⟩
  · exact .inr (by omega)

theorem walk_QueueSteps (a0 : Int) (a1 : Option Addr) (len1 cap1 : Nat) (f1 : Nat → Nat → Int) (w : World) (w0 : (Lit.int .i64 a0).wf = true) (w1 : Recs 2 w a1 len1 f1) :
    Calls Try.prog 4 #[.int .i64 a0, .slice a1 len1 cap1] w fun e w' => e = .returned (.bool true) ∧ Below w.heap.size w w' := by
  refine calls_abs fun R hR => ?_
  have hw0 := wf_bounds w0
  clear w0
  obtain ⟨hlen, hrec⟩ := w1
  have HREC := Lib.hid hrec
  clear hrec
  rcases size_cases a0 with ⟨n, rfl, hn1, hn8⟩ | hbad
  · go_enter Try.func4, Try.ntmps4
    go_wp2_with fail
    refine (new_yes w n hn1 hn8).mono ?_
    rintro e w2 ⟨q, c, rfl, h2, o2, b2, b3⟩
    go_wp2_with fail
    refine (refNew_yes w2 n hn1 hn8).mono ?_
    rintro e w3 ⟨p, F, rfl, h3, o3, b4⟩
    have s2 := o2.size
    have hb : Both w3 w.heap.size 0 q c p F (QSt.new n) (RSt.new n) :=
      ⟨h2.only o3 (by simp) (by simp), h3, Cpl.new n hn1 hn8, fun hm => by have := b4 q hm; have := h2.lt.1; omega, fun hm => by have := b4 c hm; have := h2.lt.2; omega, b2, b3, fun x hx => by have := b4 x hx; omega, Nat.zero_le _⟩
    have hbel : Below w.heap.size w w3 := (o2.below (Nat.le_refl _) (by simp)).trans (o3.below s2 (by simp))
    clear h2 h3 o2 o3 b2 b3 b4
    go_wp2_with fail
    go_loopw [9] (fun i wr => ∃ k : Nat, k ≤ len1 ∧ k ≤ 300 ∧ i = .int .i64 k ∧ ∃ F' s' t', Both wr w.heap.size k q c p F' s' t' ∧ Below w.heap.size w wr) (fun i _ => 300 - (intOf i).toNat)
    case atStart => exact ⟨0, by omega, by omega, rfl, F, _, _, hb, hbel⟩
    case round =>
      obtain ⟨k, hk, hk3, rfl, F', s', t', hb', hbel'⟩ := hrel
      by_cases hlt : k < len1 ∧ k < 300
      · obtain ⟨hlt1, hlt2⟩ := hlt
        rcases HREC.out with h0 | ⟨b, o, rfl, hc⟩
        · omega
        have hc0 := (hc k hlt1 0 (by omega)).1
        have hc1 := (hc k hlt1 1 (by omega)).1
        have hbw : b < w.heap.size := World.block_lt_of_cell? w _ hc0
        rw [Nat.add_zero, ← hbel'.cell (p := ⟨b, o + k * 2, none⟩) hbw] at hc0
        rw [← Nat.add_assoc, ← hbel'.cell (p := ⟨b, o + k * 2 + 1, none⟩) hbw] at hc1
        clear hc hbw
        have hB : Hid (w.heap.size ≤ wr.heap.size) := hbel'.size
        go_wp2_with fail
        refine (do_both _ _ _ _ _ _ _ _ _ hb' (by omega) hB.out _ _).mono ?_
        rintro e w4 ⟨rfl, F4, s4, t4, hb4, o4, i4⟩
        have hbel4 : Below w.heap.size w w4 := hbel'.trans (o4.below hB.out (fun x hx => (hb'.lt x hx).1))
        clear hc0 hc1
        go_wp2_with fail
        refine (alike_both _ _ _ _ _ _ _ _ _ hb4 (by omega)).mono ?_
        rintro e w5 ⟨rfl, o5⟩
        have hb5 := hb4.only o5 (by simp)
        have hbel5 : Below w.heap.size w w5 := hbel4.trans (o5.below hbel4.size (by simp))
        go_wp2_with fail
        refine ⟨⟨k + 1, by omega, by omega, by go_num, F4, s4, t4, hb5, hbel5⟩, by simp [intOf]; omega⟩
      · by_cases hk1 : k < len1
        · have hk2 : ¬ k < 300 := by omega
          clear hlt
          go_wp2_with fail
          refine (sane_any _).mono ?_
          rintro e w4 ⟨rfl, o4⟩
          go_wp2_with fail
          exact hR.out _ _ ⟨rfl, hbel'.trans (o4.below hbel'.size (by simp))⟩
        · clear hlt
          go_wp2_with fail
          refine (sane_any _).mono ?_
          rintro e w4 ⟨rfl, o4⟩
          go_wp2_with fail
          exact hR.out _ _ ⟨rfl, hbel'.trans (o4.below hbel'.size (by simp))⟩
  · go_enter Try.func4, Try.ntmps4
    go_wp2_with fail
    refine (new_no w a0 hbad).mono ?_
    rintro e _ ⟨rfl, rfl⟩
    go_wp2_with fail
    refine (refNew_no w a0 hbad).mono ?_
    rintro e _ ⟨rfl, rfl⟩
    go_wp2_with fail
    refine (sane_any _).mono ?_
    rintro e w4 ⟨rfl, o4⟩
    go_wp2_with fail
    exact hR.out _ _ ⟨rfl, o4.below (Nat.le_refl _) (by simp)⟩
end Go.Proofs.Ytemdkffkpdhciaa
