/- The law QueueCopies, walked. -/
import Derived.Test.YtemdkffkpdhciaaQSteps
import Derived.Deep.DeepCutAuto
import Derived.Deep.CutBlock
namespace Go.Proofs.Ytemdkffkpdhciaa
open Go.RowKit
set_option maxHeartbeats 400000
set_option maxRecDepth 100000
set_option linter.unusedVariables false

/-- The two queues at the head of a loop over deeds, and beside them two others. -/
theorem recs_at {w wr : World} {a : Option Addr} {len : Nat} {f : Nat → Nat → Int} (h : Recs 2 w a len f) (hb : Below w.heap.size w wr) {k : Nat} (hk : k < len) :
    ∃ b o, a = some ⟨b, o, none⟩ ∧ wr.cell? ⟨b, o + k * 2, none⟩ = some (.int .i64 (f k 0)) ∧ wr.cell? ⟨b, o + k * 2 + 1, none⟩ = some (.int .i64 (f k 1)) := by
  obtain ⟨_, h0 | ⟨b, o, rfl, hc⟩⟩ := h
  · omega
  have hc0 := (hc k hk 0 (by omega)).1
  have hc1 := (hc k hk 1 (by omega)).1
  have hbw : b < w.heap.size := World.block_lt_of_cell? w _ hc0
  rw [Nat.add_zero, ← hb.cell (p := ⟨b, o + k * 2, none⟩) hbw] at hc0
  rw [← Nat.add_assoc, ← hb.cell (p := ⟨b, o + k * 2 + 1, none⟩) hbw] at hc1
  exact ⟨b, o, rfl, hc0, hc1⟩

/-- New queues of a size, side by side. -/
theorem Both.start {w w2 w3 : World} {n q c p : Nat} {F : List Nat} (hn1 : 1 ≤ n) (hn8 : n ≤ 8) (h2 : QRep w2 q c (QSt.new n)) (o2 : Only [] w w2) (b2 : w.heap.size ≤ q) (b3 : w.heap.size ≤ c)
    (h3 : RRep w3 p F (RSt.new n)) (o3 : Only [] w2 w3) (b4 : ∀ x ∈ F, w2.heap.size ≤ x) : Both w3 w.heap.size 0 q c p F (QSt.new n) (RSt.new n) ∧ Below w.heap.size w w3 := by
  have s2 := o2.size
  exact ⟨⟨h2.only o3 (by simp) (by simp), h3, Cpl.new n hn1 hn8, fun hm => by have := b4 q hm; have := h2.lt.1; omega, fun hm => by have := b4 c hm; have := h2.lt.2; omega, b2, b3, fun x hx => by have := b4 x hx; omega, Nat.zero_le _⟩,
    (o2.below (Nat.le_refl _) (by simp)).trans (o3.below s2 (by simp))⟩

/-- Two pairs of queues that share no block: a deed at the one leaves the other as it was. -/
theorem two_step {w w' : World} {B M q c x cx y : Nat} {F F' G : List Nat} {u : QSt} {v : RSt} (h : Both w B M x cx y G u v) (hd : ∀ z ∈ x :: cx :: G, z ∉ q :: c :: F)
    (ho : Only (q :: c :: F) w w') (hin : Within w F F') : Both w' B M x cx y G u v ∧ ∀ z ∈ x :: cx :: G, z ∉ q :: c :: F' := by
  refine ⟨h.only ho hd, fun z hz hm => ?_⟩
  have h1 := (h.lt z hz).2
  have h2 := hd z hz
  simp only [List.mem_cons, not_or] at h2 hm
  rcases hm with h3 | h3 | h3
  · exact h2.1 h3
  · exact h2.2.1 h3
  · rcases hin z h3 with h4 | h4
    · exact h2.2.2 h4
    · omega
theorem disj_symm {K L : List Nat} (h : ∀ z ∈ K, z ∉ L) : ∀ z ∈ L, z ∉ K := fun z hz hm => h z hm hz

theorem walk_QueueCopies (a0 : Int) (a1 : Option Addr) (len1 cap1 : Nat) (f1 : Nat → Nat → Int) (a2 : Option Addr) (len2 cap2 : Nat) (f2 : Nat → Nat → Int) (a3 : Option Addr) (len3 cap3 : Nat) (f3 : Nat → Nat → Int) (w : World)
    (w0 : (Lit.int .i64 a0).wf = true) (w1 : Recs 2 w a1 len1 f1) (w2 : Recs 2 w a2 len2 f2) (w3 : Recs 2 w a3 len3 f3) :
    Calls Try.prog 6 #[.int .i64 a0, .slice a1 len1 cap1, .slice a2 len2 cap2, .slice a3 len3 cap3] w fun e w' => e = .returned (.bool true) ∧ Below w.heap.size w w' := by
  refine calls_abs fun R hR => ?_
  have hw0 := wf_bounds w0
  have hl1 := w1.1
  have hl2 := w2.1
  have hl3 := w3.1
  have R1 := Lib.hid w1
  have R2 := Lib.hid w2
  have R3 := Lib.hid w3
  clear w0 w1 w2 w3
  rcases size_cases a0 with ⟨n, rfl, hn1, hn8⟩ | hbad
  · go_enter Try.func6, Try.ntmps6
    go_wp2_with fail
    refine (new_yes w n hn1 hn8).mono ?_
    rintro e w2 ⟨q, c, rfl, h2, o2, b2, b3⟩
    go_wp2_with fail
    refine (refNew_yes w2 n hn1 hn8).mono ?_
    rintro e w3 ⟨p, F, rfl, h3, o3, b4⟩
    obtain ⟨hb, hbel⟩ := Both.start hn1 hn8 h2 o2 b2 b3 h3 o3 b4
    clear h2 h3 o2 o3 b2 b3 b4
    go_upto_block 0 with fail
    go_cut [13] (fun _ wx => ∃ F' s' t', Both wx w.heap.size 300 q c p F' s' t' ∧ Below w.heap.size w wx)
    case first =>
      go_wp2_with fail
      go_loopw [13] (fun i wr => ∃ k : Nat, k ≤ len1 ∧ k ≤ 300 ∧ i = .int .i64 k ∧ ∃ F' s' t', Both wr w.heap.size k q c p F' s' t' ∧ Below w.heap.size w wr) (fun i _ => 300 - (intOf i).toNat)
      case atStart => exact ⟨0, by omega, by omega, rfl, F, _, _, hb, hbel⟩
      case round =>
        obtain ⟨k, hk, hk3, rfl, F', s', t', hb', hbel'⟩ := hrel
        by_cases hlt : k < len1 ∧ k < 300
        · obtain ⟨hlt1, hlt2⟩ := hlt
          obtain ⟨b, o, rfl, hc0, hc1⟩ := recs_at R1.out hbel' hlt1
          have hB : Hid (w.heap.size ≤ wr.heap.size) := hbel'.size
          go_wp2_with fail
          refine (do_both _ _ _ _ _ _ _ _ _ hb' (by omega) hB.out _ _).mono ?_
          rintro e w4 ⟨rfl, F4, s4, t4, hb4, o4, i4⟩
          have hbel4 : Below w.heap.size w w4 := hbel'.trans (o4.below hB.out (fun x hx => (hb'.lt x hx).1))
          clear hc0 hc1
          go_wp2_with fail
          refine ⟨⟨k + 1, by omega, by omega, by go_num, F4, s4, t4, hb4, hbel4⟩, by simp [intOf]; omega⟩
        · by_cases hk1 : k < len1
          · have hk2 : ¬ k < 300 := by omega
            clear hlt
            go_wp2_with fail
            go_meet
            exact ⟨F', s', t', hb'.more hk3, hbel'⟩
          · clear hlt
            go_wp2_with fail
            go_meet
            exact ⟨F', s', t', hb'.more hk3, hbel'⟩
    case rest =>
      obtain ⟨F1, s1, t1, hb1, hbel1⟩ := hcut
      clear hb hbel
      go_wp2_with fail
      refine (copy_rep _ _ _ _ hb1.hq hb1.cpl.sok).mono ?_
      rintro e w2 ⟨x, cx, rfl, g2, o2, b2, b3⟩
      have hb1' := hb1.only o2 (by simp)
      go_wp2_with fail
      refine (refCopy_rep _ _ _ _ hb1'.hp (by have := hb1.len; omega)).mono ?_
      rintro e w3 ⟨y, G, rfl, g3, o3, b4⟩
      have hS : w.heap.size ≤ wc.heap.size := hbel1.size
      have hS2 := o2.size
      have hb2 : Both w3 w.heap.size 300 x cx y G s1 t1 :=
        ⟨g2.only o3 (by simp) (by simp), g3, hb1.cpl, fun hm => by have := b4 x hm; have := g2.lt.1; omega, fun hm => by have := b4 cx hm; have := g2.lt.2; omega, by omega, by omega, fun z hz => by have := b4 z hz; omega, hb1.len⟩
      have hb3 := hb1'.only o3 (by simp)
      have hd2 : ∀ z ∈ x :: cx :: G, z ∉ q :: c :: F1 := by
        intro z hz hm
        have h1 := (hb1.lt z hm).2
        simp only [List.mem_cons] at hz
        rcases hz with rfl | rfl | hz
        · omega
        · omega
        · have := b4 z hz; omega
      have hbel2 : Below w.heap.size w w3 := (hbel1.trans (o2.below hS (by simp))).trans (o3.below (by omega) (by simp))
      clear hb1 hb1' g2 g3 o2 o3 b2 b3 b4 hS hS2 hbel1
      go_wp2_with fail
      refine (alike_both _ _ _ _ _ _ _ _ _ hb2 (by omega)).mono ?_
      rintro e w5 ⟨rfl, o5⟩
      replace hb2 := hb2.only o5 (by simp)
      have hb1 := hb3.only o5 (by simp)
      replace hbel2 : Below w.heap.size w w5 := hbel2.trans (o5.below hbel2.size (by simp))
      clear o5 hb3
      go_upto_block 2 with fail
      go_cut [16] (fun _ wx => ∃ F' s' t', Both wx w.heap.size 600 q c p F' s' t' ∧ Both wx w.heap.size 300 x cx y G s1 t1 ∧ (∀ z ∈ x :: cx :: G, z ∉ q :: c :: F') ∧ Below w.heap.size w wx)
      case first =>
        go_wp2_with fail
        go_loopw [16] (fun i wr => ∃ k : Nat, k ≤ len2 ∧ k ≤ 300 ∧ i = .int .i64 k ∧ ∃ F' s' t', Both wr w.heap.size (300 + k) q c p F' s' t' ∧ Both wr w.heap.size 300 x cx y G s1 t1 ∧ (∀ z ∈ x :: cx :: G, z ∉ q :: c :: F') ∧ Below w.heap.size w wr) (fun i _ => 300 - (intOf i).toNat)
        case atStart => exact ⟨0, by omega, by omega, rfl, F1, s1, t1, hb1.more (by omega), hb2, hd2, hbel2⟩
        case round =>
          obtain ⟨k, hk, hk3, rfl, F', s', t', hb', hbo, hd', hbel'⟩ := hrel
          by_cases hlt : k < len2 ∧ k < 300
          · obtain ⟨hlt1, hlt2⟩ := hlt
            obtain ⟨b, o, rfl, hc0, hc1⟩ := recs_at R2.out hbel' hlt1
            have hB : Hid (w.heap.size ≤ wr.heap.size) := hbel'.size
            go_wp2_with fail
            refine (do_both _ _ _ _ _ _ _ _ _ hb' (by omega) hB.out _ _).mono ?_
            rintro e w4 ⟨rfl, F4, s4, t4, hb4, o4, i4⟩
            have hbel4 : Below w.heap.size w w4 := hbel'.trans (o4.below hB.out (fun x hx => (hb'.lt x hx).1))
            obtain ⟨hbo4, hd4⟩ := two_step hbo hd' o4 i4
            clear hc0 hc1
            go_wp2_with fail
            refine ⟨⟨k + 1, by omega, by omega, by go_num, F4, s4, t4, hb4.more (by omega), hbo4, hd4, hbel4⟩, by simp [intOf]; omega⟩
          · by_cases hk1 : k < len2
            · have hk2 : ¬ k < 300 := by omega
              clear hlt
              go_wp2_with fail
              go_meet
              exact ⟨F', s', t', hb'.more (by omega), hbo, hd', hbel'⟩
            · clear hlt
              go_wp2_with fail
              go_meet
              exact ⟨F', s', t', hb'.more (by omega), hbo, hd', hbel'⟩
      case rest =>
        obtain ⟨F2, s2, t2, hb1, hb2, hd2, hbel2⟩ := hcut
        go_upto_block 4 with fail
        go_cut [17] (fun _ wx => ∃ G' s' t', Both wx w.heap.size 600 x cx y G' s' t' ∧ Both wx w.heap.size 600 q c p F2 s2 t2 ∧ Below w.heap.size w wx)
        case first =>
          go_wp2_with fail
          go_loopw [17] (fun i wr => ∃ k : Nat, k ≤ len3 ∧ k ≤ 300 ∧ i = .int .i64 k ∧ ∃ G' s' t', Both wr w.heap.size (300 + k) x cx y G' s' t' ∧ Both wr w.heap.size 600 q c p F2 s2 t2 ∧ (∀ z ∈ q :: c :: F2, z ∉ x :: cx :: G') ∧ Below w.heap.size w wr) (fun i _ => 300 - (intOf i).toNat)
          case atStart => exact ⟨0, by omega, by omega, rfl, G, s1, t1, hb2.more (by omega), hb1, disj_symm hd2, hbel2⟩
          case round =>
            obtain ⟨k, hk, hk3, rfl, F', s', t', hb', hbo, hd', hbel'⟩ := hrel
            by_cases hlt : k < len3 ∧ k < 300
            · obtain ⟨hlt1, hlt2⟩ := hlt
              obtain ⟨b, o, rfl, hc0, hc1⟩ := recs_at R3.out hbel' hlt1
              have hB : Hid (w.heap.size ≤ wr.heap.size) := hbel'.size
              go_wp2_with fail
              refine (do_both _ _ _ _ _ _ _ _ _ hb' (by omega) hB.out _ _).mono ?_
              rintro e w4 ⟨rfl, F4, s4, t4, hb4, o4, i4⟩
              have hbel4 : Below w.heap.size w w4 := hbel'.trans (o4.below hB.out (fun x hx => (hb'.lt x hx).1))
              obtain ⟨hbo4, hd4⟩ := two_step hbo hd' o4 i4
              clear hc0 hc1
              go_wp2_with fail
              refine ⟨⟨k + 1, by omega, by omega, by go_num, F4, s4, t4, hb4.more (by omega), hbo4, hd4, hbel4⟩, by simp [intOf]; omega⟩
            · by_cases hk1 : k < len3
              · have hk2 : ¬ k < 300 := by omega
                clear hlt
                go_wp2_with fail
                go_meet
                exact ⟨F', s', t', hb'.more (by omega), hbo, hbel'⟩
              · clear hlt
                go_wp2_with fail
                go_meet
                exact ⟨F', s', t', hb'.more (by omega), hbo, hbel'⟩
        case rest =>
          obtain ⟨G3, s3, t3, hb3, hb4, hbel3⟩ := hcut
          clear hb1 hb2 hbel2
          go_wp2_with fail
          refine (alike_both _ _ _ _ _ _ _ _ _ hb4 (by omega)).mono ?_
          rintro e w6 ⟨rfl, o6⟩
          replace hb3 := hb3.only o6 (by simp)
          replace hbel3 := hbel3.trans (o6.below hbel3.size (by simp))
          go_wp2_with fail
          refine (alike_both _ _ _ _ _ _ _ _ _ hb3 (by omega)).mono ?_
          rintro e w7 ⟨rfl, o7⟩
          replace hbel3 := hbel3.trans (o7.below hbel3.size (by simp))
          go_wp2_with fail
          refine (sane_any _).mono ?_
          rintro e w8 ⟨rfl, o8⟩
          replace hbel3 := hbel3.trans (o8.below hbel3.size (by simp))
          go_wp2_with fail
          exact hR.out _ _ ⟨rfl, hbel3⟩
  · go_enter Try.func6, Try.ntmps6
    go_wp2_with fail
    refine (new_no w a0 hbad).mono ?_
    rintro e _ ⟨rfl, rfl⟩
    go_wp2_with fail
    refine (refNew_no w a0 hbad).mono ?_
    rintro e _ ⟨rfl, rfl⟩
    go_wp2_with fail
    refine (sane_any _).mono ?_
    rintro e w4 ⟨rfl, o4⟩
    go_wp2_with fail
    exact hR.out _ _ ⟨rfl, o4.below (Nat.le_refl _) (by simp)⟩
end Go.Proofs.Ytemdkffkpdhciaa
