/- Law ObjectPlays: the walk. -/
import Derived.Test.YtcdeikbehpepjaaGreatOPool
import Derived.Test.YtcdeikbehpepjaaGreatSorted
namespace Go.Proofs.YtcdeikbehpepjaaGreat
open Go.RowKit Go.Maps
set_option maxHeartbeats 6400000
set_option maxRecDepth 100000
set_option linter.unusedVariables false
theorem bel3 {w w1 w2 : World} (h1 : Only [] w w1) (h2 : Only [] w1 w2) : Below w.heap.size w w2 := (h1.trans h2 (by simp)).bel
theorem samePool_nil (w : World) : Calls Tryz.prog 11 #[.pointer none, .pointer none] w (Exact w (.bool true)) := by
  refine calls_abs fun R hR => ?_
  go_enter Tryz.func11, Tryz.ntmps11
  go_wp2_with fail
  exact hR.out _ _ ⟨rfl, rfl⟩
theorem Hp.handlesN_le (M : Hp) (k : Nat) : (M.handlesN k).length ≤ k := by
  induction k with
  | zero => simp [Hp.handlesN]
  | succ k ih =>
    unfold Hp.handlesN
    rw [List.length_append]
    split <;> simp <;> omega
theorem walk_ObjectPlays (pages : Int) (b : Option Addr) (n cap : Nat) (f : Nat → OpR) (w : World) (wp : (Lit.int .i64 pages).wf = true) (hd : Ops w b n f) :
    Calls Tryz.prog 3 #[.int .i64 pages, .slice b n cap] w fun e w' => e = .returned (.bool true) ∧ Below w.heap.size w w' := by
  refine calls_abs fun R hR => ?_
  have c := oplay_any w pages b n cap f hd
  clear hd wp
  go_enter Tryz.func3, Tryz.ntmps3
  go_wp2_with fail
  refine c.mono ?_
  rintro e w2 ⟨vp, vq, rfl, hpl⟩
  clear c
  rcases hpl with ⟨rfl, rfl, hF⟩ | ⟨p, q, M, rfl, rfl, hF⟩
  · have HO : Hid (Only [] w w2) := hF.only
    clear hF
    have c1 := handles_nope w2 (.pointer none) (.inl rfl)
    have c2 := ghandles_nil w2
    have c3 := ints_same w2 (.slice none 0 0) (.slice none 0 0) [] (Ints.nil w2 0).read (Ints.nil w2 0).read (by simp)
    go_wp2_with fail
    refine c1.mono ?_
    rintro e _ ⟨rfl, rfl⟩
    go_wp2_with fail
    refine c2.mono ?_
    rintro e _ ⟨rfl, rfl⟩
    go_wp2_with fail
    refine c3.mono ?_
    rintro e w3 ⟨rfl, hdr⟩
    have HO3 : Hid (Only [] w w3) := HO.out.trans (hdr.only []) (by simp)
    clear hdr c1 c2 c3
    have c1 := hpool_nope w3 (.pointer none) (.inl rfl)
    have c2 := gpool_nil w3
    have c3 := samePool_nil w3
    have c4 := osane_any w3
    go_wp2_with fail
    refine c1.mono ?_
    rintro e _ ⟨rfl, rfl⟩
    go_wp2_with fail
    refine c2.mono ?_
    rintro e _ ⟨rfl, rfl⟩
    go_wp2_with fail
    refine c3.mono ?_
    rintro e _ ⟨rfl, rfl⟩
    go_wp2_with fail
    refine c4.mono ?_
    rintro e w4 ⟨rfl, ho⟩
    have HE : Hid (Below w.heap.size w w4) := bel3 HO3.out ho
    clear ho c1 c2 c3 c4
    go_wp2_with fail
    exact hR.out _ _ ⟨rfl, HE.out⟩
  · obtain ⟨hk, L, X, hp⟩ := hF.ph 0 rfl
    obtain ⟨_, L2, X2, hq⟩ := hF.gh 1 rfl
    have HK := Lib.hid hk
    have HP := Lib.hid hp
    have HQ := Lib.hid hq
    have HO : Hid (Only [] w w2) := hF.only
    have HL : Hid (M.handles.length ≤ 1000) := Lib.hid (Nat.le_trans (Hp.handlesN_le M 192) (by decide))
    clear hF hk hp hq
    have c1 := handles_rep w2 HP.out HK.out
    go_wp2_with fail
    refine c1.mono ?_
    rintro e w3 ⟨v1, rfl, hi, ho⟩
    have HI3 : Hid (Ints w3 0 v1 M.handles) := hi.base (Nat.zero_le _)
    have HP3 := Lib.hid (HP.out.only0 ho)
    have HQ3 := Lib.hid (HQ.out.only0 ho)
    have HO3 : Hid (Only [] w w3) := HO.out.trans ho (by simp)
    clear hi ho c1 HP HQ HO
    have c1 := ghandles_rep w3 HQ3.out HK.out
    go_wp2_with fail
    refine c1.mono ?_
    rintro e w4 ⟨v2, rfl, hi, ho⟩
    have HI4 : Hid (Ints w4 0 v1 M.handles) := HI3.out.only ho (by simp)
    have HJ4 : Hid (Ints w4 0 v2 M.handles) := hi.base (Nat.zero_le _)
    have HP4 := Lib.hid (HP3.out.only0 ho)
    have HQ4 := Lib.hid (HQ3.out.only0 ho)
    have HO4 : Hid (Only [] w w4) := HO3.out.trans ho (by simp)
    clear hi ho c1 HP3 HQ3 HO3 HI3
    have c1 := ints_same w4 v1 v2 _ HI4.out.read HJ4.out.read HL.out
    go_wp2_with fail
    refine c1.mono ?_
    rintro e w5 ⟨rfl, hdr⟩
    have ho := hdr.only []
    have HP5 := Lib.hid (HP4.out.only0 ho)
    have HQ5 := Lib.hid (HQ4.out.only0 ho)
    have HO5 : Hid (Only [] w w5) := HO4.out.trans ho (by simp)
    clear hdr ho c1 HP4 HQ4 HO4 HI4 HJ4
    have c1 := hpool_rep w5 HP5.out
    go_wp2_with fail
    refine c1.mono ?_
    rintro e w6 ⟨p1, b1, rfl, hp1, ho, _, _⟩
    have HA := Lib.hid hp1
    have HQ6 := Lib.hid (HQ5.out.only0 ho)
    have HO6 : Hid (Only [] w w6) := HO5.out.trans ho (by simp)
    clear hp1 ho c1 HP5 HQ5 HO5
    have c1 := gpool_rep w6 HQ6.out
    go_wp2_with fail
    refine c1.mono ?_
    rintro e w7 ⟨q1, k1, m1, l1, rfl, hq1, ho, _, _, _, _⟩
    have HB := Lib.hid hq1
    have HA7 := Lib.hid (HA.out.only ho (by simp) (by simp))
    have HO7 : Hid (Only [] w w7) := HO6.out.trans ho (by simp)
    clear hq1 ho c1 HQ6 HO6 HA
    have c1 := samePool_any w7 HA7.out HB.out HK.out.p rfl (fun _ => rfl) (fun _ => rfl) (fun _ => rfl)
    go_wp2_with fail
    refine c1.mono ?_
    rintro e w8 ⟨rfl, hdr⟩
    have HO8 : Hid (Only [] w w8) := HO7.out.trans (hdr.only []) (by simp)
    clear hdr c1 HO7
    have c4 := osane_any w8
    go_wp2_with fail
    refine c4.mono ?_
    rintro e w9 ⟨rfl, ho⟩
    have HE : Hid (Below w.heap.size w w9) := bel3 HO8.out ho
    clear ho c4
    go_wp2_with fail
    exact hR.out _ _ ⟨rfl, HE.out⟩
end Go.Proofs.YtcdeikbehpepjaaGreat
