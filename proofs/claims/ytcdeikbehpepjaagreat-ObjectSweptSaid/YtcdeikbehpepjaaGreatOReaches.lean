/- Law ObjectReaches: the walk. -/
import Derived.Test.YtcdeikbehpepjaaGreatOPlays
import Derived.Test.YtcdeikbehpepjaaGreatHReach
namespace Go.Proofs.YtcdeikbehpepjaaGreat
open Go.RowKit Go.Maps
set_option maxHeartbeats 12800000
set_option maxRecDepth 100000
set_option linter.unusedVariables false
def listF (n : Nat) (f : Nat → Int) : List Int := (List.range n).map f
theorem listF_at {n : Nat} {f : Nat → Int} {i : Nat} (h : i < n) : gI (listF n f) i = f i := by
  unfold gI listF
  rw [List.getElem?_map, List.getElem?_range h]
  rfl
theorem numsRead {w : World} {a : Option Addr} {len cap : Nat} {f : Nat → Int} (h : Nums w a len f) : Read w (.slice a len cap) (listF len f) := by
  have hl : (listF len f).length = len := by simp [listF]
  rcases h.2 with h | ⟨b, o, e, hc⟩
  · subst h
    exact .inr ⟨a, cap, rfl, rfl⟩
  · refine .inl ⟨b, o, cap, by rw [hl, e], fun i hi => ?_⟩
    rw [hl] at hi
    rw [listF_at hi]
    exact (hc i hi).1
theorem numsWf {w : World} {a : Option Addr} {len : Nat} {f : Nat → Int} (h : Nums w a len f) : ∀ x, x ∈ listF len f → wfI x := by
  intro x hx
  obtain ⟨i, hi, rfl⟩ := mem_gI.1 hx
  have hl : (listF len f).length = len := by simp [listF]
  rw [hl] at hi
  rw [listF_at hi]
  rcases h.2 with h | ⟨b, o, e, hc⟩
  · omega
  · exact (hc i hi).2
theorem reach_err {M : Hp} {roots : List Int} : (M.reach roots).2 = 0 ∨ (M.reach roots).2 = 3 := by
  unfold Hp.reach
  split
  · exact .inr rfl
  · exact .inl rfl
theorem reach_len {M : Hp} {roots : List Int} : (M.reach roots).1.length ≤ 192 := by
  unfold Hp.reach
  split
  · simp
  · exact Hp.reachL_len M roots
theorem reach_ok {M : Hp} (hk : M.Ok) {roots : List Int} (h : (M.reach roots).2 = 0) : M.reach (M.reach roots).1 = ((M.reach roots).1, 0) ∧ ∀ x, x ∈ (M.reach roots).1 → wfI x := by
  unfold Hp.reach at h
  split at h
  · cases h
  · rename_i hb
    have e : M.reach roots = (M.reachL roots, 0) := by unfold Hp.reach; rw [if_neg hb]
    rw [e]
    exact ⟨Hp.reach_again hk hb, fun x hx => by
      have := ((hk.mem_reach hb).1 hx).some hk hb
      exact wfI_mk (by omega)⟩
theorem walk_ObjectReaches (pages : Int) (b : Option Addr) (n cap : Nat) (f : Nat → OpR) (a2 : Option Addr) (n2 cap2 : Nat) (f2 : Nat → Int) (w : World) (wp : (Lit.int .i64 pages).wf = true) (hd : Ops w b n f) (h2 : Nums w a2 n2 f2) :
    Calls Tryz.prog 6 #[.int .i64 pages, .slice b n cap, .slice a2 n2 cap2] w fun e w' => e = .returned (.bool true) ∧ Below w.heap.size w w' := by
  refine calls_abs fun R hR => ?_
  have c := oplay_any w pages b n cap f hd
  have HRD : Hid (Read w (.slice a2 n2 cap2) (listF n2 f2)) := numsRead h2
  have HWF := Lib.hid (numsWf h2)
  have HLN : Hid ((listF n2 f2).length = n2) := by show _ = _; simp [listF]
  clear hd wp h2
  go_enter Tryz.func6, Tryz.ntmps6
  go_wp2_with fail
  refine c.mono ?_
  rintro e w2 ⟨vp, vq, rfl, hpl⟩
  clear c
  generalize listF n2 f2 = rts at *
  have HO0 : Hid (Only [] w w2) := hpl.only
  by_cases hbig : 1000 < n2
  · have hb1 : (1000 : Int) < n2 := by omega
    have c4 := osane_any w2
    clear hpl
    go_wp2_with fail
    refine c4.mono ?_
    rintro e w4 ⟨rfl, ho⟩
    have HE : Hid (Below w.heap.size w w4) := bel3 HO0.out ho
    clear ho c4
    go_wp2_with fail
    exact hR.out _ _ ⟨rfl, HE.out⟩
  · have hb1 : ¬ (1000 : Int) < n2 := by omega
    rcases hpl with ⟨rfl, rfl, hF⟩ | ⟨p, q, M, rfl, rfl, hF⟩
    · have c1 := hreach_nope w2 (.pointer none) (.slice a2 n2 cap2) (.inl rfl)
      have c2 := greach_nil w2 (.slice a2 n2 cap2)
      have c3 := ints_same w2 (.slice none 0 0) (.slice none 0 0) [] (Ints.nil w2 0).read (Ints.nil w2 0).read (by simp)
      clear hF
      go_wp2_with fail
      refine c1.mono ?_
      rintro e _ ⟨rfl, rfl⟩
      go_wp2_with fail
      refine c2.mono ?_
      rintro e _ ⟨rfl, rfl⟩
      go_wp2_with fail
      refine c3.mono ?_
      rintro e w3 ⟨rfl, hdr⟩
      have HO3 : Hid (Only [] w w3) := HO0.out.trans (hdr.only []) (by simp)
      have c4 := osane_any w3
      clear hdr c1 c2 c3
      go_wp2_with fail
      refine c4.mono ?_
      rintro e w4 ⟨rfl, ho⟩
      have HE : Hid (Below w.heap.size w w4) := bel3 HO3.out ho
      clear ho c4
      go_wp2_with fail
      exact hR.out _ _ ⟨rfl, HE.out⟩
    · obtain ⟨hk, L, X, hp⟩ := hF.ph 0 rfl
      obtain ⟨_, L2, X2, hq⟩ := hF.gh 1 rfl
      have HK := Lib.hid hk
      have HP := Lib.hid hp
      have HQ := Lib.hid hq
      clear hF hk hp hq
      have hn2 : n2 ≤ 1000 := by omega
      have c1 := hreach_rep w2 HP.out HK.out a2 n2 cap2 rts HLN.out (HRD.out.only HO0.out (by simp)) hn2 HWF.out
      have HLR := Lib.hid (reach_len (M := M) (roots := rts))
      have HRK := Lib.hid (fun h => reach_ok HK.out (roots := rts) h)
      have HRE := Lib.hid (reach_err (M := M) (roots := rts))
      have HC2 : Hid (∀ wx, Only [] w2 wx → Calls Tryz.prog 19 #[.pointer (some ⟨q, 0, none⟩), .slice a2 n2 cap2] wx (TwoL wx (M.reach rts))) := fun wx ho =>
        greach_rep wx (HQ.out.only0 ho) HK.out a2 n2 cap2 rts HLN.out (HRD.out.only (HO0.out.trans ho (by simp)) (by simp)) hn2
      generalize M.reach rts = r at *
      obtain ⟨l, er⟩ := r
      go_wp2_with fail
      refine c1.mono ?_
      rintro e w3 ⟨v1, rfl, hi, ho⟩
      have HI3 : Hid (Ints w3 0 v1 l) := hi.base (Nat.zero_le _)
      have HO3 : Hid (Only [] w2 w3) := ho
      have c2 := HC2.out w3 ho
      clear hi ho c1 HC2
      go_wp2_with fail
      refine c2.mono ?_
      rintro e w4 ⟨v2, rfl, hi, ho⟩
      have HI4 : Hid (Ints w4 0 v1 l) := HI3.out.only ho (by simp)
      have HJ4 : Hid (Ints w4 0 v2 l) := hi.base (Nat.zero_le _)
      have HO4 : Hid (Only [] w2 w4) := HO3.out.trans ho (by simp)
      clear hi ho c2 HI3 HO3
      have c3 := ints_same w4 v1 v2 l HI4.out.read HJ4.out.read (Nat.le_trans HLR.out (by decide))
      go_wp2_with fail
      refine c3.mono ?_
      rintro e w5 ⟨rfl, hdr⟩
      have HI5 : Hid (Ints w5 0 v1 l) := HI4.out.only (hdr.only []) (by simp)
      have HO5 : Hid (Only [] w2 w5) := HO4.out.trans (hdr.only []) (by simp)
      clear hdr c3 HI4 HJ4 HO4
      rcases HRE.out with he | he
      · have he1 : er = 0 := he
        subst he1
        obtain ⟨hag, hwf⟩ := HRK.out rfl
        obtain ⟨a3, c3, rfl⟩ := HI5.out.len
        have c6 := hreach_rep w5 (HP.out.only0 HO5.out) HK.out a3 l.length c3 l rfl HI5.out.read (Nat.le_trans HLR.out (by decide)) hwf
        have hag2 : M.reach l = (l, 0) := hag
        rw [hag2] at c6
        have HLL : Hid (l.length ≤ 1000) := Nat.le_trans HLR.out (by decide)
        clear he hag hwf hag2
        go_wp2_with fail
        refine c6.mono ?_
        rintro e w6 ⟨v3, rfl, hi, ho⟩
        have HI6 : Hid (Ints w6 0 _ l) := HI5.out.only ho (by simp)
        have HJ6 : Hid (Ints w6 0 v3 l) := hi.base (Nat.zero_le _)
        have HO6 : Hid (Only [] w2 w6) := HO5.out.trans ho (by simp)
        clear hi ho c6
        have c7 := ints_same w6 _ v3 l HI6.out.read HJ6.out.read HLL.out
        go_wp2_with fail
        refine c7.mono ?_
        rintro e w7 ⟨rfl, hdr⟩
        have HO7 : Hid (Only [] w w7) := (HO0.out.trans HO6.out (by simp)).trans (hdr.only []) (by simp)
        clear hdr c7
        have c4 := osane_any w7
        go_wp2_with fail
        refine c4.mono ?_
        rintro e w8 ⟨rfl, ho⟩
        have HE : Hid (Below w.heap.size w w8) := bel3 HO7.out ho
        clear ho c4
        go_wp2_with fail
        exact hR.out _ _ ⟨rfl, HE.out⟩
      · have he1 : er = 3 := he
        subst he1
        have HO7 : Hid (Only [] w w5) := HO0.out.trans HO5.out (by simp)
        have c4 := osane_any w5
        clear he
        go_wp2_with fail
        refine c4.mono ?_
        rintro e w8 ⟨rfl, ho⟩
        have HE : Hid (Below w.heap.size w w8) := bel3 HO7.out ho
        clear ho c4
        go_wp2_with fail
        exact hR.out _ _ ⟨rfl, HE.out⟩
end Go.Proofs.YtcdeikbehpepjaaGreat
