/- Law ScopeSafe: the walk. -/
import Derived.Test.YtbjmgbbggbbidaaSLawE
namespace Go.Proofs.Ytbjmgbbggbbidaa
open Go.RowKit Go.Maps
set_option maxHeartbeats 3200000
set_option maxRecDepth 100000
set_option linter.unusedVariables false
section
variable {w : World} {base p q : Nat} {M : Sc}
theorem Half.outer (h : Half w base p q M M) (a b : Int) : Calls Try.prog 25 #[.pointer (some ⟨p, 0, none⟩), .int .i64 a, .int .i64 b] w (TwoB w (M.outer a b)) := by
  obtain ⟨L, K, X, Y, h⟩ := h
  have := outerQ_rep w h.hp h.okp.toP a b
  rwa [h.okp.toP_outer] at this
theorem Half.rin (h : Half w base p q M M) (x : Int) : Calls Try.prog 35 #[.pointer (some ⟨q, 0, none⟩), .int .i64 x] w (Exact w (.bool (M.inn x))) := by
  obtain ⟨L, K, X, Y, h⟩ := h
  exact rin_rep w h.hq h.okr x
theorem Half.rcells (h : Half w base p q M M) : ∃ va vc vb vd, w.cell? ⟨q, 0, none⟩ = some (.slice va M.n vc) ∧ w.cell? ⟨q, 2, none⟩ = some (.slice vb M.obs.length vd) := by
  obtain ⟨L, K, X, Y, h⟩ := h
  obtain ⟨va, vc, hv⟩ := h.hq.szs
  obtain ⟨vb, vd, hw⟩ := h.hq.ob.len
  have h1 := h.hq.cells
  exact ⟨va, vc, vb, vd, by rw [← hv]; exact h1.1, by rw [← hw]; exact h1.2.2.1⟩
end
theorem inn_wf {M : Sc} (h : M.Ok) {x : Int} (hx : M.inn x = true) : wfI x := by
  have := (obI_mem hx).2.2
  have := h.ob
  exact wfI_mk (by omega)
theorem outer_true {M : Sc} {a b : Int} (ha : 0 ≤ a ∧ a < (M.n : Int) + 2) (hb : 0 ≤ b ∧ b < (M.n : Int) + 2) (h : M.outerN 8 a b = true) : M.outer a b = (true, 0) := by
  unfold Sc.outer
  rw [isA_of ha, isA_of hb, h]; rfl
theorem area_in {M : Sc} {x : Int} (hx : M.inn x = true) : M.area x = ((M.ob x).area, 0) := by unfold Sc.area; rw [hx]; rfl
theorem area_out {M : Sc} {x : Int} (hx : M.inn x = false) : M.area x = (0, 3) := by unfold Sc.area; rw [hx]; rfl
theorem refs_in {M : Sc} {x : Int} (hx : M.inn x = true) : M.refs x = ((M.ob x).refs.filter M.inn, 0) := by unfold Sc.refs; rw [hx]; rfl
theorem refs_out {M : Sc} {x : Int} (hx : M.inn x = false) : M.refs x = ([], 3) := by unfold Sc.refs; rw [hx]; rfl
theorem safe_ref {M : Sc} (h : M.Ok) {x y : Int} (hx : M.inn x = true) (hy : y ∈ (M.ob x).refs.filter M.inn) : M.inn y = true ∧ M.outer (M.ob y).area (M.ob x).area = (true, 0) := by
  rw [List.mem_filter] at hy
  have mx := obI_mem hx
  exact ⟨hy.2, outer_true (h.areaA hy.2) (h.areaA hx) (h.rf _ mx.1 mx.2.1 y hy.1 hy.2)⟩
theorem safe_por {M : Sc} (h : M.Ok) {s : Int} (h2 : 2 ≤ s) (hs : s < (M.n : Int) + 2) : (M.portal s).2 = 0 → (M.portal s).1 ≠ 0 → M.inn (M.portal s).1 = true ∧ M.outer (M.ob (M.portal s).1).area s = (true, 0) := by
  have hA : M.isA s = true := isA_of ⟨by omega, hs⟩
  intro he hx
  have hpv : M.portal s = if M.used s then (M.por s.toNat, 0) else (0, 13) := by unfold Sc.portal; rw [hA]; simp [h2]
  cases hu : M.used s
  · rw [hpv, hu] at he; simp at he
  · have e1 : (M.portal s).1 = M.por s.toNat := by rw [hpv, hu]; rfl
    rw [e1] at hx ⊢
    rcases h.po s h2 hs with h1 | ⟨_, h3, h4⟩
    · exact absurd h1 hx
    · exact ⟨h3, outer_true (h.areaA h3) ⟨by omega, hs⟩ h4⟩
theorem walk_ScopeSafe (a0 : Option Addr) (len0 cap0 : Nat) (f0 : Nat → Int) (a1 : Option Addr) (len1 cap1 : Nat) (f1 : Nat → Nat → Int) (w : World) (w0 : Numk w a0 len0 cap0 f0) (w1 : Recs 3 w a1 len1 f1) :
    Calls Try.prog 8 #[.slice a0 len0 cap0, .slice a1 len1 cap1] w fun e w' => e = .returned (.bool true) ∧ Below w.heap.size w w' := by
  refine calls_abs fun R hR => ?_
  have c := play_any w f0 a0 len0 cap0 w0 a1 len1 cap1 f1 w1
  clear w0 w1
  go_enter Try.func8, Try.ntmps8
  go_wp2_with fail
  refine c.mono ?_
  rintro e w2 ⟨vp, vq, rfl, hP, ho⟩
  have HO := Lib.hid ho
  clear c ho
  rcases hP with ⟨rfl, rfl⟩ | ⟨p, q, M, rfl, rfl, hH⟩
  · have c3 := sane_any w2
    go_wp2_with fail
    refine c3.mono ?_
    rintro e w5 ⟨rfl, ho⟩
    have HO5 := Lib.hid (HO.out.trans ho (by simp))
    clear c3 ho
    go_wp2_with fail
    exact hR.out _ _ ⟨rfl, HO5.out.bel⟩
  · obtain ⟨va, vc, vb, vd, hc0, hc2⟩ := hH.rcells
    have H : Hid (∀ wr, Only [] w2 wr → Agree wr (.pointer (some ⟨p, 0, none⟩)) (.pointer (some ⟨q, 0, none⟩)) (View.of M)) := agreeO_half hH
    have HH := Lib.hid hH
    have HC0 := Lib.hid hc0
    have HC2 := Lib.hid hc2
    have OK := Lib.hid hH.okp
    obtain ⟨nobs, hnobs⟩ : ∃ z, z = M.obs.length := ⟨_, rfl⟩
    obtain ⟨nn, hnn⟩ : ∃ z, z = M.n := ⟨_, rfl⟩
    rw [← hnobs] at HC2
    rw [← hnn] at HC0
    have HNO := Lib.hid hnobs
    have HNN := Lib.hid hnn
    have hn500 : nobs ≤ 500 := by have := OK.out.ob; omega
    have hn6 : nn ≤ 6 := by rw [hnn]; exact OK.out.n6
    clear hH hc0 hc2 hnobs hnn
    go_wp2_with fail
    go_loopw [8] (fun iv wr => ∃ k : Nat, 1 ≤ k ∧ k ≤ nobs + 1 ∧ iv = .int .i64 k ∧ Only [] w2 wr) (fun iv _ => nobs + 1 - (intOf iv).toNat)
    case atStart => exact ⟨1, by omega, by omega, rfl, Only.refl _ _⟩
    case round =>
      obtain ⟨k, hk1, hk, rfl, ho⟩ := hrel
      have HO1 := Lib.hid ho
      have m2 := ho.cell HC2.out (by simp)
      clear ho
      by_cases hlt : k < nobs + 1
      · have hlt1 : (k : Int) ≤ nobs := by omega
        have WF : Hid (wfI (k : Int)) := wfI_mk (by omega)
        have c := ((H.out wr HO1.out).are k WF.out).1
        cases hx : M.inn k
        · have har : Hid (M.area k = (0, 3)) := area_out hx
          have hrf : Hid (M.refs k = ([], 3)) := refs_out hx
          replace c : Calls Try.prog 17 #[.pointer (some ⟨p, 0, none⟩), .int .i64 k] wr (Two wr (M.area k)) := c
          rw [har.out] at c
          have HX := Lib.hid hx
          clear hx har
          go_wp2_with fail
          refine c.mono ?_
          rintro e w3 ⟨rfl, hd⟩
          have HO3 := Lib.hid (HO1.out.trans (hd.only []) (by simp))
          clear hd c m2
          have c : Calls Try.prog 21 #[.pointer (some ⟨p, 0, none⟩), .int .i64 k] w3 (TwoL w3 (M.refs k)) := ((H.out w3 HO3.out).ref k WF.out).1
          rw [hrf.out] at c
          go_wp2_with fail
          refine c.mono ?_
          rintro e w4 ⟨v4, rfl, hi, ho⟩
          have HO4 := Lib.hid (HO3.out.trans ho (by simp))
          obtain ⟨va4, vc4, hv4⟩ := hi.len
          subst hv4
          clear hi ho c
          have c := (HH.out.only0 HO4.out).rin k
          rw [HX.out] at c
          go_wp2_with fail
          refine c.mono ?_
          rintro e _ ⟨rfl, rfl⟩
          clear c
          go_wp2_with fail
          go_loopw [13] (fun jv wr => jv = .int .i64 0 ∧ Only [] w2 wr) (fun _ _ => 0)
          case atStart => exact ⟨rfl, HO4.out⟩
          case round =>
            obtain ⟨rfl, ho⟩ := hrel
            have HO9 := Lib.hid ho
            clear ho
            go_wp2_with fail
            exact ⟨⟨k + 1, by omega, by omega, by go_num, HO9.out⟩, by simp [intOf]; omega⟩
        · have har : Hid (M.area k = ((M.ob k).area, 0)) := area_in hx
          have hrf : Hid (M.refs k = ((M.ob k).refs.filter M.inn, 0)) := refs_in hx
          have HSR : Hid (∀ y, y ∈ (M.ob k).refs.filter M.inn → M.inn y = true ∧ M.outer (M.ob y).area (M.ob k).area = (true, 0)) := fun y hy => safe_ref OK.out hx hy
          have hrl : Hid (((M.ob k).refs.filter M.inn).length ≤ 1000) := by have := refs_len OK.out k; rw [hrf.out] at this; exact this
          replace c : Calls Try.prog 17 #[.pointer (some ⟨p, 0, none⟩), .int .i64 k] wr (Two wr (M.area k)) := c
          rw [har.out] at c
          have HX := Lib.hid hx
          obtain ⟨ar, har2⟩ : ∃ z, z = (M.ob k).area := ⟨_, rfl⟩
          rw [← har2] at c HSR
          obtain ⟨rl, hrl2⟩ : ∃ z, z = (M.ob k).refs.filter M.inn := ⟨_, rfl⟩
          rw [← hrl2] at hrf HSR hrl
          clear hx har har2 hrl2
          go_wp2_with fail
          refine c.mono ?_
          rintro e w3 ⟨rfl, hd⟩
          have HO3 := Lib.hid (HO1.out.trans (hd.only []) (by simp))
          clear hd c m2
          have c : Calls Try.prog 21 #[.pointer (some ⟨p, 0, none⟩), .int .i64 k] w3 (TwoL w3 (M.refs k)) := ((H.out w3 HO3.out).ref k WF.out).1
          rw [hrf.out] at c
          go_wp2_with fail
          refine c.mono ?_
          rintro e w4 ⟨v4, rfl, hi, ho⟩
          have HO4 := Lib.hid (HO3.out.trans ho (by simp))
          obtain ⟨va4, vc4, hv4⟩ := hi.len
          subst hv4
          have HRD := Lib.hid hi.read
          clear hi ho c
          have c := (HH.out.only0 HO4.out).rin k
          rw [HX.out] at c
          go_wp2_with fail
          refine c.mono ?_
          rintro e _ ⟨rfl, rfl⟩
          clear c
          obtain ⟨rn, hrn⟩ : ∃ z, z = rl.length := ⟨_, rfl⟩
          have HRN := Lib.hid hrn
          have hrn1 : rn ≤ 1000 := by rw [hrn]; exact hrl.out
          have HRD4 : Hid (Read w4 (.slice va4 rn vc4) rl) := by show Read _ _ _; rw [hrn]; exact HRD.out
          show _
          have hsh : ((rl, (0 : Int)).1).length = rn := hrn.symm
          rw [hsh]
          clear hrn hsh HRD
          go_wp2_with fail
          go_loopw [13] (fun jv wr => ∃ j : Nat, j ≤ rn ∧ jv = .int .i64 j ∧ Only [] w2 wr ∧ Only [] w4 wr) (fun jv _ => rn - (intOf jv).toNat)
          case atStart => exact ⟨0, by omega, rfl, HO4.out, Only.refl _ _⟩
          case round =>
            obtain ⟨j, hj, rfl, ho, ho2⟩ := hrel
            have HO9 := Lib.hid ho
            have HP9 := Lib.hid ho2
            clear ho
            by_cases hjl : j < rn
            · have hjl1 : (j : Int) < rn := by omega
              have hjl2 : j < rl.length := by have := HRN.out; omega
              rcases HRD4.out with ⟨b, o, d, g1, g2⟩ | ⟨oa, d, g1, g2⟩
              rotate_left
              · rw [g2] at hjl2; simp at hjl2
              have e1 : va4 = some ⟨b, o, none⟩ := by cases g1; rfl
              subst e1
              have hcj := ho2.cell (g2 j hjl2) (by simp)
              have hsr := HSR.out (gI rl j) (by rw [gI_get hjl2]; exact List.getElem_mem _)
              obtain ⟨y, hy⟩ : ∃ y, y = gI rl j := ⟨_, rfl⟩
              rw [← hy] at hcj hsr
              have wy := inn_wf OK.out hsr.1
              have hay : M.area y = ((M.ob y).area, 0) := area_in hsr.1
              have hou := Lib.hid hsr.2
              have c : Calls Try.prog 17 #[.pointer (some ⟨p, 0, none⟩), .int .i64 y] wr (Two wr (M.area y)) := ((H.out wr HO9.out).are y wy).1
              rw [hay] at c
              obtain ⟨ay, hay2⟩ : ∃ z, z = (M.ob y).area := ⟨_, rfl⟩
              rw [← hay2] at c hou
              clear g1 g2 hsr hy wy hay hay2 ho2
              go_wp2_with fail
              refine c.mono ?_
              rintro e w5 ⟨rfl, hd⟩
              have HO10 := Lib.hid (HO9.out.trans (hd.only []) (by simp))
              have HP10 := Lib.hid (HP9.out.trans (hd.only []) (by simp))
              clear hd c hcj
              have c := (HH.out.only0 HO10.out).outer ay ar
              rw [hou.out] at c
              go_wp2_with fail
              refine c.mono ?_
              rintro e w6 ⟨rfl, hd⟩
              have HO11 := Lib.hid (HO10.out.trans (hd.only []) (by simp))
              have HP11 := Lib.hid (HP10.out.trans (hd.only []) (by simp))
              clear hd c
              go_wp2_with fail
              exact ⟨⟨j + 1, by omega, by go_num, HO11.out, HP11.out⟩, by simp [intOf]; omega⟩
            · obtain rfl : j = rn := by omega
              clear ho2
              go_wp2_with fail
              exact ⟨⟨k + 1, by omega, by omega, by go_num, HO9.out⟩, by simp [intOf]; omega⟩
      · have hlt1 : (nobs : Int) < k := by omega
        go_wp2_with fail
        have hdf : decide (k ≤ nobs) = false := by simp; omega
        try simp only [hdf]
        clear m2 hlt1 hlt hdf
        obtain ⟨w9, hw9⟩ : ∃ z, z = wr := ⟨_, rfl⟩
        rw [← hw9] at HO1 ⊢
        clear hw9
        go_loopw [18] (fun iv wr => ∃ s : Nat, 2 ≤ s ∧ s ≤ nn + 2 ∧ iv = .int .i64 s ∧ Only [] w2 wr) (fun iv _ => nn + 2 - (intOf iv).toNat)
        case atStart => exact ⟨2, by omega, by omega, rfl, HO1.out⟩
        case round =>
          obtain ⟨s, hs1, hs, rfl, ho⟩ := hrel
          have HO9 := Lib.hid ho
          have m0 := ho.cell HC0.out (by simp)
          clear ho
          by_cases hslt : s < nn + 2
          · have hslt1 : (s : Int) < (nn : Int) + 2 := by omega
            have hsp := safe_por OK.out (s := (s : Int)) (by omega) (by have := HNN.out; omega)
            have c : Calls Try.prog 33 #[.pointer (some ⟨p, 0, none⟩), .int .i64 s] wr (Two wr (M.portal s)) := ((H.out wr HO9.out).por s).1
            generalize M.portal s = pv at *
            obtain ⟨x, e⟩ := pv
            replace hsp : e = 0 → x ≠ 0 → M.inn x = true ∧ M.outer (M.ob x).area s = (true, 0) := hsp
            have HSP := Lib.hid hsp
            clear hsp
            go_wp2_with fail
            refine c.mono ?_
            rintro e9 w3 ⟨rfl, hd⟩
            have HO10 := Lib.hid (HO9.out.trans (hd.only []) (by simp))
            clear hd c m0
            cases he : (e == 0)
            · go_wp2_with fail
              exact ⟨⟨s + 1, by omega, by omega, by go_num, HO10.out⟩, by simp [intOf]; omega⟩
            · have he0 : e = 0 := by simpa using he
              subst he0
              clear he
              by_cases hx0 : x = 0
              · subst hx0
                go_wp2_with fail
                exact ⟨⟨s + 1, by omega, by omega, by go_num, HO10.out⟩, by simp [intOf]; omega⟩
              · obtain ⟨hx1, hx2⟩ := HSP.out rfl hx0
                have wy := inn_wf OK.out hx1
                have hay : M.area x = ((M.ob x).area, 0) := area_in hx1
                have c : Calls Try.prog 17 #[.pointer (some ⟨p, 0, none⟩), .int .i64 x] w3 (Two w3 (M.area x)) := ((H.out w3 HO10.out).are x wy).1
                rw [hay] at c
                have hou := Lib.hid hx2
                obtain ⟨ay, hay2⟩ : ∃ z, z = (M.ob x).area := ⟨_, rfl⟩
                rw [← hay2] at c hou
                clear hx1 hx2 wy hay hay2
                go_wp2_with fail
                refine c.mono ?_
                rintro e w5 ⟨rfl, hd⟩
                have HO11 := Lib.hid (HO10.out.trans (hd.only []) (by simp))
                clear hd c
                have c := (HH.out.only0 HO11.out).outer ay s
                rw [hou.out] at c
                go_wp2_with fail
                refine c.mono ?_
                rintro e w6 ⟨rfl, hd⟩
                have HO12 := Lib.hid (HO11.out.trans (hd.only []) (by simp))
                clear hd c
                go_wp2_with fail
                exact ⟨⟨s + 1, by omega, by omega, by go_num, HO12.out⟩, by simp [intOf]; omega⟩
          · have hslt1 : (nn : Int) + 2 ≤ s := by omega
            have c3 := sane_any wr
            go_wp2_with fail
            refine c3.mono ?_
            rintro e w5 ⟨rfl, ho⟩
            have HO5 := Lib.hid ((HO.out.trans HO9.out (by simp)).trans ho (by simp))
            clear c3 ho
            go_wp2_with fail
            exact hR.out _ _ ⟨rfl, HO5.out.bel⟩
end Go.Proofs.Ytbjmgbbggbbidaa
