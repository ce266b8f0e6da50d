/- Law ScopeRooms: the walk (printed by wip/gen/slawp.py). -/
import Derived.Test.YtbjmgbbggbbidaaSLawG
namespace Go.Proofs.Ytbjmgbbggbbidaa
open Go.RowKit Go.Maps
set_option maxHeartbeats 3200000
set_option maxRecDepth 100000
set_option linter.unusedVariables false
/-- What the first k objects of an area that are there have. -/
def sumK (M : Sc) (a : Int) (k : Nat) : Int := sumB a (M.obs.take k)
theorem sumK_step {M : Sc} {a : Int} {k : Nat} (hk : k < M.obs.length) : sumK M a (k + 1) = sumK M a k + if M.inn ((k : Int) + 1) = true ∧ (M.ob ((k : Int) + 1)).area = a then (M.obs[k]).blocks else 0 := by
  unfold sumK
  rw [sumB_snoc hk]
  have e : M.ob ((k : Int) + 1) = M.obs[k] := by
    unfold Sc.ob obI
    rw [show ((k : Int) + 1).toNat - 1 = k by omega, List.getElem?_eq_getElem hk]; rfl
  have e2 : M.inn ((k : Int) + 1) = !(M.obs[k]).gone := by
    rw [inn_iff, e]
    have : decide (1 ≤ (k : Int) + 1 ∧ (k : Int) + 1 ≤ (M.obs.length : Int)) = true := by simp; omega
    rw [this]; rfl
  rw [e, e2]
  congr 1
  cases (M.obs[k]).gone <;> simp
theorem sumK_bound {M : Sc} (h : M.Ok) (a : Int) (k : Nat) : 0 ≤ sumK M a k ∧ sumK M a k ≤ 8 * k := by
  induction k with
  | zero => unfold sumK; simp [sumB]
  | succ k ih =>
    by_cases hk : k < M.obs.length
    · unfold sumK at ih ⊢
      rw [sumB_snoc hk]
      have := h.oa _ (List.getElem_mem hk)
      split <;> omega
    · unfold sumK at ih ⊢
      rw [List.take_of_length_le (by omega)] at ih ⊢
      omega
theorem sumB_none {a : Int} {l : List Ob} (h : ∀ o ∈ l, ¬ (o.area = a ∧ o.gone = false)) : sumB a l = 0 := by
  induction l with
  | nil => rfl
  | cons o r ih =>
    unfold sumB
    rw [if_neg (h o List.mem_cons_self), ih (fun o' ho => h o' (List.mem_cons_of_mem _ ho))]; rfl
theorem room_fact {M : Sc} (h : M.Ok) {s : Nat} (h2 : 2 ≤ s) (hs : s < M.n + 2) : M.room s = (M.roomN s, 0) ∧ 0 ≤ M.roomN s ∧ M.roomN s + sumK M s M.obs.length = gI M.sizes (s - 2) ∧ (M.usersN s = 0 → sumK M s M.obs.length = 0) := by
  have hA : M.isA s = true := isA_of ⟨by omega, by omega⟩
  refine ⟨by unfold Sc.room; rw [hA]; rfl, h.rm s (by omega) (by omega), ?_, fun hu => ?_⟩
  · unfold Sc.roomN sumK
    rw [if_neg (by omega), List.take_length, Int.toNat_natCast]
    omega
  · unfold sumK
    rw [List.take_length]
    refine sumB_none fun o ho ⟨h1, h3⟩ => ?_
    have := h.al o ho h3 (by omega)
    rw [h1] at this
    have := used_pos.1 this
    omega
theorem size_wf {M : Sc} (h : M.Ok) {i : Nat} (hi : i < M.n) : 1 ≤ gI M.sizes i ∧ gI M.sizes i ≤ 24 := by
  have hi' : i < M.sizes.length := hi
  have := h.sz _ (List.getElem_mem hi')
  rw [gI_get hi']; exact this
section
variable {w : World} {base p q : Nat} {M : Sc}
/-- The document's sizes and objects, cell by cell. -/
theorem Half.rsizes (h : Half w base p q M M) : ∃ va vc, w.cell? ⟨q, 0, none⟩ = some (.slice va M.n vc) ∧ Read w (.slice va M.n vc) M.sizes := by
  obtain ⟨L, K, X, Y, h⟩ := h
  obtain ⟨va, vc, hv⟩ := h.hq.szs
  refine ⟨va, vc, by rw [← hv]; exact h.hq.cells.1, by rw [← hv]; exact h.hq.sz.read⟩
theorem Half.robjs (h : Half w base p q M M) : ∃ vb vd, w.cell? ⟨q, 2, none⟩ = some (.slice vb M.obs.length vd) ∧ ∀ k, (hk : k < M.obs.length) → ∃ g, vb = some ⟨g, 0, none⟩ ∧ w.cell? ⟨g, k * 4, none⟩ = some (.int .i64 (M.obs[k]).area) ∧ w.cell? ⟨g, k * 4 + 1, none⟩ = some (.int .i64 (M.obs[k]).blocks) ∧ ∃ v, w.cell? ⟨g, k * 4 + 2, none⟩ = some v ∧ Read w v (M.obs[k]).refs := by
  obtain ⟨L, K, X, Y, h⟩ := h
  obtain ⟨vb, vd, hv⟩ := h.hq.ob.len
  refine ⟨vb, vd, by rw [← hv]; exact h.hq.cells.2.2.1, fun k hk => ?_⟩
  obtain ⟨g, cap, e1, _, e2, e3, e4, _⟩ := h.hq.obj hk
  rw [hv] at e1
  cases e1
  exact ⟨g, rfl, e2, e3, _, e4, (h.hq.ob.2 k _ (List.getElem?_eq_getElem hk)).1.read⟩
end
theorem walk_ScopeRooms (a0 : Option Addr) (len0 cap0 : Nat) (f0 : Nat → Int) (a1 : Option Addr) (len1 cap1 : Nat) (f1 : Nat → Nat → Int) (w : World) (w0 : Numk w a0 len0 cap0 f0) (w1 : Recs 3 w a1 len1 f1) :
    Calls Try.prog 4 #[.slice a0 len0 cap0, .slice a1 len1 cap1] w fun e w' => e = .returned (.bool true) ∧ Below w.heap.size w w' := by
  refine calls_abs fun R hR => ?_
  have c := play_any w f0 a0 len0 cap0 w0 a1 len1 cap1 f1 w1
  clear w0 w1
  go_enter Try.func4, Try.ntmps4
  go_wp2_with fail
  refine c.mono ?_
  rintro e w2 ⟨vp, vq, rfl, hP, ho⟩
  have HO := Lib.hid ho
  clear c ho
  rcases hP with ⟨rfl, rfl⟩ | ⟨p, q, M, rfl, rfl, hH⟩
  · have c3 := sane_any w2
    go_wp2_with fail
    refine c3.mono ?_
    rintro e w5 ⟨rfl, ho⟩
    have HO5 := Lib.hid (HO.out.trans ho (by simp))
    clear c3 ho
    go_wp2_with fail
    exact hR.out _ _ ⟨rfl, HO5.out.bel⟩
  · obtain ⟨va, vc, vb, vd, hc0, hc2⟩ := hH.rcells
    have H : Hid (∀ wr, Only [] w2 wr → Agree wr (.pointer (some ⟨p, 0, none⟩)) (.pointer (some ⟨q, 0, none⟩)) (View.of M)) := agreeO_half hH
    have HH := Lib.hid hH
    have HC0 := Lib.hid hc0
    have HC2 := Lib.hid hc2
    have OK := Lib.hid hH.okp
    obtain ⟨nobs, hnobs⟩ : ∃ z, z = M.obs.length := ⟨_, rfl⟩
    obtain ⟨nn, hnn⟩ : ∃ z, z = M.n := ⟨_, rfl⟩
    rw [← hnobs] at HC2
    rw [← hnn] at HC0
    have HNO := Lib.hid hnobs
    have HNN := Lib.hid hnn
    have hn500 : nobs ≤ 500 := by have := OK.out.ob; omega
    have hn6 : nn ≤ 6 := by rw [hnn]; exact OK.out.n6
    clear hH hc0 hc2 hnobs hnn
    obtain ⟨ua, uc, hu0, husz⟩ := HH.out.rsizes
    obtain ⟨ub, ud, hu2, huob⟩ := HH.out.robjs
    rw [← HNN.out] at hu0 husz
    rw [← HNO.out] at hu2
    have HU0 := Lib.hid hu0
    have HU2 := Lib.hid hu2
    have HSZ := Lib.hid husz
    have HOB := Lib.hid huob
    clear hu0 hu2 husz huob HC0 HC2
    go_wp2_with fail
    go_loopw [8] (fun iv wr => ∃ s : Nat, 2 ≤ s ∧ s ≤ nn + 2 ∧ iv = .int .i64 s ∧ Only [] w2 wr) (fun iv _ => nn + 2 - (intOf iv).toNat)
    case atStart => exact ⟨2, by omega, by omega, rfl, Only.refl _ _⟩
    case round =>
      obtain ⟨s, hs1, hs, rfl, ho⟩ := hrel
      have HO9 := Lib.hid ho
      have m0 := ho.cell HU0.out (by simp)
      clear ho
      by_cases hslt : s < nn + 2
      · have hslt1 : (s : Int) < (nn : Int) + 2 := by omega
        have HRF := Lib.hid (room_fact OK.out hs1 (by rw [← HNN.out]; exact hslt))
        have HUS : Hid (M.users s = ((M.usersN s : Int), 0)) := users_in (isA_of ⟨by omega, by have := HNN.out; omega⟩)
        go_wp2_with fail
        clear m0
        obtain ⟨w9, hw9⟩ : ∃ z, z = wr := ⟨_, rfl⟩
        rw [← hw9] at HO9 ⊢
        clear hw9
        go_loopw [9, 10] (fun nv xv wr => ∃ k : Nat, k ≤ nobs ∧ nv = .int .i64 (sumK M s k) ∧ xv = .int .i64 ((k : Int) + 1) ∧ Only [] w2 wr) (fun _ xv _ => nobs + 1 - (intOf xv).toNat)
        case atStart => exact ⟨0, by omega, by unfold sumK; simp [sumB], rfl, HO9.out⟩
        case round =>
          obtain ⟨k, hk, rfl, rfl, ho⟩ := hrel
          have HO10 := Lib.hid ho
          have m2 := ho.cell HU2.out (by simp)
          have hbd := sumK_bound OK.out s k
          by_cases hkl : k < nobs
          · have hkl2 : k < M.obs.length := by have := HNO.out; omega
            have hst := sumK_step (M := M) (a := s) hkl2
            obtain ⟨g, e1, b0, b1, _⟩ := HOB.out k hkl2
            subst e1
            replace b1 := ho.cell b1 (by simp)
            have hoa := OK.out.oa _ (List.getElem_mem hkl2)
            have hblk := hoa.2.2.1
            have hblk2 := hoa.2.2.2.1
            obtain ⟨x, hx⟩ : ∃ x, x = (k : Int) + 1 := ⟨_, rfl⟩
            rw [← hx] at hst ⊢
            have hx1 : x - 1 = (k : Int) := by omega
            have hx2 : x ≤ (nobs : Int) := by omega
            have hk0 : (0 : Int) ≤ k := by omega
            have hkn : (k : Int) < nobs := by omega
            have WF : wfI x := wfI_mk (by omega)
            have c : Calls Try.prog 17 #[.pointer (some ⟨p, 0, none⟩), .int .i64 x] wr (Two wr (M.area x)) := ((H.out wr HO10.out).are x WF).1
            obtain ⟨sm, hsm⟩ : ∃ z, z = sumK M s k := ⟨_, rfl⟩
            rw [← hsm] at hst hbd ⊢
            obtain ⟨bl, hbl⟩ : ∃ z, z = M.obs[k].blocks := ⟨_, rfl⟩
            rw [← hbl] at hst hblk hblk2 b1
            have HX := Lib.hid hx
            have hb1 : 0 ≤ sm := hbd.1
            have hb2 : sm ≤ 4000 := by omega
            clear hx hsm hbl hoa WF ho b0 hbd
            cases hin : M.inn x
            · have hst2 : Hid (sumK M s (k + 1) = sm) := by show _ = _; rw [hst, hin]; simp
              rw [area_out hin] at c
              clear hst hin
              go_wp2_with fail
              refine c.mono ?_
              rintro e w4 ⟨rfl, hd⟩
              have HO12 := Lib.hid (HO10.out.trans (hd.only []) (by simp))
              clear hd c m2 b1
              go_wp2_with fail
              exact ⟨⟨k + 1, by omega, by rw [hst2.out], by have := HX.out; go_num, HO12.out⟩, by simp [intOf]; have := HX.out; omega⟩
            · rw [area_in hin] at c
              obtain ⟨ar, har⟩ : ∃ z, z = (M.ob x).area := ⟨_, rfl⟩
              rw [← har] at c hst
              clear har
              cases hes : (ar == (s : Int))
              · have hst2 : Hid (sumK M s (k + 1) = sm) := by show _ = _; rw [hst, if_neg (fun h => by simp [h.2] at hes)]; omega
                clear hst hin
                go_wp2_with fail
                refine c.mono ?_
                rintro e w4 ⟨rfl, hd⟩
                have HO12 := Lib.hid (HO10.out.trans (hd.only []) (by simp))
                clear hd c m2 b1
                go_wp2_with fail
                exact ⟨⟨k + 1, by omega, by rw [hst2.out], by have := HX.out; go_num, HO12.out⟩, by simp [intOf]; have := HX.out; omega⟩
              · have hst2 : Hid (sumK M s (k + 1) = sm + bl) := by show _ = _; rw [hst, if_pos ⟨hin, by simpa using hes⟩]
                clear hst hin
                go_wp2_with fail
                refine c.mono ?_
                rintro e w4 ⟨rfl, hd⟩
                have HO12 := Lib.hid (HO10.out.trans (hd.only []) (by simp))
                replace m2 := hd.cell m2
                replace b1 := hd.cell b1
                clear hd c
                go_wp2_with fail
                exact ⟨⟨k + 1, by omega, by rw [hst2.out], by have := HX.out; go_num, HO12.out⟩, by simp [intOf]; have := HX.out; omega⟩
          · obtain rfl : k = nobs := by omega
            have hkn : (k : Int) < (k : Int) + 1 := by omega
            obtain ⟨rf1, rf2, rf3, rf4⟩ := HRF.out
            rw [← HNO.out] at rf3 rf4
            have hsw := size_wf OK.out (i := s - 2) (by have := HNN.out; omega)
            obtain ⟨sm, hsm⟩ : ∃ z, z = sumK M s k := ⟨_, rfl⟩
            rw [← hsm] at rf3 rf4 hbd ⊢
            obtain ⟨rm, hrm⟩ : ∃ z, z = M.roomN s := ⟨_, rfl⟩
            rw [← hrm] at rf1 rf2 rf3
            obtain ⟨un, hun⟩ : ∃ z, z = M.usersN s := ⟨_, rfl⟩
            have hus := HUS.out
            rw [← hun] at rf4 hus
            have c : Calls Try.prog 18 #[.pointer (some ⟨p, 0, none⟩), .int .i64 s] wr (Two wr (M.room s)) := ((H.out wr HO10.out).roo s).1
            rw [rf1] at c
            have HUSE := Lib.hid hus
            have m0 := ho.cell HU0.out (by simp)
            rcases HSZ.out with ⟨b, o, d, g1, g2⟩ | ⟨oa, d, g1, g2⟩
            rotate_left
            · have hnl : M.n = 0 := by unfold Sc.n; rw [g2]; rfl
              have := HNN.out
              omega
            have e1 : ua = some ⟨b, o, none⟩ := by cases g1; rfl
            subst e1
            have hcs := ho.cell (g2 (s - 2) (by have := HNN.out; unfold Sc.n at this; omega)) (by simp)
            rw [← rf3] at hcs hsw
            obtain ⟨j, hj⟩ : ∃ j : Nat, j = s - 2 := ⟨_, rfl⟩
            rw [← hj] at hcs
            have hjs : (s : Int) - 2 = (j : Int) := by omega
            have hj0 : (0 : Int) ≤ j := by omega
            have hjn : (j : Int) < nn := by omega
            have hb0 : 0 ≤ sm := hbd.1
            have hb1 : sm ≤ 24 := by omega
            have hb2 : rm ≤ 24 := by omega
            have hw1 : IntKind.i64.wrap (rm + sm) = rm + sm := IntWalk.i64_in _ (by omega)
            clear hsm hrm hun hus rf1 rf3 hsw g1 g2 hj ho HRF HUS hbd
            go_wp2_with fail
            refine c.mono ?_
            rintro e w4 ⟨rfl, hd⟩
            have HO12 := Lib.hid (HO10.out.trans (hd.only []) (by simp))
            replace m0 := hd.cell m0
            replace hcs := hd.cell hcs
            clear hd c m2
            have c : Calls Try.prog 14 #[.pointer (some ⟨p, 0, none⟩), .int .i64 s] w4 (Two w4 (M.users s)) := ((H.out w4 HO12.out).usr s).1
            rw [HUSE.out] at c
            go_wp2_with fail
            refine c.mono ?_
            rintro e w5 ⟨rfl, hd⟩
            have HO13 := Lib.hid (HO12.out.trans (hd.only []) (by simp))
            replace m0 := hd.cell m0
            replace hcs := hd.cell hcs
            clear hd c
            have hrm0 : ¬ rm < 0 := by omega
            by_cases hu0 : un = 0
            · have hs0 : sm = 0 := rf4 hu0
              subst hu0 hs0
              clear rf4
              go_wp2_with fail
              exact ⟨⟨s + 1, by omega, by omega, by go_num, HO13.out⟩, by simp [intOf]; omega⟩
            · have hu1 : ((un : Int) == 0) = false := by simp; omega
              clear rf4
              go_wp2_with fail
              exact ⟨⟨s + 1, by omega, by omega, by go_num, HO13.out⟩, by simp [intOf]; omega⟩
      · have hslt1 : (nn : Int) + 2 ≤ s := by omega
        have c3 := sane_any wr
        go_wp2_with fail
        refine c3.mono ?_
        rintro e w5 ⟨rfl, ho⟩
        have HO5 := Lib.hid ((HO.out.trans HO9.out (by simp)).trans ho (by simp))
        clear c3 ho
        go_wp2_with fail
        exact hR.out _ _ ⟨rfl, HO5.out.bel⟩
end Go.Proofs.Ytbjmgbbggbbidaa
