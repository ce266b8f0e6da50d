/- Layer 15's laws: areas, objects (printed by wip/gen/slawb.py). -/
import Derived.Test.YtbjmgbbggbbidaaSLaw
namespace Go.Proofs.Ytbjmgbbggbbidaa
open Go.RowKit Go.Maps
set_option maxHeartbeats 3200000
set_option maxRecDepth 100000
set_option linter.unusedVariables false
theorem areas_any (w : World) (vp vq : Value) (V : View) (h : AgreeO w vp vq V) :
    Calls Try.prog 36 #[vp, vq] w (fun e w' => e = .returned (.bool true) ∧ Only [] w w') := by
  refine calls_abs fun R hR => ?_
  have H := Lib.hid h
  clear h
  go_enter Try.func36, Try.ntmps36
  go_wp2_with fail
  go_loopw [5] (fun tv wr => ∃ k : Nat, k ≤ 7 ∧ tv = .int .i64 ((k : Int) - 1) ∧ Only [] w wr) (fun tv _ => (6 - intOf tv).toNat)
  case atStart => exact ⟨0, by omega, rfl, Only.refl _ _⟩
  case round =>
    obtain ⟨k, hk, rfl, ho⟩ := hrel
    have HO := Lib.hid ho
    clear ho
    obtain ⟨t, ht⟩ : ∃ t, t = (k : Int) - 1 := ⟨_, rfl⟩
    have HT := Lib.hid ht
    rw [← ht]
    by_cases hlt : k < 7
    · have h1 : t ≤ 5 := by omega
      have h2 : -1 ≤ t := by omega
      clear ht
      have c := ((H.out wr HO.out).cur (t)).1
      obtain ⟨r1, hr⟩ : ∃ z, z = V.cur t := ⟨_, rfl⟩
      have HR1 := Lib.hid hr
      rw [← hr] at c
      clear hr
      go_wp2_with fail
      refine c.mono ?_
      rintro e w11 ⟨rfl, hd⟩
      have O11 := Lib.hid (HO.out.trans (hd.only []) (by simp))
      clear hd c
      have c := ((H.out w11 O11.out).cur (t)).2
      rw [← HR1.out] at c
      go_wp2_with fail
      refine c.mono ?_
      rintro e w12 ⟨rfl, hd⟩
      have O12 := Lib.hid (O11.out.trans (hd.only []) (by simp))
      clear hd c
      have c0 := ((H.out w12 O12.out).stk (t))
      obtain ⟨r2, hr⟩ : ∃ z, z = V.stk t := ⟨_, rfl⟩
      have HR2 := Lib.hid hr
      rw [← hr] at c0
      have HL := Lib.hid c0.2.2
      have c := c0.1
      clear hr c0
      go_wp2_with fail
      refine c.mono ?_
      rintro e w13 ⟨v4, rfl, hi, ho⟩
      have O13 := Lib.hid (O12.out.trans ho (by simp))
      have I4 := Lib.hid hi.read
      have L4 := Lib.hid hi.len
      clear hi ho c
      have c := ((H.out w13 O13.out).stk (t)).2.1
      rw [← HR2.out] at c
      go_wp2_with fail
      refine c.mono ?_
      rintro e w14 ⟨v5, rfl, hi, ho⟩
      have O14 := Lib.hid (O13.out.trans ho (by simp))
      have I5 := Lib.hid hi.read
      have I4b := Lib.hid (I4.out.only ho (by simp))
      clear hi ho c
      have c := ints_same w14 v4 v5 _ I4b.out I5.out HL.out
      go_wp2_with fail
      refine c.mono ?_
      rintro e w15 ⟨rfl, hd⟩
      have O15 := Lib.hid (O14.out.trans (hd.only []) (by simp))
      clear hd c
      go_wp2_with fail
      exact ⟨⟨k + 1, by omega, by have := HT.out; go_num, O15.out⟩, by simp [intOf]; omega⟩
    · have h1 : 5 < t := by omega
      clear ht
      go_wp2_with fail
      obtain ⟨w9, hw9⟩ : ∃ z, z = wr := ⟨_, rfl⟩
      rw [← hw9] at HO ⊢
      clear hw9
      have HO9 := Lib.hid HO.out
      clear HO h1 HT
      go_loopw [14] (fun tv wr => ∃ k : Nat, k ≤ 10 ∧ tv = .int .i64 ((k : Int) - 1) ∧ Only [] w wr) (fun tv _ => (9 - intOf tv).toNat)
      case atStart => exact ⟨0, by omega, rfl, HO9.out⟩
      case round =>
        obtain ⟨k, hk, rfl, ho⟩ := hrel
        have HO := Lib.hid ho
        clear ho
        obtain ⟨t, ht⟩ : ∃ t, t = (k : Int) - 1 := ⟨_, rfl⟩
        have HT := Lib.hid ht
        rw [← ht]
        by_cases hlt : k < 10
        · have h1 : t ≤ 8 := by omega
          have h2 : -1 ≤ t := by omega
          clear ht
          have c := ((H.out wr HO.out).par (t)).1
          obtain ⟨r1, hr⟩ : ∃ z, z = V.par t := ⟨_, rfl⟩
          have HR1 := Lib.hid hr
          rw [← hr] at c
          clear hr
          go_wp2_with fail
          refine c.mono ?_
          rintro e w11 ⟨rfl, hd⟩
          have O11 := Lib.hid (HO.out.trans (hd.only []) (by simp))
          clear hd c
          have c := ((H.out w11 O11.out).par (t)).2
          rw [← HR1.out] at c
          go_wp2_with fail
          refine c.mono ?_
          rintro e w12 ⟨rfl, hd⟩
          have O12 := Lib.hid (O11.out.trans (hd.only []) (by simp))
          clear hd c
          have c := ((H.out w12 O12.out).usr (t)).1
          obtain ⟨r2, hr⟩ : ∃ z, z = V.usr t := ⟨_, rfl⟩
          have HR2 := Lib.hid hr
          rw [← hr] at c
          clear hr
          go_wp2_with fail
          refine c.mono ?_
          rintro e w13 ⟨rfl, hd⟩
          have O13 := Lib.hid (O12.out.trans (hd.only []) (by simp))
          clear hd c
          have c := ((H.out w13 O13.out).usr (t)).2
          rw [← HR2.out] at c
          go_wp2_with fail
          refine c.mono ?_
          rintro e w14 ⟨rfl, hd⟩
          have O14 := Lib.hid (O13.out.trans (hd.only []) (by simp))
          clear hd c
          have c := ((H.out w14 O14.out).roo (t)).1
          obtain ⟨r3, hr⟩ : ∃ z, z = V.roo t := ⟨_, rfl⟩
          have HR3 := Lib.hid hr
          rw [← hr] at c
          clear hr
          go_wp2_with fail
          refine c.mono ?_
          rintro e w15 ⟨rfl, hd⟩
          have O15 := Lib.hid (O14.out.trans (hd.only []) (by simp))
          clear hd c
          have c := ((H.out w15 O15.out).roo (t)).2
          rw [← HR3.out] at c
          go_wp2_with fail
          refine c.mono ?_
          rintro e w16 ⟨rfl, hd⟩
          have O16 := Lib.hid (O15.out.trans (hd.only []) (by simp))
          clear hd c
          have c := ((H.out w16 O16.out).por (t)).1
          obtain ⟨r4, hr⟩ : ∃ z, z = V.por t := ⟨_, rfl⟩
          have HR4 := Lib.hid hr
          rw [← hr] at c
          clear hr
          go_wp2_with fail
          refine c.mono ?_
          rintro e w17 ⟨rfl, hd⟩
          have O17 := Lib.hid (O16.out.trans (hd.only []) (by simp))
          clear hd c
          have c := ((H.out w17 O17.out).por (t)).2
          rw [← HR4.out] at c
          go_wp2_with fail
          refine c.mono ?_
          rintro e w18 ⟨rfl, hd⟩
          have O18 := Lib.hid (O17.out.trans (hd.only []) (by simp))
          clear hd c
          go_wp2_with fail
          exact ⟨⟨k + 1, by omega, by have := HT.out; go_num, O18.out⟩, by simp [intOf]; omega⟩
        · have h1 : 8 < t := by omega
          clear ht
          go_wp2_with fail
          exact hR.out _ _ ⟨rfl, HO.out⟩
theorem objects_any (w : World) (vp vq : Value) (V : View) (h : AgreeO w vp vq V) :
    Calls Try.prog 37 #[vp, vq] w (fun e w' => e = .returned (.bool true) ∧ Only [] w w') := by
  refine calls_abs fun R hR => ?_
  have hl := (h w (Only.refl _ _)).len
  have H := Lib.hid h
  clear h
  rcases hl with rfl | ⟨q, va, n, vc, rfl, m2, hn⟩
  · have hn : 0 ≤ 500 := by omega
    go_enter Try.func37, Try.ntmps37
    go_wp2_with fail
    skip
    go_loopw [6] (fun tv wr => ∃ k : Nat, k ≤ 0 + 2 ∧ tv = .int .i64 k ∧ Only [] w wr) (fun tv _ => 0 + 2 - (intOf tv).toNat)
    case atStart => exact ⟨0, by omega, rfl, Only.refl _ _⟩
    case round =>
      obtain ⟨k, hk, rfl, ho⟩ := hrel
      have HO := Lib.hid ho
      clear ho
      by_cases hlt : k < 0 + 2
      · have h1 : (k : Int) ≤ 1 := by omega
        have wf : wfI (k : Int) := wfI_mk (by omega)
        have WF := Lib.hid wf
        clear wf
        have c := ((H.out wr HO.out).are (k) WF.out).1
        obtain ⟨r1, hr⟩ : ∃ z, z = V.are k := ⟨_, rfl⟩
        have HR1 := Lib.hid hr
        rw [← hr] at c
        clear hr
        go_wp2_with fail
        refine c.mono ?_
        rintro e w11 ⟨rfl, hd⟩
        have O11 := Lib.hid (HO.out.trans (hd.only []) (by simp))
        clear hd c
        have c := ((H.out w11 O11.out).are (k) WF.out).2
        rw [← HR1.out] at c
        go_wp2_with fail
        refine c.mono ?_
        rintro e w12 ⟨rfl, hd⟩
        have O12 := Lib.hid (O11.out.trans (hd.only []) (by simp))
        clear hd c
        have c0 := ((H.out w12 O12.out).ref (k) WF.out)
        obtain ⟨r2, hr⟩ : ∃ z, z = V.ref k := ⟨_, rfl⟩
        have HR2 := Lib.hid hr
        rw [← hr] at c0
        have HL := Lib.hid c0.2.2
        have c := c0.1
        clear hr c0
        go_wp2_with fail
        refine c.mono ?_
        rintro e w13 ⟨v4, rfl, hi, ho⟩
        have O13 := Lib.hid (O12.out.trans ho (by simp))
        have I4 := Lib.hid hi.read
        have L4 := Lib.hid hi.len
        clear hi ho c
        have c := ((H.out w13 O13.out).ref (k) WF.out).2.1
        rw [← HR2.out] at c
        go_wp2_with fail
        refine c.mono ?_
        rintro e w14 ⟨v5, rfl, hi, ho⟩
        have O14 := Lib.hid (O13.out.trans ho (by simp))
        have I5 := Lib.hid hi.read
        have I4b := Lib.hid (I4.out.only ho (by simp))
        clear hi ho c
        have c := ints_same w14 v4 v5 _ I4b.out I5.out HL.out
        go_wp2_with fail
        refine c.mono ?_
        rintro e w15 ⟨rfl, hd⟩
        have O15 := Lib.hid (O14.out.trans (hd.only []) (by simp))
        clear hd c
        go_wp2_with fail
        exact ⟨⟨k + 1, by omega, by go_num, O15.out⟩, by simp [intOf]; omega⟩
      · have h1 : 1 < (k : Int) := by omega
        go_wp2_with fail
        exact hR.out _ _ ⟨rfl, HO.out⟩
  · have hn0 : (0 : Int) ≤ n := by omega
    go_enter Try.func37, Try.ntmps37
    go_wp2_with fail
    clear m2
    go_loopw [6] (fun tv wr => ∃ k : Nat, k ≤ n + 2 ∧ tv = .int .i64 k ∧ Only [] w wr) (fun tv _ => n + 2 - (intOf tv).toNat)
    case atStart => exact ⟨0, by omega, rfl, Only.refl _ _⟩
    case round =>
      obtain ⟨k, hk, rfl, ho⟩ := hrel
      have HO := Lib.hid ho
      clear ho
      by_cases hlt : k < n + 2
      · have h1 : (k : Int) ≤ (n : Int) + 1 := by omega
        have wf : wfI (k : Int) := wfI_mk (by omega)
        have WF := Lib.hid wf
        clear wf
        have c := ((H.out wr HO.out).are (k) WF.out).1
        obtain ⟨r1, hr⟩ : ∃ z, z = V.are k := ⟨_, rfl⟩
        have HR1 := Lib.hid hr
        rw [← hr] at c
        clear hr
        go_wp2_with fail
        refine c.mono ?_
        rintro e w11 ⟨rfl, hd⟩
        have O11 := Lib.hid (HO.out.trans (hd.only []) (by simp))
        clear hd c
        have c := ((H.out w11 O11.out).are (k) WF.out).2
        rw [← HR1.out] at c
        go_wp2_with fail
        refine c.mono ?_
        rintro e w12 ⟨rfl, hd⟩
        have O12 := Lib.hid (O11.out.trans (hd.only []) (by simp))
        clear hd c
        have c0 := ((H.out w12 O12.out).ref (k) WF.out)
        obtain ⟨r2, hr⟩ : ∃ z, z = V.ref k := ⟨_, rfl⟩
        have HR2 := Lib.hid hr
        rw [← hr] at c0
        have HL := Lib.hid c0.2.2
        have c := c0.1
        clear hr c0
        go_wp2_with fail
        refine c.mono ?_
        rintro e w13 ⟨v4, rfl, hi, ho⟩
        have O13 := Lib.hid (O12.out.trans ho (by simp))
        have I4 := Lib.hid hi.read
        have L4 := Lib.hid hi.len
        clear hi ho c
        have c := ((H.out w13 O13.out).ref (k) WF.out).2.1
        rw [← HR2.out] at c
        go_wp2_with fail
        refine c.mono ?_
        rintro e w14 ⟨v5, rfl, hi, ho⟩
        have O14 := Lib.hid (O13.out.trans ho (by simp))
        have I5 := Lib.hid hi.read
        have I4b := Lib.hid (I4.out.only ho (by simp))
        clear hi ho c
        have c := ints_same w14 v4 v5 _ I4b.out I5.out HL.out
        go_wp2_with fail
        refine c.mono ?_
        rintro e w15 ⟨rfl, hd⟩
        have O15 := Lib.hid (O14.out.trans (hd.only []) (by simp))
        clear hd c
        go_wp2_with fail
        exact ⟨⟨k + 1, by omega, by go_num, O15.out⟩, by simp [intOf]; omega⟩
      · have h1 : (n : Int) + 1 < (k : Int) := by omega
        go_wp2_with fail
        exact hR.out _ _ ⟨rfl, HO.out⟩
end Go.Proofs.Ytbjmgbbggbbidaa
