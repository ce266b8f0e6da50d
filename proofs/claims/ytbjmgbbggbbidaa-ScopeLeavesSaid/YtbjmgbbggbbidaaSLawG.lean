/- Law ScopeParents: the walk (printed by wip/gen/slawp.py). -/
import Derived.Test.YtbjmgbbggbbidaaSLawF
namespace Go.Proofs.Ytbjmgbbggbbidaa
open Go.RowKit Go.Maps
set_option maxHeartbeats 3200000
set_option maxRecDepth 100000
set_option linter.unusedVariables false
theorem users_in {M : Sc} {a : Int} (h : M.isA a = true) : M.users a = ((M.usersN a : Int), 0) := by unfold Sc.users; rw [h]; rfl
theorem parent_in {M : Sc} {a p : Int} (h : M.par a = some p) (hA : M.isA a = true) : M.parent a = (p, 0) := by unfold Sc.parent; rw [hA, h]; rfl
theorem used_pos {M : Sc} {a : Int} : M.used a = true ↔ 0 < M.usersN a := by unfold Sc.used; simp
/-- One step up. -/
theorem up_step {M : Sc} (h : M.Ok) {rk : Int → Nat} (hr : ∀ a p, M.par a = some p → 2 ≤ p → rk p < rk a) {a : Int} (hu : M.used a = true) :
    ∃ p, M.parent a = (p, 0) ∧ M.users p = ((M.usersN p : Int), 0) ∧ p ≠ a ∧ (p = 1 ∨ (M.used p = true ∧ 0 < M.usersN p ∧ p ≠ 1 ∧ rk p < rk a)) := by
  obtain ⟨p, hp⟩ := Sc.used_par hu
  have hA := h.usedA hu
  have hAi : M.isA a = true := isA_of ⟨by omega, hA.2⟩
  rcases Sc.par_in hp with e | e
  · subst e
    exact ⟨1, parent_in hp hAi, users_in (isA_of ⟨by omega, by omega⟩), by omega, .inl rfl⟩
  · have hB := h.usedA e
    have := hr a p hp hB.1
    exact ⟨p, parent_in hp hAi, users_in (isA_of ⟨by omega, hB.2⟩), fun e => by subst e; omega, .inr ⟨e, used_pos.1 e, by omega, this⟩⟩
theorem near_step {l : List Int} {i : Nat} (hi : i < l.length) : under (l.take (i + 1)) = if 2 ≤ gI l i then gI l i else under (l.take i) := by
  rw [List.take_succ_eq_append_getElem hi, under_snoc, gI_get hi]
theorem stack_in {M : Sc} {t : Nat} (ht : t < 5) : M.stack t = (M.stk t, 0) := by
  have : isT (t : Int) = true := by unfold isT; simp; omega
  unfold Sc.stack; rw [this]; rfl
theorem walk_ScopeParents (a0 : Option Addr) (len0 cap0 : Nat) (f0 : Nat → Int) (a1 : Option Addr) (len1 cap1 : Nat) (f1 : Nat → Nat → Int) (w : World) (w0 : Numk w a0 len0 cap0 f0) (w1 : Recs 3 w a1 len1 f1) :
    Calls Try.prog 3 #[.slice a0 len0 cap0, .slice a1 len1 cap1] w fun e w' => e = .returned (.bool true) ∧ Below w.heap.size w w' := by
  refine calls_abs fun R hR => ?_
  have c := play_any w f0 a0 len0 cap0 w0 a1 len1 cap1 f1 w1
  clear w0 w1
  go_enter Try.func3, Try.ntmps3
  go_wp2_with fail
  refine c.mono ?_
  rintro e w2 ⟨vp, vq, rfl, hP, ho⟩
  have HO := Lib.hid ho
  clear c ho
  rcases hP with ⟨rfl, rfl⟩ | ⟨p, q, M, rfl, rfl, hH⟩
  · have c3 := sane_any w2
    go_wp2_with fail
    refine c3.mono ?_
    rintro e w5 ⟨rfl, ho⟩
    have HO5 := Lib.hid (HO.out.trans ho (by simp))
    clear c3 ho
    go_wp2_with fail
    exact hR.out _ _ ⟨rfl, HO5.out.bel⟩
  · obtain ⟨va, vc, vb, vd, hc0, hc2⟩ := hH.rcells
    have H : Hid (∀ wr, Only [] w2 wr → Agree wr (.pointer (some ⟨p, 0, none⟩)) (.pointer (some ⟨q, 0, none⟩)) (View.of M)) := agreeO_half hH
    have HH := Lib.hid hH
    have HC0 := Lib.hid hc0
    have HC2 := Lib.hid hc2
    have OK := Lib.hid hH.okp
    obtain ⟨nobs, hnobs⟩ : ∃ z, z = M.obs.length := ⟨_, rfl⟩
    obtain ⟨nn, hnn⟩ : ∃ z, z = M.n := ⟨_, rfl⟩
    rw [← hnobs] at HC2
    rw [← hnn] at HC0
    have HNO := Lib.hid hnobs
    have HNN := Lib.hid hnn
    have hn500 : nobs ≤ 500 := by have := OK.out.ob; omega
    have hn6 : nn ≤ 6 := by rw [hnn]; exact OK.out.n6
    clear hH hc0 hc2 hnobs hnn
    obtain ⟨rk, hrk6, hrk⟩ := OK.out.rank
    have UP : Hid (∀ a, M.used a = true → ∃ p, M.parent a = (p, 0) ∧ M.users p = ((M.usersN p : Int), 0) ∧ p ≠ a ∧ (p = 1 ∨ (M.used p = true ∧ 0 < M.usersN p ∧ p ≠ 1 ∧ rk p < rk a))) := fun a hu => up_step OK.out hrk hu
    have RK6 := Lib.hid hrk6
    clear hrk hrk6
    go_wp2_with fail
    go_loopw [8] (fun iv wr => ∃ s : Nat, 2 ≤ s ∧ s ≤ nn + 2 ∧ iv = .int .i64 s ∧ Only [] w2 wr) (fun iv _ => nn + 2 - (intOf iv).toNat)
    case atStart => exact ⟨2, by omega, by omega, rfl, Only.refl _ _⟩
    case round =>
      obtain ⟨s, hs1, hs, rfl, ho⟩ := hrel
      have HO9 := Lib.hid ho
      have m0 := ho.cell HC0.out (by simp)
      clear ho
      by_cases hslt : s < nn + 2
      · have hslt1 : (s : Int) < (nn : Int) + 2 := by omega
        have hus : M.users s = ((M.usersN s : Int), 0) := users_in (isA_of ⟨by omega, by have := HNN.out; omega⟩)
        obtain ⟨un, hun⟩ : ∃ z, z = M.usersN s := ⟨_, rfl⟩
        rw [← hun] at hus
        have HUN := Lib.hid hun
        clear hun
        have c : Calls Try.prog 14 #[.pointer (some ⟨p, 0, none⟩), .int .i64 s] wr (Two wr (M.users s)) := ((H.out wr HO9.out).usr s).1
        rw [hus] at c
        clear hus
        go_wp2_with fail
        refine c.mono ?_
        rintro e w3 ⟨rfl, hd⟩
        have HO10 := Lib.hid (HO9.out.trans (hd.only []) (by simp))
        clear hd c m0
        go_wp2_with fail
        go_loopw [9, 12] (fun av iv wr => ∃ (a : Int) (i : Nat), av = .int .i64 a ∧ iv = .int .i64 i ∧ i ≤ 7 ∧ Only [] w2 wr ∧ (un = 0 ∨ a = 1 ∨ (M.used a = true ∧ a ≠ 1 ∧ i + rk a ≤ 6))) (fun av _ _ => if intOf av = 1 then 0 else rk (intOf av) + 1)
        case atStart =>
          refine ⟨s, 0, rfl, rfl, by omega, HO10.out, ?_⟩
          by_cases h0 : un = 0
          · exact .inl h0
          · exact .inr (.inr ⟨used_pos.2 (by have := HUN.out; omega), by omega, by have := RK6.out s; omega⟩)
        case round =>
          obtain ⟨a, i, rfl, rfl, hi7, ho, hcase⟩ := hrel
          have HO11 := Lib.hid ho
          clear ho
          by_cases h0 : un = 0
          · subst h0
            clear hcase
            go_wp2_with fail
            exact ⟨⟨s + 1, by omega, by omega, by go_num, HO11.out⟩, by simp [intOf]; omega⟩
          · have h0' : (0 : Int) < un := by omega
            by_cases ha : a = 1
            · subst ha
              clear hcase
              go_wp2_with fail
              exact ⟨⟨s + 1, by omega, by omega, by go_num, HO11.out⟩, by simp [intOf]; omega⟩
            · have hc : M.used a = true ∧ a ≠ 1 ∧ i + rk a ≤ 6 := by
                rcases hcase with h | h | h
                · exact absurd h h0
                · exact absurd h ha
                · exact h
              obtain ⟨hu, _, hrk⟩ := hc
              obtain ⟨pp, hp1, hp2, hp3, hp4⟩ := UP.out a hu
              have c : Calls Try.prog 15 #[.pointer (some ⟨p, 0, none⟩), .int .i64 a] wr (Two wr (M.parent a)) := ((H.out wr HO11.out).par a).1
              rw [hp1] at c
              have HP2 := Lib.hid hp2
              have HP4 := Lib.hid hp4
              have HRKA := Lib.hid hrk
              clear hcase hu hp1 hp2 hp4 hrk
              go_wp2_with fail
              refine c.mono ?_
              rintro e w4 ⟨rfl, hd⟩
              have HO12 := Lib.hid (HO11.out.trans (hd.only []) (by simp))
              clear hd c
              have c : Calls Try.prog 14 #[.pointer (some ⟨p, 0, none⟩), .int .i64 pp] w4 (Two w4 (M.users pp)) := ((H.out w4 HO12.out).usr pp).1
              rw [HP2.out] at c
              obtain ⟨up, hup⟩ : ∃ z, z = M.usersN pp := ⟨_, rfl⟩
              rw [← hup] at c HP4
              clear hup
              go_wp2_with fail
              refine c.mono ?_
              rintro e w5 ⟨rfl, hd⟩
              have HO13 := Lib.hid (HO12.out.trans (hd.only []) (by simp))
              clear hd c
              have hi6 : (i : Int) ≤ 6 := by have := HRKA.out; omega
              rcases HP4.out with h1 | ⟨h1, h2, h3, h4⟩
              · subst h1
                have q1 : ((1 : Int) == a) = false := by simpa using fun e => ha e.symm
                go_wp2_with fail
                exact ⟨⟨1, i + 1, rfl, by go_num, by omega, HO13.out, .inr (.inl rfl)⟩, by simp [intOf, ha]⟩
              · have h2' : up ≠ 0 := by omega
                have H4 := Lib.hid h4
                have H1 := Lib.hid h1
                have q1 : (pp == a) = false := by simpa using hp3
                have q2 : (pp != 1) = true := by simpa using h3
                have q3 : ((up : Int) == 0) = false := by simp; omega
                clear h4 h1
                go_wp2_with fail
                exact ⟨⟨pp, i + 1, rfl, by go_num, by omega, HO13.out, .inr (.inr ⟨H1.out, h3, by have := H4.out; have := HRKA.out; omega⟩)⟩, by simp [intOf, ha, h3]; exact H4.out⟩
      · have hslt1 : (nn : Int) + 2 ≤ s := by omega
        go_wp2_with fail
        have hdf : decide ((s : Int) < (nn : Int) + 2) = false := by simp; omega
        try simp only [hdf]
        clear m0 hslt1 hslt hdf
        obtain ⟨w9, hw9⟩ : ∃ z, z = wr := ⟨_, rfl⟩
        rw [← hw9] at HO9 ⊢
        clear hw9
        have HO1 := Lib.hid HO9.out
        clear HO9
        go_loopw [17] (fun iv wr => ∃ t : Nat, t ≤ 5 ∧ iv = .int .i64 t ∧ Only [] w2 wr) (fun iv _ => 5 - (intOf iv).toNat)
        case atStart => exact ⟨0, by omega, rfl, HO1.out⟩
        case round =>
          obtain ⟨t, ht, rfl, ho⟩ := hrel
          have HO9 := Lib.hid ho
          clear ho
          by_cases htl : t < 5
          · have htl1 : (t : Int) < 5 := by omega
            have hs1 := OK.out.s1 t htl
            have hs0 := OK.out.s0 t htl
            have PC : Hid (∀ i, i < (M.stk t).length → 2 ≤ gI (M.stk t) i → M.parent (gI (M.stk t) i) = (under ((M.stk t).take i), 0)) := fun i hi h2 => by
              have h1 := OK.out.pc t htl i (gI (M.stk t) i) (by rw [gI_get hi]; exact List.getElem?_eq_getElem hi) h2
              exact parent_in h1 (isA_of (OK.out.sa t htl _ (by rw [gI_get hi]; exact List.getElem_mem _)))
            have c : Calls Try.prog 16 #[.pointer (some ⟨p, 0, none⟩), .int .i64 t] wr (TwoL wr (M.stack t)) := ((H.out wr HO9.out).stk t).1
            rw [stack_in htl] at c
            obtain ⟨l, hl⟩ : ∃ z, z = M.stk t := ⟨_, rfl⟩
            rw [← hl] at c hs1 hs0 PC
            clear hl
            go_wp2_with fail
            refine c.mono ?_
            rintro e w3 ⟨v3, rfl, hi, ho⟩
            have HO10 := Lib.hid (HO9.out.trans ho (by simp))
            have hrd : Read w3 v3 l := hi.read
            clear hi ho c
            rcases hrd with ⟨b, o, d, g1, g2⟩ | ⟨oa, d, g1, g2⟩
            rotate_left
            · rw [g2] at hs1; simp at hs1
            subst g1
            have G2 := Lib.hid g2
            obtain ⟨ln, hln⟩ : ∃ z, z = l.length := ⟨_, rfl⟩
            have hc0 := g2 0 (by omega)
            rw [hs0, Nat.add_zero] at hc0
            rw [← hln] at hs1 ⊢
            have HLN := Lib.hid hln
            have hl1 : (1 : Int) ≤ ln := by omega
            have hl0 : (0 : Int) < ln := by omega
            clear g2 hs0 hln
            go_wp2_with fail
            go_loopw [20, 21] (fun nv iv wr => ∃ i : Nat, i ≤ ln ∧ nv = .int .i64 (under (l.take i)) ∧ iv = .int .i64 i ∧ Only [] w2 wr ∧ Only [] w3 wr) (fun _ iv _ => ln - (intOf iv).toNat)
            case atStart => exact ⟨0, by omega, rfl, rfl, HO10.out, Only.refl _ _⟩
            case round =>
              obtain ⟨i, hi, rfl, rfl, ho, ho3⟩ := hrel
              have HO11 := Lib.hid ho
              have HP11 := Lib.hid ho3
              by_cases hil : i < ln
              · have hil1 : (i : Int) < ln := by omega
                have hil2 : i < l.length := by have := HLN.out; omega
                have hci := ho3.cell (G2.out i hil2) (by simp)
                have hns := near_step hil2
                have hpc := PC.out i hil2
                obtain ⟨y, hy⟩ : ∃ y, y = gI l i := ⟨_, rfl⟩
                rw [← hy] at hci hns hpc
                obtain ⟨nr, hnr⟩ : ∃ z, z = under (l.take i) := ⟨_, rfl⟩
                rw [← hnr] at hns hpc ⊢
                have HCI := Lib.hid hci
                clear hy hnr ho ho3 hc0
                by_cases h2 : 2 ≤ y
                · have hns2 : Hid (under (l.take (i + 1)) = y) := by show _ = _; rw [hns, if_pos h2]
                  have hpv := hpc h2
                  have c : Calls Try.prog 15 #[.pointer (some ⟨p, 0, none⟩), .int .i64 y] wr (Two wr (M.parent y)) := ((H.out wr HO11.out).par y).1
                  rw [hpv] at c
                  clear hns hpc hpv
                  go_wp2_with fail
                  refine c.mono ?_
                  rintro e w4 ⟨rfl, hd⟩
                  have HO12 := Lib.hid (HO11.out.trans (hd.only []) (by simp))
                  have HP12 := Lib.hid (HP11.out.trans (hd.only []) (by simp))
                  have hci2 := hd.cell hci
                  clear hd c hci
                  go_wp2_with fail
                  exact ⟨⟨i + 1, by omega, by rw [hns2.out], by go_num, HO12.out, HP12.out⟩, by simp [intOf]; omega⟩
                · have hns2 : Hid (under (l.take (i + 1)) = nr) := by show _ = _; rw [hns, if_neg h2]
                  clear hns hpc
                  go_wp2_with fail
                  exact ⟨⟨i + 1, by omega, by rw [hns2.out], by go_num, HO11.out, HP11.out⟩, by simp [intOf]; omega⟩
              · obtain rfl : i = ln := by omega
                clear ho ho3 hc0
                go_wp2_with fail
                exact ⟨⟨t + 1, by omega, by go_num, HO11.out⟩, by simp [intOf]; omega⟩
          · have htl1 : (5 : Int) ≤ t := by omega
            have c3 := sane_any wr
            go_wp2_with fail
            refine c3.mono ?_
            rintro e w5 ⟨rfl, ho⟩
            have HO5 := Lib.hid ((HO.out.trans HO9.out (by simp)).trans ho (by simp))
            clear c3 ho
            go_wp2_with fail
            exact hR.out _ _ ⟨rfl, HO5.out.bel⟩
end Go.Proofs.Ytbjmgbbggbbidaa
