/- Law ObjectMoves: the walk. -/
import Derived.Test.YtcdeikbehpepjaaOUndone
import Derived.Test.YtcdeikbehpepjaaOMoved
namespace Go.Proofs.Ytcdeikbehpepjaa
open Go.RowKit Go.Maps
set_option maxHeartbeats 12800000
set_option maxRecDepth 100000
set_option linter.unusedVariables false
/-- Behind i moves. -/
structure MvRel (M N : Hp) (i : Nat) : Prop where
  ok : N.Ok
  like : N.Like M
  pot : i + N.P.pot ≤ M.P.pot
  has : ∀ c, IsC c → M.P.has c = true → N.P.has c = true
  n : N.P.n = M.P.n
theorem MvRel.le {M N : Hp} {i : Nat} (h : MvRel M N i) (hM : M.Ok) : i ≤ 192 := by
  have := moves_bound hM.p h.ok.p h.n h.pot h.has
  have := hM.n24
  omega
theorem MvRel.next {M N : Hp} {i : Nat} (h : MvRel M N i) (he : N.move.2.1 = 0) : MvRel M N.move.2.2 (i + 1) := by
  obtain ⟨h1, h2⟩ := h.ok.move_pot he
  have := h.pot
  exact ⟨h.ok.move, (Hp.move_like N).trans h.like, by omega, fun c hc hh => h2 c hc (h.has c hc hh), h.ok.move_n.trans h.n⟩
theorem slots_of {N : Hp} (hk : N.Ok) {x : Int} (hx : (N.ob x).isSome = true) : ∃ n : Nat, N.type x = ((N.type x).1, (N.type x).2.1, (n : Int), 0) ∧ n ≤ 48 ∧ ∀ s : Nat, s < n → ∃ v, N.get x s = (v, 0) := by
  obtain ⟨o, ho⟩ := Option.isSome_iff_exists.1 hx
  refine ⟨o.slots.length, by unfold Hp.type; rw [ho], (hk.th x o ho).le, fun s hs => ⟨gI o.slots s, ?_⟩⟩
  unfold Hp.get
  rw [ho]
  show (if _ then _ else _) = _
  rw [if_neg (by omega), Int.toNat_natCast]
theorem walk_ObjectMoves (pages : Int) (ob : Option Addr) (on cap : Nat) (f : Nat → OpR) (w : World) (wp : (Lit.int .i64 pages).wf = true) (hd : Ops w ob on f) :
    Calls Try.prog 4 #[.int .i64 pages, .slice ob on cap] w fun e w' => e = .returned (.bool true) ∧ Below w.heap.size w w' := by
  refine calls_abs fun R hR => ?_
  have cp := oplay_any w pages ob on cap f hd
  clear hd wp
  go_enter Try.func4, Try.ntmps4
  go_wp2_with fail
  refine cp.mono ?_
  rintro e w2 ⟨vp, vq, rfl, hpl⟩
  have HO2 : Hid (Only [] w w2) := hpl.only
  clear cp
  rcases hpl with ⟨rfl, rfl, _⟩ | ⟨p, q, M, rfl, rfl, hF⟩
  · have cs := osane_any w2
    go_wp2_with fail
    refine cs.mono ?_
    rintro e w9 ⟨rfl, ho⟩
    have HE : Hid (Below w.heap.size w w9) := (HO2.out.trans ho (by simp)).bel
    clear ho cs
    go_wp2_with fail
    exact hR.out _ _ ⟨rfl, HE.out⟩
  · have HF := Lib.hid hF
    clear hF
    obtain ⟨hKM, L, X, hp⟩ := HF.out.ph 0 rfl
    have HKM := Lib.hid hKM
    have cc := hcopy_rep w2 hp hKM
    clear hp hKM
    go_wp2_with fail
    refine cc.mono ?_
    rintro e w3 ⟨pw, L2, X2, rfl, hpw, hL2, ho⟩
    have HF3 : Hid (Fam w w3 [PH p M, GH q M, PH pw M]) := HF.out.add (pborn hpw HKM.out hL2 ho)
    have HM3 : Hid (MvRel M M 0) := ⟨HKM.out, Hp.Like.refl M, by omega, fun _ _ h => h, rfl⟩
    clear hpw hL2 ho cc HF HO2
    go_wp2_with fail
    go_loopw [9] (fun iv wr => ∃ (i : Nat) (N : Hp), iv = .int .i64 i ∧ Fam w wr [PH p N, GH q N, PH pw M] ∧ Hid (MvRel M N i)) (fun iv _ => 193 - (intOf iv).toNat)
    case atStart => exact ⟨0, M, rfl, HF3.out, HM3⟩
    case round =>
      clear HF3 HM3
      obtain ⟨i, N, rfl, hF, HR⟩ := hrel
      have HF := Lib.hid hF
      clear hF
      have hi192 := HR.out.le HKM.out
      have hi1 : (i : Int) ≤ 192 := by omega
      have hi0 : ¬ (192 : Int) < i := by omega
      have c1 := HF.out.pstep 0 rfl (fun hk => hk.move) (fun L X hr hk => hmove_rep wr hr hk)
      have HC2 : Hid (∀ w4, Fam w w4 [PH p N.move.2.2, GH q N, PH pw M] → Calls Try.prog 25 #[.pointer (some ⟨q, 0, none⟩)] w4 (fun e w5 => e = .returned (.tuple #[.int .i64 N.move.1, .int .i64 N.move.2.1]) ∧ Fam w w5 [PH p N.move.2.2, GH q N.move.2.2, PH pw M])) := fun w4 hf =>
        hf.gstep 1 rfl (fun hk => hk.move) (fun L X hr hk => gmove_rep w4 hr hk)
      have HNX : Hid (N.move.2.1 = 0 → MvRel M N.move.2.2 (i + 1)) := fun he => HR.out.next he
      have HNO : Hid (N.move.2.1 ≠ 0 → N.move.2.2 = N ∧ N.P.moves = 0) := fun he => HR.out.ok.move_no he
      generalize N.move = r at *
      obtain ⟨r1, r2, N'⟩ := r
      go_wp2_with fail
      refine c1.mono ?_
      rintro e w4 ⟨rfl, hf4⟩
      have c2 := HC2.out w4 hf4
      clear hf4 c1
      go_wp2_with fail
      refine c2.mono ?_
      rintro e w5 ⟨rfl, hf5⟩
      have HF5 := Lib.hid hf5
      clear hf5 c2 HC2 HF
      by_cases her : r2 = 0
      · subst her
        have HRN := Lib.hid (HNX.out rfl)
        obtain ⟨_, LN, XN, hpn⟩ := HF5.out.ph 0 rfl
        obtain ⟨_, LC, XC, hpc⟩ := HF5.out.ph 2 rfl
        have ca := alike_rep w5 hpn HRN.out.ok hpc HKM.out
        have HAL : Hid (AlikeM N' M) := HRN.out.like.alike
        clear hpn hpc
        go_wp2_with fail
        refine ca.mono ?_
        rintro e w6 ⟨rb, rfl, hrb, ho⟩
        obtain rfl : rb = true := hrb.2 HAL.out
        have HF6 := Lib.hid (HF5.out.only0 ho)
        clear hrb ho ca HF5
        go_wp2_with fail
        exact ⟨⟨i + 1, N', by go_num, HF6.out, HRN⟩, by simp [intOf]; omega⟩
      · obtain ⟨rfl, hm0⟩ := HNO.out her
        have HM0 := Lib.hid hm0
        have HKN := Lib.hid HR.out.ok
        have HLK := Lib.hid HR.out.like
        clear hm0 HR HNX HNO hi192
        obtain ⟨_, LG, XG, hpg⟩ := HF5.out.gh 1 rfl
        have ch := ghandles_rep w5 hpg HKN.out
        clear hpg
        go_wp2_with fail
        refine ch.mono ?_
        rintro e w6 ⟨lv, rfl, hlv, ho⟩
        obtain ⟨la, lc, rfl⟩ := hlv.len
        have HF6 := Lib.hid (HF5.out.only0 ho)
        have hlen : N'.handles.length ≤ 192 := Hp.handlesN_len N' 192
        have hcell : ∀ j, j < N'.handles.length → ∃ g, la = some ⟨g, 0, none⟩ ∧ w6.cell? ⟨g, j, none⟩ = some (.int .i64 (gI N'.handles j)) := fun j hj => by
          rcases hlv.form with ⟨_, e⟩ | ⟨g, cap, e, _, _, _, hc⟩
          · rw [e] at hj; simp at hj
          · cases e; exact ⟨g, rfl, hc j hj⟩
        have HCELL := Lib.hid hcell
        obtain ⟨ln, hln⟩ : ∃ z, z = N'.handles.length := ⟨_, rfl⟩
        have HLN := Lib.hid hln
        rw [← hln] at hlen ⊢
        obtain ⟨_, LP, XP, hpp⟩ := HF6.out.ph 0 rfl
        obtain ⟨_, LG, XG, hpg⟩ := HF6.out.gh 1 rfl
        obtain ⟨_, LC, XC, hpc⟩ := HF6.out.ph 2 rfl
        have HP := Lib.hid hpp
        have HG := Lib.hid hpg
        have HC := Lib.hid hpc
        have HW6 : Hid (Only [] w w6) := HF6.out.only
        clear hlv ho ch HF5 HF6 hcell hln hpp hpg hpc
        go_wp2_with fail
        go_loopw [15] (fun iv wr => ∃ j : Nat, j ≤ ln ∧ iv = .int .i64 j ∧ Only [] w6 wr) (fun iv _ => ln - (intOf iv).toNat)
        case atStart => exact ⟨0, by omega, rfl, Only.refl _ _⟩
        case round =>
          obtain ⟨j, hj, rfl, ho⟩ := hrel
          have HO := Lib.hid ho
          clear ho
          by_cases hjl : j < ln
          · have hjl1 : (j : Int) < ln := by omega
            have hj0 : (0 : Int) ≤ j := by omega
            obtain ⟨g, rfl, hc⟩ := HCELL.out j (by have := HLN.out; omega)
            have hx := Hp.handle_some (M := N') (i := j) (by have := HLN.out; omega)
            obtain ⟨x, hxe⟩ : ∃ z, z = gI N'.handles j := ⟨_, rfl⟩
            rw [← hxe] at hc hx
            have HCX := Lib.hid hc
            have HWX := Lib.hid (HKN.out.wfOf hx)
            obtain ⟨n, hty, hn48, hget⟩ := slots_of HKN.out hx
            have HGET := Lib.hid hget
            have ct := gtype_rep wr (HG.out.only0 HO.out) HKN.out x
            rw [hty] at ct
            have hcr := HO.out.cell hc (by simp)
            generalize (N'.type x).1 = t1 at *
            generalize (N'.type x).2.1 = t2 at *
            clear hc hx hxe hty hget
            go_wp2_with fail
            refine ct.mono ?_
            rintro e w7 ⟨rfl, ho⟩
            have HO7 : Hid (Only [] w6 w7) := HO.out.trans ho (by simp)
            clear ct hcr ho HO
            go_wp2_with fail
            go_loopw [20] (fun iv wr => ∃ s : Nat, s ≤ n ∧ iv = .int .i64 s ∧ Only [] w6 wr) (fun iv _ => n - (intOf iv).toNat)
            case atStart => exact ⟨0, by omega, rfl, HO7.out⟩
            case round =>
              clear HO7
              obtain ⟨s, hs, rfl, ho⟩ := hrel
              have HO := Lib.hid ho
              clear ho
              by_cases hsn : s < n
              · have hsn1 : (s : Int) < n := by omega
                have hcr := HO.out.cell HCX.out (by simp)
                obtain ⟨v, hv⟩ := HGET.out s hsn
                have hv2 : M.get x s = (v, 0) := by rw [← HLK.out.get]; exact hv
                have c1 := get_rep wr (HP.out.only0 HO.out) HKN.out x s HWX.out
                have HC2 : Hid (∀ m, Calls Try.prog 20 #[.pointer (some ⟨pw, 0, none⟩), .int .i64 x, .int .i64 s] (wr.drewN m) (Same (wr.drewN m) (.tuple #[.int .i64 v, .int .i64 0]))) := fun m => by
                  have := get_rep (wr.drewN m) (HC.out.only0 (HO.out.drewN m)) HKM.out x s HWX.out
                  rw [hv2] at this
                  exact this
                rw [hv] at c1
                clear hv hv2
                go_wp2_with fail
                refine c1.mono ?_
                rintro e _ ⟨rfl, m1, rfl⟩
                have HO8 : Hid (Only [] w6 (wr.drewN m1)) := HO.out.drewN m1
                have c2 := HC2.out m1
                clear c1 HC2 HO hcr
                generalize wr.drewN m1 = w8 at *
                have hcr := HO8.out.cell HCX.out (by simp)
                go_wp2_with fail
                refine c2.mono ?_
                rintro e _ ⟨rfl, m2, rfl⟩
                have HO9 : Hid (Only [] w6 (w8.drewN m2)) := HO8.out.drewN m2
                clear c2 HO8 hcr
                go_wp2_with fail
                exact ⟨⟨s + 1, by omega, by go_num, HO9.out⟩, by simp [intOf]; omega⟩
              · obtain rfl : s = n := by omega
                have hsn1 : ¬ (s : Int) < (s : Int) := by omega
                go_wp2_with fail
                exact ⟨⟨j + 1, by omega, by go_num, HO.out⟩, by simp [intOf]; omega⟩
          · obtain rfl : j = ln := by omega
            have hjl1 : ¬ (j : Int) < (j : Int) := by omega
            have c1 := hpool_rep wr (HP.out.only0 HO.out)
            go_wp2_with fail
            refine c1.mono ?_
            rintro e w7 ⟨p1, b1, rfl, hp1, ho, _, _⟩
            have HO7 : Hid (Only [] w6 w7) := HO.out.trans ho (by simp)
            have c2 := moves_rep w7 p1 b1 N'.P hp1
            rw [HM0.out] at c2
            clear hp1 ho c1 HO
            go_wp2_with fail
            refine c2.mono ?_
            rintro e w8 ⟨rfl, ho⟩
            have HO8 : Hid (Only [] w6 w8) := HO7.out.trans ho (by simp)
            have c1 := hpool_rep w8 (HP.out.only0 HO8.out)
            clear ho c2 HO7
            go_wp2_with fail
            refine c1.mono ?_
            rintro e w9 ⟨p1, b1, rfl, hp1, ho, _, _⟩
            have HO9 : Hid (Only [] w6 w9) := HO8.out.trans ho (by simp)
            have HP1 := Lib.hid hp1
            have c2 := gpool_rep w9 (HG.out.only0 HO9.out)
            clear ho c1 HO8 hp1
            go_wp2_with fail
            refine c2.mono ?_
            rintro e w10 ⟨q4, k4, c4, l4, rfl, hp4, ho, _, _, _, _⟩
            have HO10 : Hid (Only [] w6 w10) := HO9.out.trans ho (by simp)
            have c3 := samePool_any w10 (HP1.out.only ho (by simp) (by simp)) hp4 HKN.out.p rfl (fun _ => rfl) (fun _ => rfl) (fun _ => rfl)
            clear ho c2 HO9 hp4 HP1
            go_wp2_with fail
            refine c3.mono ?_
            rintro e w11 ⟨rfl, hd⟩
            have HO11 : Hid (Only [] w6 w11) := HO10.out.trans (hd.only []) (by simp)
            have c4 := osane_any w11
            clear hd c3 HO10
            go_wp2_with fail
            refine c4.mono ?_
            rintro e w12 ⟨rfl, ho⟩
            have HE : Hid (Below w.heap.size w w12) := ((HW6.out.trans HO11.out (by simp)).trans ho (by simp)).bel
            clear ho c4
            go_wp2_with fail
            exact hR.out _ _ ⟨rfl, HE.out⟩
end Go.Proofs.Ytcdeikbehpepjaa
