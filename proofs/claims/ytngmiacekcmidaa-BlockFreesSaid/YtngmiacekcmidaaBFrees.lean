/- The law BlockFrees, walked. -/
import Derived.Test.YtngmiacekcmidaaBStates
import Derived.Test.YtngmiacekcmidaaBPlainD
import Derived.Test.YtngmiacekcmidaaInts
namespace Go.Proofs.Ytngmiacekcmidaa
open Go.RowKit
set_option maxHeartbeats 12800000
set_option maxRecDepth 100000
set_option linter.unusedVariables false

theorem Pl.gI_lives (P : Pl) (back : Bool) {s : Nat} (h : s < (P.lives (16 * P.n)).length) : gI (P.livesI (16 * P.n)) (P.posB back s) = ((P.atB back s : Nat) : Int) := by
  unfold gI Pl.livesI
  rw [List.getElem?_map, P.atB_get back h]
  rfl
theorem Pl.used_le192 {P : Pl} (c : Int) (h24 : P.n ≤ 24) : P.usedN c P.n ≤ 192 := by
  have h := sumN_le (f := P.usedF c) (k := P.n) (m := 8) (fun i _ => by
    unfold Pl.usedF
    split
    · exact cnt_le _ 8
    · omega)
  show sumN (P.usedF c) P.n ≤ 192
  omega
theorem frees_grow {w wa w1 : World} {base p b : Nat} {v : Value} {l : List Int} {P : Pl} (hv : Ints wa base v l) (hp : PRep wa p b P) (ho : Only v.ownBlock.toList wa w1) (h1 : p < base) (h2 : b < base) (o : Only [] w wa) (hb : w.heap.size ≤ base) : PRep w1 p b P ∧ Only [] w w1 := by
  have hk : ∀ x ∈ v.ownBlock.toList, base ≤ x := fun x hx => (hv.own x (by simpa using hx)).1
  exact ⟨hp.only ho (fun hx => by have := hk _ hx; omega) (fun hx => by have := hk _ hx; omega), o.trans ho (fun x hx => .inr (by have := hk x hx; omega))⟩

theorem walk_BlockFrees (a0 : Int) (a1 : Option Addr) (len1 cap1 : Nat) (f1 : Nat → Nat → Int) (a2 : Bool) (w : World) (w1 : Recs 3 w a1 len1 f1) :
    Calls Try.prog 6 #[.int .i64 a0, .slice a1 len1 cap1, .bool a2] w fun e w' => e = .returned (.bool true) ∧ Below w.heap.size w w' := by
  refine calls_abs fun R hR => ?_
  rcases pages_cases a0 with hbad | ⟨n, rfl, hn1, hn24⟩
  · clear w1
    go_enter Try.func6, Try.ntmps6
    go_wp2_with fail
    refine (played_no w a0 hbad _).mono ?_
    rintro e _ ⟨rfl, rfl⟩
    go_wp2_with fail
    refine (sane_any _).mono ?_
    rintro e w4 ⟨rfl, o4⟩
    go_wp2_with fail
    exact hR.out _ _ ⟨rfl, o4.below (Nat.le_refl _) (by simp)⟩
  · go_enter Try.func6, Try.ntmps6
    go_wp2_with fail
    refine (played_yes w n hn1 hn24 a1 len1 cap1 f1 w1).mono ?_
    rintro e w2 ⟨p, b, q, k, c, l, P, rfl, hB, hPn, o2⟩
    have HP := Lib.hid hB.hp
    have HO := Lib.hid o2
    have h24 : P.n ≤ 24 := hB.hp.n24
    have hge : Hid (w.heap.size ≤ b) := hB.ge.2.1
    have hlt0 := hB.lt
    obtain ⟨base, hbase⟩ : ∃ base, base = w2.heap.size := ⟨_, rfl⟩
    have hpb : Hid (p < base ∧ b < base) := by show p < base ∧ b < base; rw [hbase]; exact ⟨hlt0.1, hlt0.2.1⟩
    have hwb : Hid (w.heap.size ≤ base) := by show w.heap.size ≤ base; rw [hbase]; exact o2.size
    have HBase := Lib.hid hbase
    have HOk := Lib.hid hB.hp.ok
    clear hB o2 w1 hlt0 hbase
    subst hPn
    go_wp2_with fail
    go_loopw [9, 10] (fun v i wr => ∃ x : Nat, x ≤ 16 * P.n ∧ i = .int .i64 x ∧ Ints wr base v (P.livesI x) ∧ PRep wr p b P ∧ Only [] w wr ∧ base ≤ wr.heap.size) (fun _ i _ => 16 * P.n - (intOf i).toNat)
    case atStart => exact ⟨0, by omega, rfl, Ints.nil _ _, HP.out, HO.out, by have := HBase.out; omega⟩
    case round =>
      clear HP HO
      rename_i sv si
      obtain ⟨x, hx, rfl, hv, hp, ho, hs⟩ := hrel
      have HV := Lib.hid hv
      have HP := Lib.hid hp
      have HO := Lib.hid ho
      have HS := Lib.hid hs
      clear hv hp ho hs
      by_cases hlt : x < 16 * P.n
      · have e1 := begin_rep wr p b P HP.out (x : Int)
        cases hl : P.liveA x with
        | true =>
          have h2 : (P.begin (x : Int)).2 = 0 ∧ (P.begin (x : Int)).1 = (x : Int) := by unfold Pl.liveA at hl; simpa using hl
          rw [h2.1, h2.2] at e1
          have HL := Lib.hid (Pl.livesI_yes hl)
          have hlen := P.lives_le x
          rw [← Pl.livesI_len] at hlen
          generalize P.livesI x = l1 at *
          clear h2 hl
          go_wp2_with fail
          refine e1.mono ?_
          rintro e w4 ⟨rfl, hd4⟩
          have HV4 := Lib.hid (HV.out.kept (Drew.only hd4 []) (by simp))
          have HP4 : Hid (PRep w4 p b P) := HP.out.drewTo hd4
          have HO4 := Lib.hid (HO.out.trans (Drew.only hd4 []) (by simp))
          have HS4 : Hid (base ≤ w4.heap.size) := Nat.le_trans HS.out (Drew.only hd4 []).size
          clear hd4 e1 HV HP HO HS
          go_wp2_with (at_builtin; refine append_int1 rfl _ _ rfl base _ _ rfl (HV4.out.alloc _) w4.heap.size (x : Int) rfl ?c1 ?c2 ?c3 ?c4)
          case c1 => exact (Row.new w4 _ [_]).cell 0 rfl
          case c2 => omega
          case c3 => have := HS4.out; simp; omega
          case c4 =>
            intro v' w5 hv1 ho1 hb1
            have hg := frees_grow (HV4.out.alloc _) (HP4.out.only ((Only.refl [] w4).alloc _) (by simp) (by simp)) ho1 hpb.out.1 hpb.out.2 (HO4.out.alloc _) hwb.out
            have HG := Lib.hid hg
            have HV5 := Lib.hid hv1
            have HS5 : Hid (base ≤ w5.heap.size) := by have := ho1.size; have := HS4.out; simp at *; show base ≤ w5.heap.size; omega
            clear hg hv1 ho1 hb1
            go_wp2_with fail
            exact ⟨⟨x + 1, by omega, by go_num, by rw [HL.out]; exact HV5.out, HG.out.1, HG.out.2, HS5.out⟩, by simp [intOf]; omega⟩
        | false =>
          have HL := Lib.hid (Pl.livesI_no hl)
          have h2 : ¬ ((P.begin (x : Int)).2 = 0 ∧ (P.begin (x : Int)).1 = (x : Int)) := by unfold Pl.liveA at hl; simpa using hl
          generalize P.livesI x = l1 at *
          generalize (P.begin (x : Int)).1 = v1 at *
          generalize (P.begin (x : Int)).2 = v2 at *
          clear hl
          by_cases hz : v2 = 0
          · have hz1 : ¬ v1 = (x : Int) := fun e => h2 ⟨hz, e⟩
            subst hz
            clear h2
            go_wp2_with fail
            refine e1.mono ?_
            rintro e w4 ⟨rfl, hd4⟩
            have HV4 := Lib.hid (HV.out.kept (Drew.only hd4 []) (by simp))
            have HP4 : Hid (PRep w4 p b P) := HP.out.drewTo hd4
            have HO4 := Lib.hid (HO.out.trans (Drew.only hd4 []) (by simp))
            have HS4 : Hid (base ≤ w4.heap.size) := Nat.le_trans HS.out (Drew.only hd4 []).size
            clear hd4 e1 HV HP HO HS
            go_wp2_with fail
            exact ⟨⟨x + 1, by omega, by go_num, by rw [HL.out]; exact HV4.out, HP4.out, HO4.out, HS4.out⟩, by simp [intOf]; omega⟩
          · clear h2
            go_wp2_with fail
            refine e1.mono ?_
            rintro e w4 ⟨rfl, hd4⟩
            have HV4 := Lib.hid (HV.out.kept (Drew.only hd4 []) (by simp))
            have HP4 : Hid (PRep w4 p b P) := HP.out.drewTo hd4
            have HO4 := Lib.hid (HO.out.trans (Drew.only hd4 []) (by simp))
            have HS4 : Hid (base ≤ w4.heap.size) := Nat.le_trans HS.out (Drew.only hd4 []).size
            clear hd4 e1 HV HP HO HS
            go_wp2_with fail
            exact ⟨⟨x + 1, by omega, by go_num, by rw [HL.out]; exact HV4.out, HP4.out, HO4.out, HS4.out⟩, by simp [intOf]; omega⟩
      · have hx9 : x = 16 * P.n := by omega
        rw [hx9] at HV
        clear hx9
        have hsum : P.usedN 0 P.n + P.usedN 1 P.n + P.usedN 2 P.n = (P.livesI (16 * P.n)).length := by
          rw [Pl.livesI_len, Pl.lives_len]; exact Pl.used_sum HOk.out
        have hL := P.lives_le (16 * P.n)
        rw [← Pl.livesI_len] at hL
        have HG : Hid (∀ s, s < (P.livesI (16 * P.n)).length → gI (P.livesI (16 * P.n)) (P.posB a2 s) = ((P.atB a2 s : Nat) : Int)) := fun s hs => P.gI_lives a2 (by rw [← Pl.livesI_len]; exact hs)
        have HF : Hid (∀ (Q : Pl) (i : Nat), Freed P Q a2 i → i < (P.livesI (16 * P.n)).length → (Q.free (P.atB a2 i : Nat)).1 = 0 ∧ ((Q.free (P.atB a2 i : Nat)).2.free (P.atB a2 i : Nat)).1 = 3 ∧ ((Q.free (P.atB a2 i : Nat)).2.free (P.atB a2 i : Nat)).2 = (Q.free (P.atB a2 i : Nat)).2 ∧ Freed P (Q.free (P.atB a2 i : Nat)).2 a2 (i + 1)) := fun Q i h hi => h.step (by rw [← Pl.livesI_len]; exact hi)
        have HD : Hid (∀ (Q : Pl) (i : Nat), Freed P Q a2 i → (P.livesI (16 * P.n)).length ≤ i → Q.freeN P.n = P.n ∧ Q.partN P.n = 0 ∧ Q.fullN P.n = 0) := fun Q i h hi => h.done (by rw [← Pl.livesI_len]; exact hi)
        have HB : Hid (∀ s, P.posB a2 s = if a2 then (P.livesI (16 * P.n)).length - 1 - s else s) := fun s => by rw [Pl.livesI_len]; rfl
        have HV2 := HV.out
        generalize P.livesI (16 * P.n) = l at *
        obtain ⟨ad, cap, hform⟩ := HV2.len
        obtain ⟨L, hLl⟩ : ∃ L, L = l.length := ⟨_, rfl⟩
        rw [← hLl] at hform hsum hL
        have HLl := Lib.hid hLl
        have Hsum := Lib.hid hsum
        subst hform
        clear HV2 hLl hsum
        obtain ⟨wo, rfl⟩ : ∃ wo : World, wo = wr := ⟨_, rfl⟩
        go_wp2_with fail
        go_loop [13, 14] (fun sm v => ∃ y : Nat, y ≤ 3 ∧ v = .int .i64 y ∧ sm = .int .i64 (sumN (fun k => P.usedN (k : Int) P.n) y : Nat)) (fun _ v => 3 - (intOf v).toNat)
        case atStart => exact ⟨0, by omega, rfl, rfl⟩
        case round =>
          obtain ⟨y, hy, rfl, rfl⟩ := hrel
          by_cases hlt2 : y < 3
          · have e1 := used_rep wo p b P HP.out (y : Int)
            rw [show P.used (y : Int) = (((P.usedN (y : Int) P.n : Nat) : Int), 0) by unfold Pl.used; rw [if_neg (by omega)]] at e1
            have hle := sumN_le (f := fun k => P.usedN (k : Int) P.n) (k := y) (m := 192) (fun i _ => Pl.used_le192 _ h24)
            have hle2 := Pl.used_le192 (P := P) (y : Int) h24
            have hs : Hid (sumN (fun k => P.usedN (k : Int) P.n) (y + 1) = sumN (fun k => P.usedN (k : Int) P.n) y + P.usedN (y : Int) P.n) := rfl
            generalize sumN (fun k => P.usedN (k : Int) P.n) y = s at *
            generalize P.usedN (y : Int) P.n = U at *
            go_wp2_with fail
            refine e1.mono ?_
            rintro e _ ⟨rfl, rfl⟩
            go_wp2_with fail
            go_round
            case rel => exact ⟨y + 1, by omega, by go_num, by rw [hs.out]; go_num⟩
            case measure => simp [intOf]; omega
          · have hy3 : y = 3 := by omega
            subst hy3
            have es : sumN (fun k => P.usedN (k : Int) P.n) 3 = L := by
              have h1 := Hsum.out
              show 0 + P.usedN ((0 : Nat) : Int) P.n + P.usedN ((1 : Nat) : Int) P.n + P.usedN ((2 : Nat) : Int) P.n = L
              rw [Nat.zero_add]
              exact h1
            rw [es]
            clear hlt2 es
            have HF0 : Hid (Freed P P a2 0) := Freed.start HOk.out a2
            go_wp2_with fail
            go_loopw [17] (fun v wr => ∃ (i : Nat) (Q : Pl), v = .int .i64 i ∧ i ≤ L ∧ PRep wr p b Q ∧ Freed P Q a2 i ∧ Ints wr base (.slice ad L cap) l ∧ Only [] w wr) (fun v _ => L - (intOf v).toNat)
            case atStart => exact ⟨0, P, rfl, by omega, HP.out, HF0.out, HV.out, HO.out⟩
            case round =>
              clear HF0 HV HP HO HS hlt
              obtain ⟨i, Q, rfl, hiL, hq, hf, hv, ho⟩ := hrel
              have HQ := Lib.hid hq
              have HFr := Lib.hid hf
              have HV := Lib.hid hv
              have HO := Lib.hid ho
              clear hq hf ho
              by_cases hlt3 : i < L
              · obtain ⟨z1, z2, z3, z4⟩ := HF.out Q i HFr.out (by have := HLl.out; omega)
                have hgi := HG.out i (by have := HLl.out; omega)
                have hpos := HB.out i
                rw [← HLl.out] at hpos
                rcases hv.form with ⟨he, h0⟩ | ⟨g, cap', he, hg0, hg1, hg2, hg3⟩
                · exfalso; have h5 := HLl.out; rw [h0] at h5; simp at h5; omega
                · simp only [Value.slice.injEq] at he
                  obtain ⟨rfl, hq1, hq2⟩ := he
                  clear hq1 hq2
                  have hK : P.posB a2 i < L := by rw [hpos]; split <;> omega
                  have c1 := hg3 (P.posB a2 i) (by have := HLl.out; omega)
                  rw [hgi] at c1
                  have e1 := free_rep wr p b Q HQ.out ((P.atB a2 i : Nat) : Int)
                  have e2 : Hid (∀ wx, PRep wx p b (Q.free ((P.atB a2 i : Nat) : Int)).2 → Calls Try.prog 27 #[.pointer (some ⟨p, 0, none⟩), .int .i64 ((P.atB a2 i : Nat) : Int)] wx fun e w' => e = .returned (.int .i64 3) ∧ PRep w' p b (Q.free ((P.atB a2 i : Nat) : Int)).2 ∧ Only [b] wx w') := fun wx hx => by
                    have h1 := free_rep wx p b _ hx ((P.atB a2 i : Nat) : Int)
                    rw [z2, z3] at h1
                    exact h1
                  rw [z1] at e1
                  have Z4 := Lib.hid z4
                  generalize (Q.free ((P.atB a2 i : Nat) : Int)).2 = Q2 at *
                  generalize ((P.atB a2 i : Nat) : Int) = A at *
                  generalize P.posB a2 i = K at *
                  have hgb : Hid (g ≠ b) := by have := hpb.out; show g ≠ b; omega
                  have C1 := Lib.hid c1
                  clear z1 z2 z3 z4 hgi hg2 hg3 hv hg0 hg1
                  cases a2 with
                  | false =>
                    simp only [Bool.false_eq_true, if_false] at hpos
                    subst hpos
                    go_wp2_with fail
                    refine e1.mono ?_
                    rintro e w4 ⟨rfl, g4, o4⟩
                    have c2 : w4.cell? ⟨g, K, none⟩ = some (.int .i64 A) := o4.cell C1.out (by have := hgb.out; simpa using this)
                    have HV4 := Lib.hid (HV.out.kept o4 (fun x hx => by simp at hx; subst hx; exact hpb.out.2))
                    have HO4 := Lib.hid (HO.out.trans o4 (fun x hx => .inr (by simp at hx; have := hge.out; omega)))
                    have G4 := Lib.hid g4
                    clear g4 o4 e1
                    go_wp2_with fail
                    refine (e2.out _ G4.out).mono ?_
                    rintro e w5 ⟨rfl, g5, o5⟩
                    have HV5 := Lib.hid (HV4.out.kept o5 (fun x hx => by simp at hx; subst hx; exact hpb.out.2))
                    have HO5 := Lib.hid (HO4.out.trans o5 (fun x hx => .inr (by simp at hx; have := hge.out; omega)))
                    have G5 := Lib.hid g5
                    clear g5 o5
                    go_wp2_with fail
                    exact ⟨⟨K + 1, Q2, by go_num, by omega, G5.out, Z4.out, HV5.out, HO5.out⟩, by simp [intOf]; omega⟩
                  | true =>
                    simp only [if_true] at hpos
                    have hki : (L : Int) - 1 - (i : Int) = (K : Int) := by omega
                    have HKI := Lib.hid hki
                    clear hpos hki
                    go_upto_region 25 with fail
                    rw [HKI.out]
                    go_wp2_with fail
                    refine e1.mono ?_
                    rintro e w4 ⟨rfl, g4, o4⟩
                    have c2 : w4.cell? ⟨g, K, none⟩ = some (.int .i64 A) := o4.cell C1.out (by have := hgb.out; simpa using this)
                    have HV4 := Lib.hid (HV.out.kept o4 (fun x hx => by simp at hx; subst hx; exact hpb.out.2))
                    have HO4 := Lib.hid (HO.out.trans o4 (fun x hx => .inr (by simp at hx; have := hge.out; omega)))
                    have G4 := Lib.hid g4
                    clear g4 o4 e1
                    go_wp2_with fail
                    refine (e2.out _ G4.out).mono ?_
                    rintro e w5 ⟨rfl, g5, o5⟩
                    have HV5 := Lib.hid (HV4.out.kept o5 (fun x hx => by simp at hx; subst hx; exact hpb.out.2))
                    have HO5 := Lib.hid (HO4.out.trans o5 (fun x hx => .inr (by simp at hx; have := hge.out; omega)))
                    have G5 := Lib.hid g5
                    clear g5 o5
                    go_wp2_with fail
                    exact ⟨⟨i + 1, Q2, by go_num, by omega, G5.out, Z4.out, HV5.out, HO5.out⟩, by simp [intOf]; omega⟩
              · have hd := HD.out Q i HFr.out (by have := HLl.out; omega)
                have e1 := pages_rep wr p b Q HQ.out
                rw [show Q.n = P.n from HFr.out.n, hd.1, hd.2.1, hd.2.2] at e1
                clear hd hv
                obtain ⟨wo2, rfl⟩ : ∃ wo2 : World, wo2 = wr := ⟨_, rfl⟩
                go_wp2_with fail
                refine e1.mono ?_
                rintro e _ ⟨rfl, rfl⟩
                go_wp2_with fail
                refine (sane_any _).mono ?_
                rintro e w9 ⟨rfl, o9⟩
                go_wp2_with fail
                exact hR.out _ _ ⟨rfl, (HO.out.trans o9 (by simp)).below (Nat.le_refl _) (by simp)⟩
end Go.Proofs.Ytngmiacekcmidaa
