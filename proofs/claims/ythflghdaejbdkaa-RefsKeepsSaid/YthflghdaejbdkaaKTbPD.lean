/- Lemmas of this claim. -/
import Derived.Test.YthflghdaejbdkaaKTbPC
namespace Go.Proofs.Ythflghdaejbdkaa
open Go.RowKit Go.Maps
set_option maxHeartbeats 6400000
set_option maxRecDepth 100000
set_option linter.unusedVariables false
structure Tb.Run (t : Tb) : Prop where
  le : t.ents.length ≤ 20
  p1 : 1 ≤ t.ph
  p4 : t.ph ≤ 4
  nl : t.nx ≤ t.ents.length
  tg : ∀ i, i < t.ents.length → 0 ≤ (eAt t.ents i).tgt ∧ (eAt t.ents i).tgt ≤ 192
  z3 : t.ph = 3 → t.nx = 0
def Tb.kd (t : Tb) : Nat := if t.ph = 4 then 3 else t.ph
section
variable {t : Tb} {m : Mk}
theorem Tb.settle_stop (h1 : 1 ≤ t.ph) (h4 : t.ph ≤ 4) (h3 : t.ph ≠ 3) (h : nxt t.ents t.kd t.nx < t.ents.length ∨ t.ph = 4) : t.settle m = t.at t.ph (nxt t.ents t.kd t.nx) := by
  unfold Tb.settle Tb.kd at *
  have : t.ph = 1 ∨ t.ph = 2 ∨ t.ph = 4 := by omega
  rcases this with e | e | e
  · rw [e] at h ⊢
    have h5 : nxt t.ents 1 t.nx < t.ents.length := h.resolve_right (by omega)
    show t.set1 m t.nx = _
    unfold Tb.set1
    rw [if_pos h5]; rfl
  · rw [e] at h ⊢
    have h5 : nxt t.ents 2 t.nx < t.ents.length := h.resolve_right (by omega)
    show t.set2 m t.nx = _
    unfold Tb.set2
    rw [if_pos h5]; rfl
  · rw [e]; rfl
theorem Tb.settle_1 (e : t.ph = 1) (h : ¬ nxt t.ents t.kd t.nx < t.ents.length) : t.settle m = ((t.find m).at 2 0).settle m := by
  unfold Tb.kd at h
  rw [e] at h
  replace h : ¬ nxt t.ents 1 t.nx < t.ents.length := h
  show _ = (t.find m).set2 m 0
  unfold Tb.settle
  rw [if_pos e]
  unfold Tb.set1
  rw [if_neg h]
theorem Tb.settle_2 (e : t.ph = 2) (h : ¬ nxt t.ents t.kd t.nx < t.ents.length) : t.settle m = (t.at 3 0).settle m := by
  unfold Tb.kd at h
  rw [e] at h
  replace h : ¬ nxt t.ents 2 t.nx < t.ents.length := h
  show _ = t.set3 m
  unfold Tb.settle
  rw [if_neg (by omega), if_pos e]
  unfold Tb.set2
  rw [if_neg h]
theorem Tb.settle_3 (e : t.ph = 3) (h : m.list = []) : t.settle m = (t.at 4 0).settle m := by
  unfold Tb.settle
  rw [if_neg (by omega), if_neg (by omega), if_pos e]
  unfold Tb.set3
  rw [if_pos h]; rfl
theorem Tb.settle_3' (e : t.ph = 3) (hz : t.nx = 0) (h : m.list ≠ []) : t.settle m = t := by
  unfold Tb.settle
  rw [if_neg (by omega), if_neg (by omega), if_pos e]
  unfold Tb.set3
  rw [if_neg h]
  unfold Tb.at
  rw [← e, ← hz]
end
section
variable {l : List Asn} {i j k hb p b : Nat} {m : Mk} {t : Tb} {kk : Nat} {w0 w : World}
theorem PL.fin (T3 : Three l i j k) (hf : Fam w0 w (PL l i j k hb p b m t kk)) (h : t.ph = 2 → kk = t.ents.length) : Fam w0 w (PL l i j k hb p b m t t.ents.length) := by
  by_cases e : t.ph = 2
  · rw [← h e]; exact hf
  · exact PL.anyK T3 hf e t.ents.length t.fd
theorem tsettle_rep (w : World) (T3 : Three l i j k) (hf : Fam w0 w (PL l i j k hb p b m t kk)) (hkk : t.ph = 2 → kk = t.ents.length) (ht : t.Run) : Calls Try.prog 32 #[.pointer (some ⟨b, 0, none⟩), .pointer (some ⟨p, 0, none⟩)] w (fun e w' => e = .returned (.tuple #[]) ∧ Fam w0 w' (PL l i j k hb p b m (t.settle m) t.ents.length)) := by
  refine calls_abs fun R hR => ?_
  have HF := Lib.hid hf
  have HKK := Lib.hid hkk
  have HT := Lib.hid ht
  clear hf hkk ht
  go_enter Try.func32, Try.ntmps32
  go_wp2_with fail
  go_loopw [] (fun wr => ∃ (u : Tb) (q : Nat), Fam w0 wr (PL l i j k hb p b m u q) ∧ (u.ph = 2 → q = u.ents.length) ∧ u.Run ∧ u.settle m = t.settle m ∧ u.ents = t.ents) (fun wr => 4 - numAt wr b 3)
  case atStart => exact ⟨t, kk, HF.out, HKK.out, HT.out, rfl, rfl⟩
  case round =>
    clear HF HKK HT
    obtain ⟨u, q, hf, hq, hu, hs, he⟩ := hrel
    have HF := Lib.hid hf
    have HQ := Lib.hid hq
    have HU := Lib.hid hu
    have HS := Lib.hid hs
    have HE := Lib.hid he
    obtain ⟨ev, qv, mo, htb⟩ := PL.tb T3 hf
    obtain ⟨z0, z1, z2, z3, z4, z5, zf⟩ := htb.cells
    have hnum := numAt_of z3
    rw [hnum]
    by_cases h3 : u.ph = 3
    · as_aux_lemma =>
      have cd := mdone_rep wr T3.t2 hf
      have f3 := zf 3
      have f4 := zf 4
      rw [h3] at z3
      have HZ := Lib.hid (hu.z3 h3)
      by_cases hl : m.list = []
      · have hd : decide (m.list = []) = true := decide_eq_true hl
        rw [hd] at cd
        have HN : Hid (u.settle m = (u.at 4 0).settle m) := Tb.settle_3 h3 hl
        have HP := PL.setNx T3 (PL.setPh T3 hf 4) 0
        have HPN := numAt_of (b := b) (i := 3) (w := (wr.setCell ⟨b, 3, none⟩ (.int .i64 4)).setCell ⟨b, 4, none⟩ (.int .i64 0)) (k := .i64) (n := 4) (by
          obtain ⟨_, _, _, h7⟩ := PL.tb T3 HP
          exact h7.cells.2.2.2.1)
        have HPF := Lib.hid HP
        have HPM := Lib.hid HPN
        clear hf hq hu hs he htb hd hl HP HPN
        go_wp2_with fail
        refine cd.mono ?_
        rintro e _ ⟨rfl, rfl⟩
        clear cd
        go_wp2_with fail
        exact ⟨⟨u.at 4 0, 0, HPF.out, fun h => by (cases h), ⟨HU.out.le, by show 1 ≤ 4; omega, by show 4 ≤ 4; omega, Nat.zero_le _, HU.out.tg, fun h => by (cases h)⟩, by rw [← HN.out]; exact HS.out, HE.out⟩, by rw [HPM.out, h3]; omega⟩
      · have hd : decide (m.list = []) = false := decide_eq_false hl
        rw [hd] at cd
        have HN : Hid (u.settle m = u) := Tb.settle_3' h3 HZ.out hl
        have HPF := Lib.hid (PL.anyK T3 hf (by omega) t.ents.length u.fd)
        clear hf hq hu hs he htb hd hl
        go_wp2_with fail
        refine cd.mono ?_
        rintro e _ ⟨rfl, rfl⟩
        clear cd
        go_wp2_with fail
        refine bodyPost_ret (results_none rfl _ _ _) rfl ?_
        refine hR.out _ _ ⟨rfl, ?_⟩
        rw [← HS.out, HN.out]
        exact HPF.out
    · have HKO : Hid (∀ wx, Calls Try.prog 57 #[.int .i64 (u.ph : Int)] wx (Exact wx (.int .i64 (u.kd : Int)))) := fun wx => kindOf_any wx u.ph
      have hph3 : ((u.ph : Int) == 3) = false := by rw [beq_eq_false_iff_ne]; omega
      have h14 : 1 ≤ u.ph ∧ u.ph ≤ 4 := ⟨hu.p1, hu.p4⟩
      obtain ⟨ph, hphe⟩ : ∃ z, z = u.ph := ⟨_, rfl⟩
      have HPH := Lib.hid hphe
      rw [← hphe] at hph3 z3 h3 h14 HKO
      obtain ⟨kd, hkde⟩ : ∃ z, z = u.kd := ⟨_, rfl⟩
      have HKD := Lib.hid hkde
      rw [← hkde] at HKO
      have HLE : Hid (u.nx ≤ nxt u.ents kd u.nx) := by
        show _ ≤ _
        by_cases e : nxt u.ents kd u.nx < u.ents.length
        · exact (nxt_at e).1
        · have := hu.nl; have := nxt_le (l := u.ents) (k := kd) (n := u.nx); omega
      clear hf hq hu hs he htb hphe hkde z0 z1 z2 z4 z5
      go_wp2_with fail
      obtain ⟨wo, rfl⟩ : ∃ wo : World, wo = wr := ⟨_, rfl⟩
      go_loopw [] (fun wr => ∃ n : Nat, u.nx ≤ n ∧ n ≤ nxt u.ents kd u.nx ∧ Fam w0 wr (PL l i j k hb p b m (u.at u.ph n) q)) (fun wr => 20 - numAt wr b 4)
      case atStart => exact ⟨u.nx, Nat.le_refl _, HLE.out, HF.out⟩
      case round =>
        clear HF z3 zf
        obtain ⟨n, hn1, hn2, hf⟩ := hrel
        have HF := Lib.hid hf
        obtain ⟨ev, qv, mo, htb⟩ := PL.tb T3 hf
        obtain ⟨z0, z1, z2, z3, z4, z5, zf⟩ := htb.cells
        have hnum4 := numAt_of z4
        have hnum3 := numAt_of z3
        replace hnum4 : numAt wr b 4 = n := hnum4
        replace hnum3 : numAt wr b 3 = u.ph := hnum3
        rw [hnum4]
        replace z4 : wr.cell? ⟨b, 4, none⟩ = some (.int .i64 (n : Int)) := z4
        replace z3 : wr.cell? ⟨b, 3, none⟩ = some (.int .i64 (u.ph : Int)) := z3
        rw [← HPH.out] at z3
        have f3 := zf 3
        have f4 := zf 4
        have f5 := zf 5
        have hents : Ents wr 81 0 ev u.ents := htb.ents
        obtain ⟨va, vc, hev⟩ := hents.len
        have HEN := Lib.hid hents
        have HL20 := Lib.hid HU.out.le
        have HNM3 := Lib.hid hnum3
        subst hev
        clear hf htb z0 z2 z5 zf hnum4 hnum3 hents
        have hn0 : (0 : Int) ≤ n := by omega
        by_cases hlt : n < u.ents.length
        · obtain ⟨g, cap, hv, _, _, c0, _, _, _⟩ := HEN.out.at hlt
          simp only [Value.slice.injEq, true_and] at hv
          obtain ⟨rfl, rfl⟩ := hv
          have hlt1 : (n : Int) < (u.ents.length : Int) := by omega
          by_cases hkd : (eAt u.ents n).kind = (kd : Int)
          · as_aux_lemma =>
            have hk1 : ((eAt u.ents n).kind == (kd : Int)) = true := by rw [hkd]; simp
            have HEQ : Hid (n = nxt u.ents kd u.nx) := by
              show _ = _
              by_cases e : n = nxt u.ents kd u.nx
              · exact e
              · exact absurd hkd (nxt_skip hn1 (by omega))
            have HST : Hid (u.settle m = u.at u.ph n) := by
              show _ = _
              have := HPH.out
              rw [HEQ.out, HKD.out]
              exact Tb.settle_stop (by omega) (by omega) (by omega) (.inl (by rw [← HKD.out, ← HEQ.out]; exact hlt))
            have HLN : Hid (u.ph = 2 → q = u.ents.length) := HQ.out
            rw [hkd] at c0
            obtain ⟨len, hlen⟩ : ∃ z, z = u.ents.length := ⟨_, rfl⟩
            rw [← hlen] at z1 hlt1
            have HLEN := Lib.hid hlen
            clear hkd hk1 hn1 hn2 hlt HLE hlen
            go_wp2_with fail
            go_quiet ((go_at_call 57; with_reducible exact quiet_exact (HKO.out _)))
            go_wp2_with fail
            go_quiet (fail)
            go_wp2_with fail
            refine bodyPost_ret (results_none rfl _ _ _) rfl ?_
            refine hR.out _ _ ⟨rfl, ?_⟩
            rw [← HS.out, HST.out, ← HE.out]
            exact PL.fin T3 ((HF.out.drewN _).drewN _) HLN.out
          · as_aux_lemma =>
            have hk1 : ((eAt u.ents n).kind == (kd : Int)) = false := by rw [beq_eq_false_iff_ne]; exact hkd
            have HN1 : Hid (n + 1 ≤ nxt u.ents kd u.nx) := by
              show _ ≤ _
              by_cases e : n = nxt u.ents kd u.nx
              · have h7 := (nxt_at (l := u.ents) (k := kd) (n := u.nx) (by rw [← e]; exact hlt)).2
                rw [← e] at h7
                exact absurd h7 hkd
              · omega
            have HN0 : Hid (u.nx ≤ n + 1) := by show _ ≤ _; omega
            have H20 : n < 20 := by have := HU.out.le; omega
            obtain ⟨len, hlen⟩ : ∃ z, z = u.ents.length := ⟨_, rfl⟩
            rw [← hlen] at z1 hlt1
            have HLEN := Lib.hid hlen
            generalize (eAt u.ents n).kind = kn at *
            clear hkd hn1 hn2 hlt HLE hlen
            go_wp2_with fail
            go_quiet ((go_at_call 57; with_reducible exact quiet_exact (HKO.out _)))
            go_wp2_with fail
            have HFN := fun y => PL.setNx T3 (HF.out.drewN y) (n + 1)
            have HFQ := Lib.hid HFN
            have HNM := fun y => numAt_of (b := b) (i := 4) (w := (wr.drewN y).setCell ⟨b, 4, none⟩ (.int .i64 ((n + 1 : Nat) : Int))) (k := .i64) (n := n + 1) (by
              obtain ⟨_, _, _, h7⟩ := PL.tb T3 (HFQ.out y)
              exact h7.cells.2.2.2.2.1)
            have hc1 : ((n : Int) + 1) = ((n + 1 : Nat) : Int) := by omega
            rw [hc1]
            exact ⟨⟨n + 1, HN0.out, HN1.out, HFQ.out _⟩, by rw [HNM]; omega⟩
        · obtain rfl : n = u.ents.length := by have := nxt_le (l := u.ents) (k := kd) (n := u.nx); omega
          have HNX : Hid (u.ents.length = nxt u.ents kd u.nx) := by show _ = _; have := nxt_le (l := u.ents) (k := kd) (n := u.nx); omega
          have hlt1 : ¬ ((u.ents.length : Int) < (u.ents.length : Int)) := by omega
          have hlt2 : decide ((u.ents.length : Int) < (u.ents.length : Int)) = false := decide_eq_false hlt1
          obtain ⟨len, hlen⟩ : ∃ z, z = u.ents.length := ⟨_, rfl⟩
          rw [← hlen] at z1 hlt1 hlt2 z4
          have HLEN := Lib.hid hlen
          clear hn1 hn2 hlt HLE hlen
          by_cases h4 : ph = 4
          · as_aux_lemma =>
            have HST : Hid (u.settle m = u.at u.ph u.ents.length) := by
              show _ = _
              have := HPH.out
              rw [HNX.out, HKD.out]
              exact Tb.settle_stop (by omega) (by omega) (by omega) (.inr (by omega))
            have HLN : Hid (u.ph = 2 → q = u.ents.length) := HQ.out
            subst h4
            go_wp2_with fail
            go_quiet (fail)
            go_wp2_with fail
            go_quiet (fail)
            go_wp2_with fail
            refine bodyPost_ret (results_none rfl _ _ _) rfl ?_
            refine hR.out _ _ ⟨rfl, ?_⟩
            rw [← HS.out, HST.out, ← HE.out]
            exact PL.fin T3 ((HF.out.drewN _).drewN _) HLN.out
          · have h42 : ((ph : Int) == 4) = false := by rw [beq_eq_false_iff_ne]; omega
            by_cases h1 : ph = 1
            · as_aux_lemma =>
              subst h1
              have HN : Hid (u.settle m = ((u.find m).at 2 0).settle m) := Tb.settle_1 HPH.out.symm (by rw [← HKD.out, ← HNX.out]; omega)
              go_wp2_with fail
              go_quiet (fail)
              go_wp2_with fail
              go_quiet (fail)
              have HF1 := fun y z => Lib.hid ((HF.out.drewN y).drewN z)
              clear z1 z3 z4 f3 f4 f5
              generalize hw1 : (wr.drewN _).drewN _ = w1
              replace HF1 : Hid (Fam w0 w1 (PL l i j k hb p b m (u.at u.ph u.ents.length) q)) := by rw [← hw1]; exact (HF1 _ _).out
              clear hw1
              have hp3 : Fam w0 ((w1.setCell ⟨b, 3, none⟩ (.int .i64 2)).setCell ⟨b, 4, none⟩ (.int .i64 0)) (PL l i j k hb p b m (u.at 2 0) 0) := PL.setNx T3 (PL.setPh T3 HF1.out 2) 0
              have hp5 : Fam w0 ((((w1.setCell ⟨b, 3, none⟩ (.int .i64 2)).setCell ⟨b, 4, none⟩ (.int .i64 0)).alloc (.map #[] 0)).setCell ⟨b, 5, none⟩ (.map (some ((w1.setCell ⟨b, 3, none⟩ (.int .i64 2)).setCell ⟨b, 4, none⟩ (.int .i64 0)).heap.size))) (PL l i j k hb p b m (u.at 2 0) 0) := PL.setMap T3 hp3
              obtain ⟨ev1, qv1, mo1, ht1⟩ := PL.tb T3 HF1.out
              obtain ⟨_, z1, _, z3, z4, z5, zf⟩ := ht1.cells
              obtain ⟨ev3, qv3, mo3, ht3⟩ := PL.tb T3 hp3
              obtain ⟨ev5, qv5, mo5, ht5⟩ := PL.tb T3 hp5
              have hev : ev5 = ev3 ∧ mo5 = some ((w1.setCell ⟨b, 3, none⟩ (.int .i64 2)).setCell ⟨b, 4, none⟩ (.int .i64 0)).heap.size := by
                obtain ⟨U, hr3⟩ := ht3.row
                have h1 := ((hr3.alloc (.map #[] 0)).set 5 (.map (some ((w1.setCell ⟨b, 3, none⟩ (.int .i64 2)).setCell ⟨b, 4, none⟩ (.int .i64 0)).heap.size))).cell 1 rfl
                have h5 := ((hr3.alloc (.map #[] 0)).set 5 (.map (some ((w1.setCell ⟨b, 3, none⟩ (.int .i64 2)).setCell ⟨b, 4, none⟩ (.int .i64 0)).heap.size))).cell 5 rfl
                have h1' := h1.symm.trans ht5.cells.2.1
                have h5' := h5.symm.trans ht5.cells.2.2.2.2.2.1
                simp only [Option.some.injEq, Value.map.injEq] at h1' h5'
                exact ⟨h1'.symm, h5'.symm⟩
              obtain ⟨rfl, rfl⟩ := hev
              have hsz : ((w1.setCell ⟨b, 3, none⟩ (.int .i64 2)).setCell ⟨b, 4, none⟩ (.int .i64 0)).heap.size = w1.heap.size := by simp
              have hbl : b < w1.heap.size := by obtain ⟨U, hr⟩ := ht1.row; exact hr.lt
              rw [hsz] at hp5 ht5
              have ht4 := ht3.only0 ((Only.refl [] _).alloc (.map #[] 0))
              obtain ⟨_, y1, _, y3, y4, y5, yf⟩ := ht4.cells
              have HFD : Hid (FndAt (((w1.setCell ⟨b, 3, none⟩ (.int .i64 2)).setCell ⟨b, 4, none⟩ (.int .i64 0)).alloc (.map #[] 0)) w1.heap.size 0 (fun _ => false)) := by
                have := FndAt.made ((w1.setCell ⟨b, 3, none⟩ (.int .i64 2)).setCell ⟨b, 4, none⟩ (.int .i64 0)) (fun _ => false)
                rw [hsz] at this
                exact this
              have HFD5 : Hid (FndAt ((((w1.setCell ⟨b, 3, none⟩ (.int .i64 2)).setCell ⟨b, 4, none⟩ (.int .i64 0)).alloc (.map #[] 0)).setCell ⟨b, 5, none⟩ (.map (some w1.heap.size))) w1.heap.size 0 (fun _ => false)) :=
                HFD.out.only (((Only.refl [b] _).set (.inl (by simp)) _).toP (S := fun x => x = b) (fun x hx => .inl (by simpa using hx))) (fun x => by omega)
              have HP5 := Lib.hid (PL.fd0 T3 hp5 (u.find m).fd)
              replace HP5 : Hid (Fam w0 ((((w1.setCell ⟨b, 3, none⟩ (.int .i64 2)).setCell ⟨b, 4, none⟩ (.int .i64 0)).alloc (.map #[] 0)).setCell ⟨b, 5, none⟩ (.map (some w1.heap.size))) (PL l i j k hb p b m ((u.find m).at 2 0) 0)) := HP5
              have HT5 : Hid (TbAt ((((w1.setCell ⟨b, 3, none⟩ (.int .i64 2)).setCell ⟨b, 4, none⟩ (.int .i64 0)).alloc (.map #[] 0)).setCell ⟨b, 5, none⟩ (.map (some w1.heap.size))) b ev5 qv5 (some w1.heap.size) ((u.find m).at 2 0) 0) :=
                ⟨ht5.row, ht5.ents, ht5.q, fun mb e => by
                  obtain ⟨n, f, h1, h2, _⟩ := ht5.fnd mb e
                  exact ⟨n, f, h1, h2, fun _ => ⟨Nat.zero_le _, fun i hi => by omega⟩⟩, fun _ x => absurd x (by omega), ht5.n1, ht5.n2, ht5.n3⟩
              have hmm : (Instr.makeMap 74 none).run Try.prog ((w1.setCell ⟨b, 3, none⟩ (.int .i64 2)).setCell ⟨b, 4, none⟩ (.int .i64 0)) = .ok (.map (some w1.heap.size)) (((w1.setCell ⟨b, 3, none⟩ (.int .i64 2)).setCell ⟨b, 4, none⟩ (.int .i64 0)).alloc (.map #[] 0)) := by
                rw [← hsz]; kernel_rfl
              have hents : Ents _ 81 0 ev5 u.ents := ht4.ents
              obtain ⟨va5, vc5, hev⟩ := hents.len
              rw [← HLEN.out] at hev
              subst hev
              have f3 := zf 3
              have f4 := zf 4
              have g5 := yf 5
              replace z3 : w1.cell? ⟨b, 3, none⟩ = some (.int .i64 1) := by rw [z3, ← HPH.out]; rfl
              clear hbl hp3 hp5 ht1 ht3 ht4 ht5 hents hsz zf yf y3 y4 z1 HF HF1 HFD
              go_wp2_with fail
              generalize ((((w1.setCell ⟨b, 3, none⟩ (.int .i64 2)).setCell ⟨b, 4, none⟩ (.int .i64 0)).alloc (.map #[] 0)).setCell ⟨b, 5, none⟩ (.map (some w1.heap.size))) = w5 at *
              generalize w1.heap.size = mb at *
              clear y1 y5 g5 hmm f3 f4 z3 z4 z5
              obtain ⟨wo2, rfl⟩ : ∃ wo2 : World, wo2 = wr := ⟨_, rfl⟩
              have HUT : Hid (∀ i, i < u.ents.length → wfI (eAt u.ents i).tgt) := fun i hi => wfI_mk (by have := HU.out.tg i hi; omega)
              go_loopw [95] (fun iv wr => ∃ (k9 : Nat) (f : Nat → Bool), k9 ≤ len ∧ iv = .int .i64 k9 ∧ Fam w0 wr (PL l i j k hb p b m ((u.find m).at 2 0) k9) ∧ TbAt wr b (.slice va5 len vc5) qv5 (some mb) ((u.find m).at 2 0) k9 ∧ FndAt wr mb k9 f ∧ ∀ i, i < k9 → f i = (u.find m).fd i) (fun iv _ => len - (intOf iv).toNat)
              case atStart => exact ⟨0, _, by omega, rfl, HP5.out, HT5.out, HFD5.out, fun i hi => by omega⟩
              case round => as_aux_lemma =>
                clear HP5 HT5 HFD5
                obtain ⟨n, f, hn, rfl, hf, ht, hm, hff⟩ := hrel
                have HF := Lib.hid hf
                have HT := Lib.hid ht
                have HM := Lib.hid hm
                have HFF := Lib.hid hff
                by_cases hlt : n < len
                · have hlt1 : (n : Int) < (len : Int) := by omega
                  have hn0 : (0 : Int) ≤ n := by omega
                  have hen : Ents wr 81 0 (.slice va5 len vc5) u.ents := ht.ents
                  have hlu : n < u.ents.length := by rw [← HLEN.out]; exact hlt
                  obtain ⟨g, cap, hv, hgl, _, c0, c1, c2, _⟩ := hen.at hlu
                  rw [← HLEN.out] at hv
                  simp only [Value.slice.injEq, true_and] at hv
                  obtain ⟨rfl, rfl⟩ := hv
                  have HQ3 : Hid (∀ j v, [Value.int .i64 (eAt u.ents n).kind, .int .i64 (eAt u.ents n).tgt, .int .i64 (eAt u.ents n).tag][j]? = some v → wr.cell? ⟨g, n * 3 + j, none⟩ = some v) := fun j v hv => by
                    match j, hv with
                    | 0, hv => cases hv; exact c0
                    | 1, hv => cases hv; exact c1
                    | 2, hv => cases hv; exact c2
                    | j + 3, hv => simp at hv
                  have HWF := Lib.hid (HUT.out n hlu)
                  have HFDN : Hid ((u.find m).fd n = (decide ((eAt u.ents n).kind = 2) && m.isW (eAt u.ents n).tgt)) := rfl
                  have H20 : Hid (n < 20) := by show _ < _; have := HU.out.le; omega
                  generalize eAt u.ents n = en at *
                  obtain ⟨ek, et, eg⟩ := en
                  have HX := Row.new wr 81 [.int .i64 ek, .int .i64 et, .int .i64 eg]
                  have HFX := Lib.hid (hf.alloc (.cells #[.int .i64 ek, .int .i64 et, .int .i64 eg] 81))
                  have hox : Only [] wr (wr.alloc (.cells #[.int .i64 ek, .int .i64 et, .int .i64 eg] 81)) := (Only.refl [] wr).alloc _
                  have HTX := Lib.hid (ht.only0 hox)
                  have HMX := Lib.hid (hm.only (hox.toP0 (S := fun _ => False)) (fun x => x))
                  have HMB : Hid (mb < wr.heap.size) := hm.lt
                  have x0 := HX.cell 0 rfl
                  have x1 := HX.cell 1 rfl
                  have e5 := HTX.out.cells.2.2.2.2.2.1
                  clear hf ht hm hff hen hlu hgl c0 c1 c2 HX hox HF HT HM
                  go_wp2_with (refine wpList_load_agg rfl 81 _ rfl g (n * 3) rfl [.int .i64 ek, .int .i64 et, .int .i64 eg] _ Try.underlying81 rfl sizeEn HQ3.out ?_)
                  have hrb : mb < wr.heap.size := HMB.out
                  generalize wr.alloc (.cells #[.int .i64 ek, .int .i64 et, .int .i64 eg] 81) = w6 at *
                  generalize wr.heap.size = rb at *
                  have HRB := Lib.hid hrb
                  clear hrb HMB
                  have HUP : Hid (∀ wy, Only [] w6 wy → ∃ w', (Instr.mapUpdate 74 (.map (some mb)) (.int .i64 (n : Int)) (.bool ((u.find m).fd n))).run Try.prog wy = .ok () w' ∧ (w'.cell? ⟨b, 5, none⟩ = some (.map (some mb)) ∧ w'.cell? ⟨rb, 0, none⟩ = some (.int .i64 ek) ∧ w'.cell? ⟨rb, 1, none⟩ = some (.int .i64 et)) ∧ ∃ f', FndAt w' mb (n + 1) f' ∧ (∀ i, i < n + 1 → f' i = (u.find m).fd i) ∧ Fam w0 w' (PL l i j k hb p b m ((u.find m).at 2 0) (n + 1)) ∧ TbAt w' b (.slice (some ⟨g, 0, none⟩) len vc5) qv5 (some mb) ((u.find m).at 2 0) (n + 1)) := fun wy ho => by
                    obtain ⟨w', h1, h2, h3, h4, h5⟩ := PL.setFnd T3 (HFX.out.only0 ho) (HTX.out.only0 ho) (HMX.out.only (ho.toP0 (S := fun _ => False)) (fun x => x)) HFF.out H20.out
                    have hne : rb ∉ [mb] := by have := HRB.out; simp; omega
                    refine ⟨w', h1, ⟨h5.cells.2.2.2.2.2.1, h3.cell (ho.cell x0 (by simp)) hne, h3.cell (ho.cell x1 (by simp)) hne⟩, _, h2, fun i hi => ?_, h4, h5⟩
                    by_cases e : i = n
                    · rw [e, if_pos rfl]; rfl
                    · rw [if_neg e]; exact HFF.out i (by omega)
                  by_cases hk2 : ek = 2
                  · as_aux_lemma =>
                    subst hk2
                    have hfd : (u.find m).fd n = m.isW et := HFDN.out
                    rw [hfd] at HUP
                    have HIW : Hid (Calls Try.prog 58 #[.pointer (some ⟨p, 0, none⟩), .int .i64 et] w6.drew (Same w6.drew (.bool (m.isW et)))) := isWhite_rep w6.drew T3.t2 HFX.out.drew et HWF.out
                    clear hfd
                    generalize m.isW et = wt at *
                    go_region_held3 (fun w' => w'.cell? ⟨b, 5, none⟩ = some (.map (some mb)) ∧ w'.cell? ⟨rb, 0, none⟩ = some (.int .i64 2) ∧ w'.cell? ⟨rb, 1, none⟩ = some (.int .i64 et))
                      (first | (exact ⟨e5, x0, x1⟩) | (exact hk7))
                      (first | (go_at_call 58; refine HIW.out.mono ?_; rintro e _ ⟨rfl, n9, rfl⟩; obtain ⟨w7, hrun7, hk7, hx7⟩ := HUP.out _ ((Only.refl [] w6).drewN (1 + n9)); have HX7 := Lib.hid hx7; clear hx7))
                    obtain ⟨f7, hm7, hff7, hf7, ht7⟩ := HX7.out
                    have HF7 := Lib.hid hf7
                    have HT7 := Lib.hid ht7
                    have HM7 := Lib.hid hm7
                    have HFF7 := Lib.hid hff7
                    clear hrun7 hk7 HX7 hm7 hff7 hf7 ht7 x0 x1 e5
                    have h20 := H20.out
                    go_wp2_with fail
                    exact ⟨⟨n + 1, f7, by omega, by go_num, HF7.out, HT7.out, HM7.out, HFF7.out⟩, by simp [intOf]; omega⟩
                  · as_aux_lemma =>
                    have hk2b : (ek == 2) = false := by rw [beq_eq_false_iff_ne]; exact hk2
                    have hfd : (u.find m).fd n = false := by rw [HFDN.out]; simp [hk2]
                    rw [hfd] at HUP
                    obtain ⟨w7, hrun7, _, f7, hm7, hff7, hf7, ht7⟩ := HUP.out _ (Only.refl [] w6).drew
                    have HF7 := Lib.hid hf7
                    have HT7 := Lib.hid ht7
                    have HM7 := Lib.hid hm7
                    have HFF7 := Lib.hid hff7
                    clear hm7 hff7 hf7 ht7 hfd hk2
                    go_still_tail 14, (by kernel_rfl)
                    change wpList _ _ _ _ _ w6.drew
                    have h20 := H20.out
                    go_wp2_with fail
                    exact ⟨⟨n + 1, f7, by omega, by go_num, HF7.out, HT7.out, HM7.out, HFF7.out⟩, by simp [intOf]; omega⟩
                · as_aux_lemma =>
                  obtain rfl : n = len := by omega
                  have hlt1 : ¬ (n : Int) < (n : Int) := by omega
                  have HGD : Hid (((u.find m).at 2 0).Run) := ⟨HU.out.le, by show 1 ≤ 2; omega, by show 2 ≤ 4; omega, Nat.zero_le _, HU.out.tg, fun e => by simp [Tb.at] at e⟩
                  have hnum := numAt_of ht.cells.2.2.2.1
                  have HNM := Lib.hid hnum
                  clear hf ht hm hff hnum
                  go_wp2_with fail
                  exact ⟨⟨(u.find m).at 2 0, n, HF.out, fun _ => HLEN.out, HGD.out, HN.out.symm.trans HS.out, HE.out⟩, by rw [HNM.out]; show 4 - 2 < 4 - u.ph; have := HPH.out; omega⟩
            · as_aux_lemma =>
              obtain rfl : ph = 2 := by omega
              have HN : Hid (u.settle m = (u.at 3 0).settle m) := Tb.settle_2 HPH.out.symm (by rw [← HKD.out, ← HNX.out]; omega)
              go_wp2_with fail
              go_quiet (fail)
              go_wp2_with fail
              go_quiet (fail)
              go_wp2_with fail
              have HFN := fun y => PL.setNx T3 (PL.setPh T3 (HF.out.drewN y) 3) 0
              have HFQ := Lib.hid HFN
              have HNM := fun y => numAt_of (b := b) (i := 3) (w := ((wr.drewN y).setCell ⟨b, 3, none⟩ (.int .i64 3)).setCell ⟨b, 4, none⟩ (.int .i64 0)) (k := .i64) (n := 3) (by
                obtain ⟨_, _, _, h7⟩ := PL.tb T3 (HFQ.out y)
                exact h7.cells.2.2.2.1)
              exact ⟨⟨u.at 3 0, 0, HFQ.out _, fun h => by (cases h), ⟨HU.out.le, by show 1 ≤ 3; omega, by show 3 ≤ 4; omega, Nat.zero_le _, HU.out.tg, fun h => rfl⟩, by rw [← HN.out]; exact HS.out, HE.out⟩, by rw [HNM, ← HPH.out]; omega⟩
end
end Go.Proofs.Ythflghdaejbdkaa
