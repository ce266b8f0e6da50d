/- Lemmas of this claim. -/
import Derived.Test.YthflghdaejbdkaaGreatXeCyV
namespace Go.Proofs.YthflghdaejbdkaaGreat
open Go.RowKit Go.Maps
set_option maxHeartbeats 6400000
set_option maxRecDepth 100000
set_option linter.unusedVariables false
def TDid2 (w0 : World) (l : List Asn) (b : Nat) (r : Int × Int × Co) (e : Ending) (w' : World) : Prop := e = .returned (.tuple #[.int .i64 r.1, .int .i64 r.2.1]) ∧ ∃ x' : CX, x'.ok r.2.2 ∧ Fam w0 w' (C5 b r.2.2 x' ++ l)
section
variable {w0 w : World} {l : List Asn} {b : Nat} {c : Co} {x : CX} {i : Nat}
theorem cfinish_nil (w : World) : Calls Tryz.prog 44 #[.pointer none] w (Exact w (.tuple #[.int .i64 0, .int .i64 0, .int .i64 1])) := by
  refine calls_abs fun R hR => ?_
  have c := cstep_nil w
  go_enter Tryz.func44, Tryz.ntmps44
  go_wp2_with fail
  go_loopw [2, 3] (fun iv jv wr => iv = .int .i64 0 ∧ jv = .int .i64 0 ∧ wr = w) (fun _ _ _ => 0)
  case atStart => exact ⟨rfl, rfl, rfl⟩
  case round =>
    obtain ⟨rfl, rfl, rfl⟩ := hrel
    go_wp2_with fail
    refine c.mono ?_
    rintro e _ ⟨rfl, rfl⟩
    go_wp2_with fail
    refine bodyPost_ret (results_tmp3 rfl _ _ _) rfl ?_
    exact hR.out _ _ ⟨rfl, rfl⟩
theorem cfinish_any (w : World) (hf : Fam w0 w (C5 b c x ++ l)) (hx : x.ok c) (h : c.Okc) : Calls Tryz.prog 44 #[.pointer (some ⟨b, 0, none⟩)] w (fun e w' => e = .returned (.tuple #[.int .i64 c.finish.1, .int .i64 c.finish.2.1, .int .i64 c.finish.2.2.1]) ∧ ∃ x' : CX, x'.ok c.finish.2.2.2 ∧ Fam w0 w' (C5 b c.finish.2.2.2 x' ++ l)) := by
  refine calls_abs fun R hR => ?_
  unfold Co.finish at hR
  have HH := Lib.hid h
  by_cases hp : c.ph = 0
  · rw [if_pos hp] at hR
    have cs := cstep_any w hf hx h
    rw [Co.step_idle hp] at cs
    clear hf hx h hp
    go_enter Tryz.func44, Tryz.ntmps44
    go_wp2_with fail
    go_loopw [2, 3] (fun iv jv wr => iv = .int .i64 0 ∧ jv = .int .i64 0 ∧ wr = w) (fun _ _ _ => 0)
    case atStart => exact ⟨rfl, rfl, rfl⟩
    case round =>
      obtain ⟨rfl, rfl, rfl⟩ := hrel
      go_wp2_with fail
      refine cs.mono ?_
      rintro e w1 ⟨rfl, x', hx', hf'⟩
      have HE : Hid (∃ x' : CX, x'.ok c ∧ Fam w0 w1 (C5 b c x' ++ l)) := ⟨x', hx', hf'⟩
      clear cs hx' hf'
      go_wp2_with fail
      refine bodyPost_ret (results_tmp3 rfl _ _ _) rfl ?_
      exact hR.out _ _ ⟨rfl, HE.out⟩
  · rw [if_neg hp] at hR
    have HF : Hid (∃ x' : CX, x'.ok c ∧ Fam w0 w (C5 b c x' ++ l)) := ⟨x, hx, hf⟩
    have HP := Lib.hid hp
    have HMU := Lib.hid (Co.mu_le h)
    clear hf hx h hp
    go_enter Tryz.func44, Tryz.ntmps44
    go_wp2_with fail
    go_loopw [2, 3] (fun iv jv wr => ∃ k : Nat, iv = .int .i64 k ∧ jv = .int .i64 (Co.costs k c) ∧ (∃ x' : CX, x'.ok (Co.steps k c) ∧ Fam w0 wr (C5 b (Co.steps k c) x' ++ l)) ∧ Hid (∀ j, j < k → (Co.steps j c).ph ≠ 0)) (fun iv _ _ => 40000 - (intOf iv).toNat)
    case atStart => exact ⟨0, rfl, rfl, HF.out, fun j hj => by omega⟩
    case round => as_aux_lemma =>
      clear HF
      obtain ⟨k, rfl, rfl, ⟨x', hx', hf'⟩, HB⟩ := hrel
      have hok := HH.out.steps k
      have cs := cstep_any wr hf' hx' hok
      have hmu := Co.steps_mu HH.out k HB.out
      have hcl := Co.costs_le HH.out k
      have hk : k ≤ 30192 := by have := HMU.out; omega
      by_cases he : (Co.steps k c).ph = 0
      · have hfi := Co.fins_eq HH.out HB.out he
        have hk0 : k ≠ 0 := fun e => by rw [e] at he; exact HP.out he
        have hkb : ((k : Int) == 0) = false := by simpa using hk0
        rw [Co.step_idle he] at cs
        rw [← hfi] at hR
        clear hf' hx' hok hfi hk0 hmu he
        generalize Co.costs k c = co at *
        go_wp2_with fail
        refine cs.mono ?_
        rintro e w1 ⟨rfl, x1, hx1, hf1⟩
        have HE : Hid (∃ x' : CX, x'.ok (Co.steps k c) ∧ Fam w0 w1 (C5 b (Co.steps k c) x' ++ l)) := ⟨x1, hx1, hf1⟩
        clear cs hx1 hf1
        go_wp2_with fail
        refine bodyPost_ret (results_tmp3 rfl _ _ _) rfl ?_
        exact hR.out _ _ ⟨rfl, HE.out⟩
      · have hco := hok.cost he
        have HBN : Hid (∀ j, j < k + 1 → (Co.steps j c).ph ≠ 0) := fun j hj => by
          by_cases e : j = k
          · rw [e]; exact he
          · exact HB.out j (by omega)
        have hmu2 := Co.steps_mu HH.out (k + 1) HBN.out
        have HCO : Hid (Co.costs (k + 1) c = Co.costs k c + (Co.steps k c).step.1) := rfl
        have cs2 : Calls Tryz.prog 41 #[.pointer (some ⟨b, 0, none⟩)] wr (fun e w' => e = .returned (.tuple #[.int .i64 (Co.steps k c).step.1, .int .i64 0]) ∧ ∃ x' : CX, x'.ok (Co.steps (k + 1) c) ∧ Fam w0 w' (C5 b (Co.steps (k + 1) c) x' ++ l)) := cs.mono fun e w' ⟨h1, h2⟩ => ⟨by rw [h1, hco.2.2], h2⟩
        have hc1 := hco.1
        have hc2 := hco.2.1
        clear cs hf' hx' hok he hco hmu
        generalize (Co.steps (k + 1) c).mu = m1 at *
        generalize c.mu = m2 at *
        generalize (Co.steps k c).step.1 = sc at *
        generalize Co.costs k c = co at *
        go_wp2_with fail
        refine cs2.mono ?_
        rintro e w1 ⟨rfl, x1, hx1, hf1⟩
        have HE : Hid (∃ x' : CX, x'.ok (Co.steps (k + 1) c) ∧ Fam w0 w1 (C5 b (Co.steps (k + 1) c) x' ++ l)) := ⟨x1, hx1, hf1⟩
        clear cs2 hx1 hf1
        go_wp2_with fail
        exact ⟨⟨k + 1, by go_num, by rw [HCO.out], HE.out, HBN⟩, by simp [intOf]; omega⟩
theorem cgive_any (w : World) (hf : Fam w0 w (C5 b c x ++ l)) (hx : x.ok c) (h : c.Ok) (n : Int) (hn : 0 ≤ n ∧ n ≤ 10000) : Calls Tryz.prog 116 #[.pointer (some ⟨b, 0, none⟩), .int .i64 n] w (fun e w' => e = .returned (.int .i64 (c.give n).1) ∧ ∃ x' : CX, x'.ok (c.give n).2 ∧ Fam w0 w' (C5 b (c.give n).2 x' ++ l)) := by
  refine calls_abs fun R hR => ?_
  unfold Co.give at hR
  obtain ⟨_, _, _, _, _, x5, x6, _, _, _, xf⟩ := CRow.cells hf
  by_cases hp : c.ph = 0
  · rw [if_pos hp] at hR
    rw [hp] at x5
    have HE : Hid (∃ x' : CX, x'.ok c ∧ Fam w0 w (C5 b c x' ++ l)) := ⟨x, hx, hf⟩
    clear hf hx h hp
    go_enter Tryz.func116, Tryz.ntmps116
    go_wp2_with fail
    exact hR.out _ _ ⟨rfl, HE.out⟩
  · rw [if_neg hp] at hR
    have HD := Lib.hid (h.k.more hp hn.1)
    have hcr1 := h.k.cr1
    have hcr2 := h.cr2
    have hpb : ((c.ph : Int) == 0) = false := by simpa using hp
    have x6f := xf 6
    have F1 : Hid (∃ x' : CX, x'.ok (c.more n) ∧ Fam w0 (w.setCell ⟨b, 6, none⟩ (.int .i64 (c.cr + n))) (C5 b (c.more n) x' ++ l)) := ⟨x, ⟨hx.ov, hx.mv, hx.mv2⟩, C5.setCr hf (c.cr + n)⟩
    have HMX : Hid ((c.more n).cr ≤ 10060) := by show c.cr + n ≤ 10060; omega
    have hgu := (Co.gives_spec HD.out).2.2
    have hgb : (c.more n).gives ≤ 10061 := by
      have h2 := HMX.out
      unfold Co.nu at hgu
      split at hgu <;> omega
    have HGB := Lib.hid hgb
    clear hf hx h hp xf hgu hgb
    generalize c.cr = cr at *
    generalize c.ph = ph at *
    go_enter Tryz.func116, Tryz.ntmps116
    go_upto_region 5 with fail
    generalize w.setCell ⟨b, 6, none⟩ (.int .i64 (cr + n)) = w1 at *
    generalize c.more n = d at *
    clear x5 x6 x6f hpb hcr1 hcr2 hn
    go_loopw [5] (fun iv wr => ∃ k : Nat, iv = .int .i64 k ∧ (∃ x' : CX, x'.ok (Co.pays k d) ∧ Fam w0 wr (C5 b (Co.pays k d) x' ++ l)) ∧ Hid (∀ j, j < k → ¬ (Co.pays j d).stops)) (fun iv _ => 20000 - (intOf iv).toNat)
    case atStart => exact ⟨0, rfl, F1.out, fun j hj => by omega⟩
    case round => as_aux_lemma =>
      clear F1
      obtain ⟨k, rfl, ⟨x', hx', hf'⟩, HB⟩ := hrel
      obtain ⟨hok, hnu, hcm⟩ := Co.pays_ok HD.out k HB.out
      have hcr := hok.cr1
      have hcx : (Co.pays k d).cr ≤ 10060 := by have := HMX.out; omega
      have hkb : k ≤ 10061 := by
        have h1 := HGB.out
        rcases Nat.lt_or_ge d.gives k with h2 | h2
        · exact absurd (Co.gives_spec HD.out).1 (HB.out _ h2)
        · omega
      obtain ⟨_, _, _, _, _, x5, x6, _, _, _, xf⟩ := CRow.cells hf'
      have HEX : Hid (∃ x' : CX, x'.ok (Co.pays k d) ∧ Fam w0 wr (C5 b (Co.pays k d) x' ++ l)) := ⟨x', hx', hf'⟩
      by_cases he : (Co.pays k d).ph = 0
      · have hg := Co.gives_eq HD.out HB.out (.inl he)
        rw [← hg] at hR
        rw [he] at x5
        clear hf' hx' hok hnu hcm he hg xf hcr hcx
        go_wp2_with fail
        exact hR.out _ _ ⟨rfl, HEX.out⟩
      · have cc := ccost_any wr hf' hx' hok
        have hco := hok.cost he
        have HX' := Lib.hid hx'
        have HOK := Lib.hid hok
        have heb : (((Co.pays k d).ph : Int) != 0) = true := by simpa using he
        have hc1 := hco.1
        have hc2 := hco.2.1
        by_cases hst : (Co.pays k d).cr < (Co.pays k d).step.1
        · have hg := Co.gives_eq HD.out HB.out (.inr hst)
          rw [← hg] at hR
          clear hf' hx' hok hnu hcm he hg xf hco
          unfold KDid at cc
          generalize (Co.pays k d).step.2.1 = er at *
          generalize (Co.pays k d).step.1 = sc at *
          generalize hcr' : (Co.pays k d).cr = cr at *
          generalize hph' : (Co.pays k d).ph = ph at *
          go_wp2_with fail
          refine cc.mono ?_
          rintro e w2 ⟨rfl, hf2⟩
          obtain ⟨_, _, _, _, _, y5, y6, _⟩ := CRow.cells hf2
          rw [hcr'] at y6
          have HE : Hid (∃ x' : CX, x'.ok (Co.pays k d) ∧ Fam w0 w2 (C5 b (Co.pays k d) x' ++ l)) := ⟨x', HX'.out, hf2⟩
          clear cc hf2 x5 x6 HEX
          go_wp2_with fail
          exact hR.out _ _ ⟨rfl, HE.out⟩
        · have hns : ¬ (Co.pays k d).stops := fun e => by rcases e with e | e; exact he e; exact hst e
          have HBN : Hid (∀ j, j < k + 1 → ¬ (Co.pays j d).stops) := fun j hj => by
            by_cases e : j = k
            · rw [e]; exact hns
            · exact HB.out j (by omega)
          have hkn : k < d.gives := by
            rcases Nat.lt_or_ge k d.gives with h1 | h1
            · exact h1
            · exact absurd (Co.gives_spec HD.out).1 (HBN.out _ (by
                rcases Nat.eq_or_lt_of_le h1 with h2 | h2
                · omega
                · omega))
          have HPAY : Hid (Co.pays (k + 1) d = ({ Co.pays k d with cr := (Co.pays k d).cr - (Co.pays k d).step.1 } : Co).step.2.2) := rfl
          have HOK2 : Hid (({ Co.pays k d with cr := (Co.pays k d).cr - (Co.pays k d).step.1 } : Co).Okc) := hok.credit he (by omega)
          have HPH : Hid ((Co.pays k d).ph ≠ 0) := he
          have hkg := HGB.out
          clear hf' hx' hok hnu hcm he xf hco hns HEX
          unfold KDid at cc
          generalize (Co.pays k d).step.2.1 = er at *
          generalize hsc : (Co.pays k d).step.1 = sc at *
          have HSC := Lib.hid hsc
          clear hsc
          generalize hcr' : (Co.pays k d).cr = cr at *
          generalize hph' : (Co.pays k d).ph = ph at *
          go_wp2_with fail
          refine cc.mono ?_
          rintro e w2 ⟨rfl, hf2⟩
          obtain ⟨_, _, _, _, _, y5, y6, _, _, _, yf⟩ := CRow.cells hf2
          rw [hcr'] at y6
          have y6f := yf 6
          have F3 : Hid (Fam w0 (w2.setCell ⟨b, 6, none⟩ (.int .i64 (cr - sc))) (C5 b { Co.pays k d with cr := cr - sc } x' ++ l)) := C5.setCr hf2 (cr - sc)
          clear cc hf2 x5 x6 yf
          go_upto_region 9 with fail
          generalize w2.setCell ⟨b, 6, none⟩ (.int .i64 (cr - sc)) = w3 at *
          have cs := cstep_any w3 F3.out ⟨HX'.out.ov, HX'.out.mv, HX'.out.mv2⟩ HOK2.out
          clear y5 y6 y6f F3
          replace cs : Calls Tryz.prog 41 #[.pointer (some ⟨b, 0, none⟩)] w3 (fun e w' => ∃ a b', e = .returned (.tuple #[.int .i64 a, .int .i64 b']) ∧ ∃ x' : CX, x'.ok (Co.pays (k + 1) d) ∧ Fam w0 w' (C5 b (Co.pays (k + 1) d) x' ++ l)) := cs.mono fun e w' ⟨h1, x1, h2, h3⟩ => ⟨_, _, h1, x1, by rw [HPAY.out]; exact h2, by rw [HPAY.out]; exact h3⟩
          go_wp2_with fail
          refine cs.mono ?_
          rintro e w4 ⟨ra, rb, rfl, x1, hx1, hf1⟩
          have HE : Hid (∃ x' : CX, x'.ok (Co.pays (k + 1) d) ∧ Fam w0 w4 (C5 b (Co.pays (k + 1) d) x' ++ l)) := ⟨x1, hx1, hf1⟩
          clear cs hx1 hf1
          go_wp2_with fail
          exact ⟨⟨k + 1, by go_num, HE.out, HBN⟩, by simp [intOf]; omega⟩
end
end Go.Proofs.YthflghdaejbdkaaGreat
