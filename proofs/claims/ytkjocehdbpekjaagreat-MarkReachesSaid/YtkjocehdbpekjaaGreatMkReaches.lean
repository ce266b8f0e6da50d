/- Law MarkReaches: the walk. -/
import Derived.Test.YtkjocehdbpekjaaGreatMkL
import Derived.Test.YtkjocehdbpekjaaGreatMkMod
import Derived.Test.YtkjocehdbpekjaaGreatHReach
namespace Go.Proofs.YtkjocehdbpekjaaGreat
open Go.RowKit Go.Maps
set_option maxHeartbeats 12800000
set_option maxRecDepth 100000
set_option linter.unusedVariables false
theorem icell {w : World} {a : Option Addr} {n c : Nat} {m : List Int} (h : Ints w 0 (.slice a n c) m) {j : Nat} (hj : j < m.length) : ∃ g, a = some ⟨g, 0, none⟩ ∧ w.cell? ⟨g, j, none⟩ = some (.int .i64 (gI m j)) := by
  rcases h.form with ⟨_, e⟩ | ⟨g, cap, e, _, _, _, hc⟩
  · rw [e] at hj; simp at hj
  · cases e; exact ⟨g, rfl, hc j hj⟩
/-- How many of the first ones are such. -/
def nF (p : Int → Bool) (l : List Int) (i : Nat) : Nat := ((l.take i).filter p).length
theorem nF_zero {p : Int → Bool} {l : List Int} : nF p l 0 = 0 := rfl
theorem nF_succ {p : Int → Bool} {l : List Int} {i : Nat} (hi : i < l.length) : nF p l (i + 1) = nF p l i + if p (gI l i) then 1 else 0 := by
  unfold nF
  rw [take_filter_succ hi, List.length_append]
  by_cases e : p (gI l i) = true <;> simp [e]
theorem nF_all {p : Int → Bool} {l : List Int} : nF p l l.length = (l.filter p).length := by unfold nF; rw [List.take_length]
theorem nF_le {p : Int → Bool} {l : List Int} {i : Nat} : nF p l i ≤ (l.filter p).length := by
  unfold nF
  have h := List.take_append_drop i l
  have h2 : (l.filter p).length = ((l.take i).filter p).length + ((l.drop i).filter p).length := by
    conv => lhs; rw [← h, List.filter_append, List.length_append]
  omega
theorem nF_at {p : Int → Bool} {l : List Int} {i : Nat} (hi : i < l.length) (hp : p (gI l i) = true) : nF p l i < (l.filter p).length ∧ gI (l.filter p) (nF p l i) = gI l i := by
  have h1 := nF_succ (p := p) hi
  rw [if_pos hp] at h1
  have h2 := nF_le (p := p) (l := l) (i := i + 1)
  refine ⟨by omega, ?_⟩
  have h3 : l.filter p = (l.take (i + 1)).filter p ++ (l.drop (i + 1)).filter p := by rw [← List.filter_append, List.take_append_drop]
  rw [h3, take_filter_succ hi, if_pos hp]
  unfold nF gI
  rw [List.append_assoc, List.getElem?_append_right (Nat.le_refl _), Nat.sub_self]
  rfl
theorem nF_no {p : Int → Bool} {l : List Int} {i k : Nat} (hk : k < (l.filter p).length) (hp : p (gI l i) = false) : gI (l.filter p) k ≠ gI l i := fun e => by
  have h1 : gI (l.filter p) k ∈ l.filter p := mem_gI.2 ⟨k, hk, rfl⟩
  rw [List.mem_filter] at h1
  rw [e, hp] at h1
  cases h1.2
theorem reachN_filter {M : Hp} (hk : M.Ok) {roots : List Int} (hb : ¬ M.badRoot roots) {p : Int → Bool} (hp : ∀ x, p x = true ↔ M.Rch roots x) (k : Nat) : M.reachN roots k = (M.handlesN k).filter p := by
  induction k with
  | zero => rfl
  | succ k ih =>
    unfold Hp.reachN Hp.handlesN
    rw [ih, List.filter_append]
    congr 1
    by_cases e : M.Rch roots ((k : Int) + 1)
    · rw [if_pos e, if_pos (e.some hk hb).1]
      simp [(hp _).2 e]
    · rw [if_neg e]
      have hpf : p ((k : Int) + 1) = false := by
        cases h : p ((k : Int) + 1) with
        | false => rfl
        | true => exact absurd ((hp _).1 h) e
      split
      · simp [hpf]
      · rfl
theorem walk_MarkReaches (pages : Int) (b : Option Addr) (n cap : Nat) (f : Nat → Nat → Int) (a2 : Option Addr) (n2 cap2 : Nat) (f2 : Nat → Int) (w : World) (wp : (Lit.int .i64 pages).wf = true) (hd : Recs 4 w b n f) (h2 : Nums w a2 n2 f2) :
    Calls Tryz.prog 6 #[.int .i64 pages, .slice b n cap, .slice a2 n2 cap2] w fun e w' => e = .returned (.bool true) ∧ Below w.heap.size w w' := by
  refine calls_abs fun R hR => ?_
  by_cases hbig : 300 < n2
  · have hb1 : (300 : Int) < n2 := by omega
    have c4 := msane_any w
    clear hd h2
    go_enter Tryz.func6, Tryz.ntmps6
    go_wp2_with fail
    refine c4.mono ?_
    rintro e w4 ⟨rfl, ho⟩
    have HE : Hid (Below w.heap.size w w4) := ho.bel
    clear ho c4
    go_wp2_with fail
    exact hR.out _ _ ⟨rfl, HE.out⟩
  · have hb1 : ¬ (300 : Int) < n2 := by omega
    have c := mbegun_any w pages b n cap f hd a2 n2 cap2 f2 h2 (by omega)
    have HRD : Hid (Read w (.slice a2 n2 cap2) (listF n2 f2)) := numsRead h2
    have HWF := Lib.hid (numsWf h2)
    have HLN : Hid ((listF n2 f2).length = n2) := by show _ = _; simp [listF]
    generalize listF n2 f2 = rts at *
    clear hd h2
    go_enter Tryz.func6, Tryz.ntmps6
    go_wp2_with fail
    refine c.mono ?_
    rintro e w2 (⟨rfl, ho⟩ | ⟨hb, q, p, r, M, rfl, hM, hbad, hf⟩)
    · have HO := Lib.hid ho
      have c4 := msane_any w2
      clear c ho
      go_wp2_with fail
      refine c4.mono ?_
      rintro e w4 ⟨rfl, ho⟩
      have HE : Hid (Below w.heap.size w w4) := bel3 HO.out ho
      clear ho c4
      go_wp2_with fail
      exact hR.out _ _ ⟨rfl, HE.out⟩
    · have HM := Lib.hid hM
      have HNB := Lib.hid hbad
      obtain ⟨m0, hm0⟩ : ∃ z, z = (Mk.start M).shades rts := ⟨_, rfl⟩
      obtain ⟨q1, q2, q3, q4, q5⟩ := mark_all hM hbad
      have HOK0 : Hid (m0.Ok) := by show _; rw [hm0]; exact Mk.Ok.shades _ _ (Mk.Ok.start hM)
      have HM0 : Hid (m0.M = M) := by show _ = _; rw [hm0]; exact Mk.shades_M _ _
      rw [← hm0] at q1 q2 q3 q4 q5 hf
      have Q1 := Lib.hid q1
      have Q2 := Lib.hid q2
      have Q3 := Lib.hid q3
      have Q4 := Lib.hid q4
      have Q5 := Lib.hid q5
      have HF : Hid (Fam w w2 (ML (FB hb q p r m0) 0 2 hb p m0)) := hf
      have HT2 : Hid (Two2 (FB hb q p r m0) 0 2) := ⟨by show 0 < 4; decide, by show 2 < 4; decide, by decide⟩
      have ch := mheap_rep w2 HT2.out HF.out
      clear q1 q2 q3 q4 q5 hf c hM hbad hm0
      go_wp2_with fail
      refine ch.mono ?_
      rintro e _ ⟨rfl, rfl⟩
      obtain ⟨hk, L, X, hp⟩ := ML.ph HT2.out HF.out
      have cr := hreach_rep w2 hp hk a2 n2 cap2 rts HLN.out (HRD.out.only HF.out.only (by simp)) (by omega) HWF.out
      have he : m0.M.reach rts = (M.reachL rts, 0) := by rw [HM0.out]; unfold Hp.reach; rw [if_neg HNB.out]
      rw [he] at cr
      clear ch hk hp he
      go_wp2_with fail
      refine cr.mono ?_
      rintro e w3 ⟨vk, rfl, hi, ho⟩
      replace hi : Ints w3 w2.heap.size vk (M.reachL rts) := hi
      have HF3 : Hid (Fam w w3 (ML (FB hb q p r m0 ++ [IntsA vk (M.reachL rts)]) 0 2 hb p m0)) := by
        show Fam _ _ _
        rw [ML.app HT2.out]
        exact HF.out.addInts ho hi
      obtain ⟨ka, kc, rfl⟩ := hi.len
      have hk192 : (M.reachL rts).length ≤ 192 := Hp.reachL_len M rts
      have HT3 := Lib.hid (HT2.out.app (IntsA (.slice ka (M.reachL rts).length kc) (M.reachL rts)))
      have c1 := mrun_rep w3 HT3.out HF3.out HOK0.out
      rw [Q1.out] at c1
      clear hi ho cr HF
      generalize HKL : (M.reachL rts).length = kn at *
      have HKN := Lib.hid HKL
      clear HKL
      go_wp2_with fail
      refine c1.mono ?_
      rintro e w4 ⟨rfl, f4⟩
      have HF4 := Lib.hid f4
      have c2 := mdone_rep w4 HT3.out f4
      rw [decide_eq_true Q4.out] at c2
      clear c1 f4 HF3
      go_wp2_with fail
      refine c2.mono ?_
      rintro e _ ⟨rfl, rfl⟩
      have c3 := mgray_rep w4 HT3.out HF4.out (by rw [Q4.out]; decide)
      rw [Q4.out] at c3
      clear c2
      go_wp2_with fail
      refine c3.mono ?_
      rintro e w5 ⟨vg, rfl, hi, ho⟩
      obtain ⟨ga, gc, rfl⟩ := hi.len
      have HF5 := Lib.hid (HF4.out.only0 ho)
      clear c3 hi ho HF4
      obtain ⟨hk5, L5, X5, hp5⟩ := ML.ph HT3.out HF5.out
      have c4 := handles_rep w5 hp5 hk5
      rw [Q3.out] at c4
      clear hk5 hp5
      go_wp2_with fail
      refine c4.mono ?_
      rintro e w6 ⟨va, rfl, hi, ho⟩
      have HF6 : Hid (Fam w w6 (ML ((FB hb q p r m0 ++ [IntsA (.slice ka kn kc) (M.reachL rts)]) ++ [IntsA va M.handles]) 0 2 hb p m0.run)) := by
        show Fam _ _ _
        rw [ML.app HT3.out]
        exact HF5.out.addInts ho hi
      obtain ⟨la, lc, rfl⟩ := hi.len
      have HT6 := Lib.hid (HT3.out.app (IntsA (.slice la M.handles.length lc) M.handles))
      obtain ⟨ln, hln⟩ : ∃ z, z = M.handles.length := ⟨_, rfl⟩
      have HLN6 := Lib.hid hln
      have hln192 : ln ≤ 192 := by rw [hln]; exact Hp.handlesN_len M 192
      have HP : Hid (M.reachL rts = M.handles.filter (fun x => decide (m0.run.col x = 2))) := by
        show _ = _
        exact reachN_filter HM.out.ok HNB.out (fun x => by rw [decide_eq_true_iff]; exact (Q5.out x).1) 192
      rw [← hln] at HF6 HT6 ⊢
      clear c4 hi ho HF5 hln
      obtain ⟨pr, hpr⟩ : ∃ z : Int → Bool, z = (fun x => decide (m0.run.col x = 2)) := ⟨_, rfl⟩
      rw [← hpr] at HP
      have HPR := Lib.hid hpr
      clear hpr
      go_wp2_with fail
      go_loopw [13, 15] (fun av iv wr => ∃ i : Nat, i ≤ ln ∧ iv = .int .i64 i ∧ av = .int .i64 ((nF pr M.handles i : Nat) : Int) ∧ Fam w wr (ML ((FB hb q p r m0 ++ [IntsA (.slice ka kn kc) (M.reachL rts)]) ++ [IntsA (.slice la ln lc) M.handles]) 0 2 hb p m0.run)) (fun av iv _ => ln - (intOf iv).toNat)
      case atStart => exact ⟨0, by omega, rfl, rfl, HF6.out⟩
      case round =>
        clear HF6
        obtain ⟨i, hi, rfl, rfl, hf⟩ := hrel
        have HF := Lib.hid hf
        clear hf
        have hnl : nF pr M.handles i ≤ kn := by rw [← HKN.out, HP.out]; exact nF_le
        by_cases hlt : i < ln
        · have hlt1 : (i : Int) < ln := by omega
          have hi0 : (0 : Int) ≤ i := by omega
          have hih : i < M.handles.length := by rw [← HLN6.out]; exact hlt
          obtain ⟨g, rfl, hc⟩ := icell (HF.out.ints 5 rfl) hih
          have hus := Hp.handle_some (M := M) hih
          have hwx := HM.out.ok.wfH hus
          have cc := mcolor_rep wr HT6.out HF.out (gI M.handles i) hwx
          have hcol : m0.run.color (gI M.handles i) = (m0.run.col (gI M.handles i), 0) := by unfold Mk.color; rw [Q3.out, if_pos hus]
          rw [hcol] at cc
          have hns := nF_succ (p := pr) hih
          have HNS := Lib.hid hns
          have HKC : Hid (∀ k, k < kn → ∀ n, ∃ g, ka = some ⟨g, 0, none⟩ ∧ (wr.drewN n).cell? ⟨g, k, none⟩ = some (.int .i64 (gI (M.reachL rts) k))) := fun k hk n => icell ((HF.out.drewN n).ints 4 rfl) (by rw [HKN.out]; exact hk)
          have HFD : Hid (∀ n, Fam w (wr.drewN n) (ML ((FB hb q p r m0 ++ [IntsA (.slice ka kn kc) (M.reachL rts)]) ++ [IntsA (.slice (some ⟨g, 0, none⟩) ln lc) M.handles]) 0 2 hb p m0.run)) := fun n => HF.out.drewN n
          have HHC : Hid (∀ n, (wr.drewN n).cell? ⟨g, i, none⟩ = some (.int .i64 (gI M.handles i))) := fun n => hc
          by_cases hpx : pr (gI M.handles i) = true
          · have hc2 : m0.run.col (gI M.handles i) = 2 := by rw [HPR.out] at hpx; exact of_decide_eq_true hpx
            obtain ⟨h7, h8⟩ := nF_at hih hpx
            rw [← HP.out] at h7 h8
            rw [HKN.out] at h7
            rw [if_pos hpx] at hns
            have HN1 : Hid (nF pr M.handles (i + 1) = nF pr M.handles i + 1) := hns
            have HKC2 := HKC.out _ h7
            rw [h8] at HKC2
            have HKD := Lib.hid HKC2
            rw [hc2] at cc
            clear hns HNS hpx hc2 h8 HKC HKC2 hus hwx hcol hih
            generalize nF pr M.handles i = nf at *
            generalize gI M.handles i = x at *
            have hnf0 : (0 : Int) ≤ (nf : Int) := by omega
            have hnf1 : (nf : Int) < kn := by omega
            go_wp2_with fail
            refine cc.mono ?_
            rintro e _ ⟨rfl, nd, rfl⟩
            obtain ⟨g2, rfl, k0⟩ := HKD.out nd
            have k1 := HHC.out nd
            have HF7 := Lib.hid (HFD.out nd)
            clear cc hc HKD HHC HFD HF
            generalize wr.drewN nd = w7 at *
            go_wp2_with fail
            go_quiet (fail)
            have HFE := Lib.hid (HF7.out.drewN nq)
            go_wp2_with fail
            exact ⟨⟨i + 1, by omega, by go_num, by rw [HN1.out]; go_num, HFE.out⟩, by simp [intOf]; omega⟩
          · have hpf : pr (gI M.handles i) = false := by cases h : pr (gI M.handles i) with | false => rfl | true => exact absurd h hpx
            have hc0 : m0.run.col (gI M.handles i) = 0 := (Q5.out _).2 (by rw [HPR.out] at hpf; exact of_decide_eq_false hpf)
            rw [if_neg (by rw [hpf]; decide)] at hns
            have HN1 : Hid (nF pr M.handles (i + 1) = nF pr M.handles i) := hns
            rw [hc0] at cc
            by_cases hnk : nF pr M.handles i < kn
            · have hne : gI (M.reachL rts) (nF pr M.handles i) ≠ gI M.handles i := by
                rw [HP.out]
                exact nF_no (by rw [← HP.out, HKN.out]; exact hnk) hpf
              have hneb : (gI (M.reachL rts) (nF pr M.handles i) == gI M.handles i) = false := by simpa using hne
              have HKD := Lib.hid (HKC.out _ hnk)
              clear hns HNS hpx hpf hc0 HKC hus hwx hcol hih hne
              generalize nF pr M.handles i = nf at *
              generalize gI M.handles i = x at *
              generalize gI (M.reachL rts) nf = y at *
              have hnf0 : (0 : Int) ≤ (nf : Int) := by omega
              have hnf1 : (nf : Int) < kn := by omega
              go_wp2_with fail
              refine cc.mono ?_
              rintro e _ ⟨rfl, nd, rfl⟩
              obtain ⟨g2, rfl, k0⟩ := HKD.out nd
              have k1 := HHC.out nd
              have HF7 := Lib.hid (HFD.out nd)
              clear cc hc HKD HHC HFD HF
              generalize wr.drewN nd = w7 at *
              go_wp2_with fail
              go_quiet (fail)
              have HFE := Lib.hid (HF7.out.drewN nq)
              go_wp2_with fail
              exact ⟨⟨i + 1, by omega, by go_num, by rw [HN1.out], HFE.out⟩, by simp [intOf]; omega⟩
            · clear hns HNS hpx hpf hc0 HKC hus hwx hcol hih
              generalize nF pr M.handles i = nf at *
              generalize gI M.handles i = x at *
              have hnf1 : ¬ (nf : Int) < kn := by omega
              have hnf2 : decide ((nf : Int) < kn) = false := decide_eq_false hnf1
              go_wp2_with fail
              refine cc.mono ?_
              rintro e _ ⟨rfl, nd, rfl⟩
              have HF7 := Lib.hid (HFD.out nd)
              clear cc hc HHC HFD HF
              generalize wr.drewN nd = w7 at *
              go_wp2_with fail
              go_quiet (fail)
              have HFE := Lib.hid (HF7.out.drewN nq)
              go_wp2_with fail
              exact ⟨⟨i + 1, by omega, by go_num, by rw [HN1.out], HFE.out⟩, by simp [intOf]; omega⟩
        · obtain rfl : i = ln := by omega
          have hlt1 : ¬ (i : Int) < (i : Int) := by omega
          have hend : nF pr M.handles i = kn := by
            have h7 := nF_all (p := pr) (l := M.handles)
            rw [← HLN6.out, ← HP.out, HKN.out] at h7
            exact h7
          rw [hend]
          have HO := Lib.hid HF.out.only
          have c4 := msane_any wr
          clear hend hnl HF
          go_wp2_with fail
          refine c4.mono ?_
          rintro e w9 ⟨rfl, ho⟩
          have HE : Hid (Below w.heap.size w w9) := bel3 HO.out ho
          clear ho c4
          go_wp2_with fail
          exact hR.out _ _ ⟨rfl, HE.out⟩
end Go.Proofs.YtkjocehdbpekjaaGreat
