/- Law ObjectCopies: the walk. -/
import Derived.Test.YtcdeikbehpepjaaOUndone
import Derived.Test.YtcdeikbehpepjaaRObjR
namespace Go.Proofs.Ytcdeikbehpepjaa
open Go.RowKit Go.Maps
set_option maxHeartbeats 12800000
set_option maxRecDepth 100000
set_option linter.unusedVariables false
theorem list_ext_gI {a b : List Int} (hl : a.length = b.length) (h : ∀ s, s < a.length → gI a s = gI b s) : a = b := by
  apply List.ext_getElem hl
  intro i h1 h2
  have := h i h1
  unfold gI at this
  rw [List.getElem?_eq_getElem h1, List.getElem?_eq_getElem h2] at this
  exact this
theorem list_ext_gB {a b : List Bool} (hl : a.length = b.length) (h : ∀ s, s < a.length → gB a s = gB b s) : a = b := by
  apply List.ext_getElem hl
  intro i h1 h2
  have := h i h1
  unfold gB at this
  rw [List.getElem?_eq_getElem h1, List.getElem?_eq_getElem h2] at this
  exact this
theorem alikeO_some {o o2 : Th} (h1 : o.ok1) (h2 : o2.ok1) : AlikeO (some o) (some o2) ↔ likeT o o2 = true := by
  unfold likeT
  simp only [Bool.and_eq_true, decide_eq_true_eq]
  constructor
  · intro ⟨hk, hc, hl, hs⟩
    have hk' : o.kind = o2.kind := hk
    have hsl : o.slots = o2.slots := list_ext_gI hl (fun s hs' => (hs s hs').1)
    have hrf : o.refs = o2.refs := list_ext_gB (by rw [h1.rl, h2.rl]; exact hl) (fun s hs' => (hs s (by rw [h1.rl] at hs'; exact hs')).2)
    exact ⟨⟨⟨hk', hc⟩, by unfold Th.rlist; rw [hk', hrf]⟩, hsl⟩
  · intro ⟨⟨⟨hk, hc⟩, hr⟩, hsl⟩
    refine ⟨hk, hc, by show o.slots.length = o2.slots.length; rw [hsl], fun s hs => ⟨by show gI o.slots s = gI o2.slots s; rw [hsl], ?_⟩⟩
    show gB o.refs s = gB o2.refs s
    have hs1 : s < o.slots.length := hs
    have hs2 : s < o2.slots.length := by rw [← hsl]; exact hs1
    rcases h1.kd with ⟨k1, _⟩ | ⟨k1, _, _, a1⟩ | ⟨k1, _, _, _, a1⟩
    · unfold Th.rlist at hr
      rw [← hk, k1, if_pos rfl, if_pos rfl] at hr
      rw [hr]
    · rcases h2.kd with ⟨k2, _⟩ | ⟨k2, _, _, a2⟩ | ⟨k2, _⟩
      · omega
      · rw [a1, a2]
      · omega
    · rcases h2.kd with ⟨k2, _⟩ | ⟨k2, _⟩ | ⟨k2, _, _, _, a2⟩
      · omega
      · omega
      · rw [a1 s hs1, a2 s hs2]
theorem alike_both {M N : Hp} (hM : M.Ok) (hN : N.Ok) : AlikeM M N ↔ ∀ i : Nat, 1 ≤ i → i < 193 → AlikeO (M.ob i) (N.ob i) := by
  constructor
  · intro h i h1 h2
    obtain ⟨e, hl⟩ := h i (wfI_mk (by omega))
    cases a : M.ob (i : Int) with
    | none =>
      cases b : N.ob (i : Int) with
      | none => exact ⟨rfl, rfl, rfl, fun s hs => ⟨rfl, rfl⟩⟩
      | some o2 => rw [a, b] at e; cases e
    | some o =>
      cases b : N.ob (i : Int) with
      | none => rw [a, b] at e; cases e
      | some o2 => exact (alikeO_some (hM.th _ o a) (hN.th _ o2 b)).2 (hl o o2 a b)
  · intro h k _
    by_cases hk : 1 ≤ k ∧ k ≤ 192
    · have ho := h k.toNat (by omega) (by omega)
      rw [show ((k.toNat : Nat) : Int) = k by omega] at ho
      cases a : M.ob k with
      | none =>
        cases b : N.ob k with
        | none => exact ⟨rfl, fun _ _ e => by cases e⟩
        | some o2 =>
          rw [a, b] at ho
          have h1 : (0 : Int) = o2.kind := ho.k
          have := (hN.th k o2 b).kd
          omega
      | some o =>
        cases b : N.ob k with
        | none =>
          rw [a, b] at ho
          have h1 : o.kind = 0 := ho.k
          have := (hM.th k o a).kd
          omega
        | some o2 =>
          rw [a, b] at ho
          refine ⟨rfl, fun x y e1 e2 => ?_⟩
          cases e1; cases e2
          exact (alikeO_some (hM.th _ o a) (hN.th _ o2 b)).1 ho
    · have h1 : M.ob k = none := by
        cases e : M.ob k with
        | none => rfl
        | some o => exact absurd (hM.hr k o e) hk
      have h2 : N.ob k = none := by
        cases e : N.ob k with
        | none => rfl
        | some o => exact absurd (hN.hr k o e) hk
      rw [h1, h2]
      exact ⟨rfl, fun _ _ e => by cases e⟩
theorem walk_ObjectCopies (pages : Int) (ob : Option Addr) (on cap : Nat) (f : Nat → OpR) (mb : Option Addr) (mn mcap : Nat) (g : Nat → OpR) (tb : Option Addr) (tn tcap : Nat) (h : Nat → OpR) (w : World) (wp : (Lit.int .i64 pages).wf = true) (hd : Ops w ob on f) (hd2 : Ops w mb mn g) (hd3 : Ops w tb tn h) :
    Calls Try.prog 6 #[.int .i64 pages, .slice ob on cap, .slice mb mn mcap, .slice tb tn tcap] w fun e w' => e = .returned (.bool true) ∧ Below w.heap.size w w' := by
  refine calls_abs fun R hR => ?_
  have cp := oplay_any w pages ob on cap f hd
  have HD2 := Lib.hid hd2
  have HD3 := Lib.hid hd3
  clear hd hd2 hd3 wp
  go_enter Try.func6, Try.ntmps6
  go_wp2_with fail
  refine cp.mono ?_
  rintro e w2 ⟨vp, vq, rfl, hpl⟩
  have HO2 : Hid (Only [] w w2) := hpl.only
  clear cp
  rcases hpl with ⟨rfl, rfl, _⟩ | ⟨p, q, M, rfl, rfl, hF⟩
  · have cc := hcopy_nope w2 _ (.inl rfl)
    go_wp2_with fail
    refine cc.mono ?_
    rintro e _ ⟨rfl, rfl⟩
    have cs := osane_any w2
    clear cc
    go_wp2_with fail
    refine cs.mono ?_
    rintro e w9 ⟨rfl, ho⟩
    have HE : Hid (Below w.heap.size w w9) := (HO2.out.trans ho (by simp)).bel
    clear ho cs
    go_wp2_with fail
    exact hR.out _ _ ⟨rfl, HE.out⟩
  · have HF := Lib.hid hF
    clear hF
    obtain ⟨hKM, L, X, hp⟩ := HF.out.ph 0 rfl
    have HKM := Lib.hid hKM
    have cc := hcopy_rep w2 hp hKM
    clear hp hKM
    go_wp2_with fail
    refine cc.mono ?_
    rintro e w3 ⟨p2, L2, X2, rfl, hpw, hL2, ho⟩
    have HF3 : Hid (Fam w w3 [PH p M, GH q M, PH p2 M]) := HF.out.add (pborn hpw HKM.out hL2 ho)
    obtain ⟨_, LG, XG, hg⟩ := HF3.out.gh 1 rfl
    have cg := gcopy_rep w3 hg HKM.out
    clear hpw hL2 ho cc HF HO2 hg
    go_wp2_with fail
    refine cg.mono ?_
    rintro e w4 ⟨q2, L4, X4, rfl, hqw, hL4, ho⟩
    have HF4 : Hid (Fam w w4 [PH p M, GH q M, PH p2 M, GH q2 M]) := HF3.out.add (gborn hqw HKM.out hL4 ho)
    obtain ⟨_, LP, XP, hpp⟩ := HF4.out.ph 0 rfl
    obtain ⟨_, LC, XC, hpc⟩ := HF4.out.ph 2 rfl
    have ca := alike_rep w4 hpp HKM.out hpc HKM.out
    have HAL : Hid (AlikeM M M) := alikeM_of rfl
    clear hqw hL4 ho cg HF3 hpp hpc
    go_wp2_with fail
    refine ca.mono ?_
    rintro e w5 ⟨rb, rfl, hrb, ho⟩
    obtain rfl : rb = true := hrb.2 HAL.out
    have HF5 := Lib.hid (HF4.out.only0 ho)
    clear hrb ho ca HF4
    obtain ⟨_, LP, XP, hpp⟩ := HF5.out.ph 0 rfl
    have c1 := hpool_rep w5 hpp
    clear hpp
    go_wp2_with fail
    refine c1.mono ?_
    rintro e w6 ⟨pa, ba, rfl, hpa, ho, _, _⟩
    have HF6 := Lib.hid (HF5.out.only0 ho)
    have HPA := Lib.hid hpa
    obtain ⟨_, LC, XC, hpc⟩ := HF6.out.ph 2 rfl
    have c2 := hpool_rep w6 hpc
    clear hpa ho c1 HF5 hpc
    go_wp2_with fail
    refine c2.mono ?_
    rintro e w7 ⟨pb, bb, rfl, hpb, ho, _, _⟩
    have HF7 := Lib.hid (HF6.out.only0 ho)
    have c3 := same_rep w7 pa ba M.P (HPA.out.only ho (by simp) (by simp)) pb bb M.P hpb rfl
    rw [Pl.Eqv.refl.same HKM.out.p] at c3
    clear hpb ho c2 HF6 HPA
    go_wp2_with fail
    refine c3.mono ?_
    rintro e w8 ⟨rfl, hdr⟩
    have HF8 := Lib.hid (HF7.out.only0 (hdr.only []))
    clear hdr c3 HF7
    go_wp2_with fail
    go_loopw [14] (fun iv wr => ∃ (x : Nat) (M N : Hp), x ≤ 60 ∧ iv = .int .i64 x ∧ Fam w wr [PH p M, GH q M, PH p2 N, GH q2 N]) (fun iv _ => 61 - (intOf iv).toNat)
    case atStart => exact ⟨0, M, M, by omega, rfl, HF8.out⟩
    case round =>
      clear HF8 HAL HKM
      obtain ⟨x, M1, N1, hx60, rfl, hF⟩ := hrel
      have HF := Lib.hid hF
      clear hF
      by_cases hc : x < 60 ∧ (x < mn ∨ x < tn)
      · obtain ⟨hx1, hor⟩ := hc
        have hx2 : (x : Int) < 60 := by omega
        have hx0 : (0 : Int) ≤ x := by omega
        by_cases hm : x < mn
        · have hm1 : (x : Int) < mn := by omega
          rcases HD2.out.2 with h0 | ⟨b1, o1, rfl, hcg⟩
          · omega
          obtain ⟨q0, q1, q2', q3, q4, wa, wb, wc, hba⟩ := hcg x hm
          have c := odo_any HF.out 0 1 rfl rfl (by decide) (g x).d (g x).a (g x).b (g x).c (g x).g (g x).n (g x).k (g x).l wa wb wc hba
          have c0 := HF.out.cell q0
          have c1 := HF.out.cell q1
          have c2 := HF.out.cell q2'
          have c3 := HF.out.cell q3
          have c4 := HF.out.cell q4
          generalize g x = r at *
          obtain ⟨rd, ra, rb, rc, rg, rn, rk, rl⟩ := r
          clear hcg q0 q1 q2' q3 q4 wa wb wc hba
          go_wp2_with fail
          refine c.mono ?_
          rintro e w9 ⟨rfl, M2, hf⟩
          have HF9 : Hid (Fam w w9 [PH p M2, GH q M2, PH p2 N1, GH q2 N1]) := hf
          clear hf c c0 c1 c2 c3 c4 HF
          by_cases ht : x < tn
          · have ht1 : (x : Int) < tn := by omega
            rcases HD3.out.2 with h0 | ⟨b1, o1, rfl, hcg⟩
            · omega
            obtain ⟨q0, q1, q2', q3, q4, wa, wb, wc, hba⟩ := hcg x ht
            have c := odo_any HF9.out 2 3 rfl rfl (by decide) (h x).d (h x).a (h x).b (h x).c (h x).g (h x).n (h x).k (h x).l wa wb wc hba
            have c0 := HF9.out.cell q0
            have c1 := HF9.out.cell q1
            have c2 := HF9.out.cell q2'
            have c3 := HF9.out.cell q3
            have c4 := HF9.out.cell q4
            generalize h x = r at *
            obtain ⟨rd, ra, rb, rc, rg, rn, rk, rl⟩ := r
            clear hcg q0 q1 q2' q3 q4 wa wb wc hba
            go_wp2_with fail
            refine c.mono ?_
            rintro e w10 ⟨rfl, N2, hf⟩
            have HF10 : Hid (Fam w w10 [PH p M2, GH q M2, PH p2 N2, GH q2 N2]) := hf
            clear hf c c0 c1 c2 c3 c4 HF9
            go_wp2_with fail
            exact ⟨⟨x + 1, M2, N2, by omega, by go_num, HF10.out⟩, by simp [intOf]; omega⟩
          · have ht1 : ¬ (x : Int) < tn := by omega
            go_wp2_with fail
            exact ⟨⟨x + 1, M2, N1, by omega, by go_num, HF9.out⟩, by simp [intOf]; omega⟩
        · have hm1 : ¬ (x : Int) < mn := by omega
          have ht : x < tn := by omega
          have ht1 : (x : Int) < tn := by omega
          rcases HD3.out.2 with h0 | ⟨b1, o1, rfl, hcg⟩
          · omega
          obtain ⟨q0, q1, q2', q3, q4, wa, wb, wc, hba⟩ := hcg x ht
          have c := odo_any HF.out 2 3 rfl rfl (by decide) (h x).d (h x).a (h x).b (h x).c (h x).g (h x).n (h x).k (h x).l wa wb wc hba
          have c0 := HF.out.cell q0
          have c1 := HF.out.cell q1
          have c2 := HF.out.cell q2'
          have c3 := HF.out.cell q3
          have c4 := HF.out.cell q4
          generalize h x = r at *
          obtain ⟨rd, ra, rb, rc, rg, rn, rk, rl⟩ := r
          clear hcg q0 q1 q2' q3 q4 wa wb wc hba
          go_wp2_with fail
          refine c.mono ?_
          rintro e w10 ⟨rfl, N2, hf⟩
          have HF10 : Hid (Fam w w10 [PH p M1, GH q M1, PH p2 N2, GH q2 N2]) := hf
          clear hf c c0 c1 c2 c3 c4 HF
          go_wp2_with fail
          exact ⟨⟨x + 1, M1, N2, by omega, by go_num, HF10.out⟩, by simp [intOf]; omega⟩
      · have hend : (60 ≤ x) ∨ (x < 60 ∧ mn ≤ x ∧ tn ≤ x) := by omega
        obtain ⟨hKM, LP, XP, hpp⟩ := HF.out.ph 0 rfl
        obtain ⟨hKN, LC, XC, hpc⟩ := HF.out.ph 2 rfl
        have HKM := Lib.hid hKM
        have HKN := Lib.hid hKN
        have ca := alike_rep wr hpp hKM hpc hKN
        have HEQ := Lib.hid (alike_both hKM hKN)
        clear hc hpp hpc hKM hKN
        rcases hend with h1 | ⟨h1, h2, h3⟩
        · have hx2 : ¬ (x : Int) < 60 := by omega
          clear h1
          go_wp2_with fail
          refine ca.mono ?_
          rintro e u1 ⟨rb, rfl, hrb, ho⟩
          have HF1 := Lib.hid (HF.out.only0 ho)
          have HRB := Lib.hid hrb
          obtain ⟨_, LG, XG, hgg⟩ := HF1.out.gh 1 rfl
          obtain ⟨_, LH, XH, hgh⟩ := HF1.out.gh 3 rfl
          have cb := galike_rep u1 hgg hgh HKM.out HKN.out
          clear hrb ho ca HF hgg hgh
          go_wp2_with fail
          refine cb.mono ?_
          rintro e u2 ⟨rb2, rfl, hrb2, ho⟩
          have HF2 := Lib.hid (HF1.out.only0 ho)
          have h3 := HRB.out.trans (HEQ.out.trans hrb2.symm)
          obtain rfl : rb = rb2 := by
            cases rb <;> cases rb2
            · rfl
            · exact absurd (h3.2 rfl) (by simp)
            · exact absurd (h3.1 rfl) (by simp)
            · rfl
          clear h3
          clear hrb2 ho cb HF1 HRB HEQ
          obtain ⟨_, LP, XP, hpp⟩ := HF2.out.ph 0 rfl
          have c1 := hpool_rep u2 hpp
          clear hpp
          go_wp2_with fail
          refine c1.mono ?_
          rintro e u3 ⟨pa, ba, rfl, hpa, ho, _, _⟩
          have HF3 := Lib.hid (HF2.out.only0 ho)
          have HPA := Lib.hid hpa
          clear hpa ho c1 HF2
          obtain ⟨_, LG, XG, hgg⟩ := HF3.out.gh 1 rfl
          have c2 := gpool_rep u3 hgg
          clear hgg
          go_wp2_with fail
          refine c2.mono ?_
          rintro e u4 ⟨qa, ka, ca', la, rfl, hqa, ho, _, _, _, _⟩
          have HF4 := Lib.hid (HF3.out.only0 ho)
          have c3 := samePool_any u4 (HPA.out.only ho (by simp) (by simp)) hqa HKM.out.p rfl (fun _ => rfl) (fun _ => rfl) (fun _ => rfl)
          clear hqa ho c2 HF3 HPA
          go_wp2_with fail
          refine c3.mono ?_
          rintro e u5 ⟨rfl, hdr⟩
          have HF5 := Lib.hid (HF4.out.only0 (hdr.only []))
          clear hdr c3 HF4
          obtain ⟨_, LP, XP, hpp⟩ := HF5.out.ph 2 rfl
          have c1 := hpool_rep u5 hpp
          clear hpp
          go_wp2_with fail
          refine c1.mono ?_
          rintro e u6 ⟨pa, ba, rfl, hpa, ho, _, _⟩
          have HF6 := Lib.hid (HF5.out.only0 ho)
          have HPA := Lib.hid hpa
          clear hpa ho c1 HF5
          obtain ⟨_, LG, XG, hgg⟩ := HF6.out.gh 3 rfl
          have c2 := gpool_rep u6 hgg
          clear hgg
          go_wp2_with fail
          refine c2.mono ?_
          rintro e u7 ⟨qa, ka, ca', la, rfl, hqa, ho, _, _, _, _⟩
          have HF7 := Lib.hid (HF6.out.only0 ho)
          have c3 := samePool_any u7 (HPA.out.only ho (by simp) (by simp)) hqa HKN.out.p rfl (fun _ => rfl) (fun _ => rfl) (fun _ => rfl)
          clear hqa ho c2 HF6 HPA
          go_wp2_with fail
          refine c3.mono ?_
          rintro e u8 ⟨rfl, hdr⟩
          have HF8 := Lib.hid (HF7.out.only0 (hdr.only []))
          clear hdr c3 HF7
          have cs := osane_any u8
          go_wp2_with fail
          refine cs.mono ?_
          rintro e u99 ⟨rfl, ho⟩
          have HE : Hid (Below w.heap.size w u99) := (HF8.out.only.trans ho (by simp)).bel
          clear ho cs
          go_wp2_with fail
          exact hR.out _ _ ⟨rfl, HE.out⟩
        · have hx2 : (x : Int) < 60 := by omega
          have hm1 : ¬ (x : Int) < mn := by omega
          have ht1 : ¬ (x : Int) < tn := by omega
          clear h1 h2 h3
          go_wp2_with fail
          refine ca.mono ?_
          rintro e u1 ⟨rb, rfl, hrb, ho⟩
          have HF1 := Lib.hid (HF.out.only0 ho)
          have HRB := Lib.hid hrb
          obtain ⟨_, LG, XG, hgg⟩ := HF1.out.gh 1 rfl
          obtain ⟨_, LH, XH, hgh⟩ := HF1.out.gh 3 rfl
          have cb := galike_rep u1 hgg hgh HKM.out HKN.out
          clear hrb ho ca HF hgg hgh
          go_wp2_with fail
          refine cb.mono ?_
          rintro e u2 ⟨rb2, rfl, hrb2, ho⟩
          have HF2 := Lib.hid (HF1.out.only0 ho)
          have h3 := HRB.out.trans (HEQ.out.trans hrb2.symm)
          obtain rfl : rb = rb2 := by
            cases rb <;> cases rb2
            · rfl
            · exact absurd (h3.2 rfl) (by simp)
            · exact absurd (h3.1 rfl) (by simp)
            · rfl
          clear h3
          clear hrb2 ho cb HF1 HRB HEQ
          obtain ⟨_, LP, XP, hpp⟩ := HF2.out.ph 0 rfl
          have c1 := hpool_rep u2 hpp
          clear hpp
          go_wp2_with fail
          refine c1.mono ?_
          rintro e u3 ⟨pa, ba, rfl, hpa, ho, _, _⟩
          have HF3 := Lib.hid (HF2.out.only0 ho)
          have HPA := Lib.hid hpa
          clear hpa ho c1 HF2
          obtain ⟨_, LG, XG, hgg⟩ := HF3.out.gh 1 rfl
          have c2 := gpool_rep u3 hgg
          clear hgg
          go_wp2_with fail
          refine c2.mono ?_
          rintro e u4 ⟨qa, ka, ca', la, rfl, hqa, ho, _, _, _, _⟩
          have HF4 := Lib.hid (HF3.out.only0 ho)
          have c3 := samePool_any u4 (HPA.out.only ho (by simp) (by simp)) hqa HKM.out.p rfl (fun _ => rfl) (fun _ => rfl) (fun _ => rfl)
          clear hqa ho c2 HF3 HPA
          go_wp2_with fail
          refine c3.mono ?_
          rintro e u5 ⟨rfl, hdr⟩
          have HF5 := Lib.hid (HF4.out.only0 (hdr.only []))
          clear hdr c3 HF4
          obtain ⟨_, LP, XP, hpp⟩ := HF5.out.ph 2 rfl
          have c1 := hpool_rep u5 hpp
          clear hpp
          go_wp2_with fail
          refine c1.mono ?_
          rintro e u6 ⟨pa, ba, rfl, hpa, ho, _, _⟩
          have HF6 := Lib.hid (HF5.out.only0 ho)
          have HPA := Lib.hid hpa
          clear hpa ho c1 HF5
          obtain ⟨_, LG, XG, hgg⟩ := HF6.out.gh 3 rfl
          have c2 := gpool_rep u6 hgg
          clear hgg
          go_wp2_with fail
          refine c2.mono ?_
          rintro e u7 ⟨qa, ka, ca', la, rfl, hqa, ho, _, _, _, _⟩
          have HF7 := Lib.hid (HF6.out.only0 ho)
          have c3 := samePool_any u7 (HPA.out.only ho (by simp) (by simp)) hqa HKN.out.p rfl (fun _ => rfl) (fun _ => rfl) (fun _ => rfl)
          clear hqa ho c2 HF6 HPA
          go_wp2_with fail
          refine c3.mono ?_
          rintro e u8 ⟨rfl, hdr⟩
          have HF8 := Lib.hid (HF7.out.only0 (hdr.only []))
          clear hdr c3 HF7
          have cs := osane_any u8
          go_wp2_with fail
          refine cs.mono ?_
          rintro e u99 ⟨rfl, ho⟩
          have HE : Hid (Below w.heap.size w u99) := (HF8.out.only.trans ho (by simp)).bel
          clear ho cs
          go_wp2_with fail
          exact hR.out _ _ ⟨rfl, HE.out⟩
end Go.Proofs.Ytcdeikbehpepjaa
