/- Law ObjectUndone: the walk. -/
import Derived.Test.YtcdeikbehpepjaaOPool
namespace Go.Proofs.Ytcdeikbehpepjaa
open Go.RowKit Go.Maps
set_option maxHeartbeats 12800000
set_option maxRecDepth 100000
set_option linter.unusedVariables false
/-- What a new object does that is released at once. -/
structure Undoes (M : Hp) (r : Int × Int × Hp) : Prop where
  no : r.2.1 ≠ 0 → r.2.2 = M
  none : r.2.1 = 0 → M.ob r.1 = none
  some1 : r.2.1 = 0 → (r.2.2.ob r.1).isSome = true
  rel : r.2.1 = 0 → ∃ P', r.2.2.release r.1 = (0, ⟨P', M.ob⟩) ∧ Pl.Eqv P' M.P
theorem undoes_add {M : Hp} {o : Th} (hk : M.Ok) (ho : o.ok1) (hz : ∀ s, gI o.slots s = 0) : Undoes M (M.add o) := by
  refine ⟨fun h => ?_, fun h => (hk.undone ho hz h).1, fun h => (hk.undone ho hz h).2.1, fun h => ⟨_, (hk.undone ho hz h).2.2.1, (hk.undone ho hz h).2.2.2⟩⟩
  unfold Hp.add at h ⊢
  split
  · split
    · rename_i e1 _ _ _ e2
      rw [if_pos e1, e2] at h
      exact absurd rfl h
    · rfl
  · rfl
theorem undoes_bad {M : Hp} : Undoes M (0, 1, M) := ⟨fun _ => rfl, fun h => (by cases h), fun h => (by cases h), fun h => (by cases h)⟩
theorem undoes_newObject {M : Hp} (hk : M.Ok) (c : Int) (l : List Bool) : Undoes M (M.newObject c l) := by
  unfold Hp.newObject
  split
  · exact undoes_bad
  · rename_i h
    have := objT_ok h
    exact undoes_add hk this.1 this.2
theorem undoes_newArray {M : Hp} (hk : M.Ok) (k c n : Int) : Undoes M (M.newArray k c n) := by
  unfold Hp.newArray
  split
  · exact undoes_bad
  · split
    · rename_i h1 h2
      have := arrT_ok h1 h2
      exact undoes_add hk this.1 this.2
    · exact undoes_bad
theorem likeT_refl (o : Th) : likeT o o = true := by unfold likeT; simp
theorem alikeM_of {M N : Hp} (h : N.ob = M.ob) : AlikeM N M := fun k _ => ⟨by rw [h], fun o o2 h1 h2 => by rw [h] at h1; rw [h1] at h2; cases h2; exact likeT_refl o⟩
theorem alikeM_not {M N : Hp} {k : Int} (hk : wfI k) (h1 : M.ob k = none) (h2 : (N.ob k).isSome = true) : ¬ AlikeM N M := fun h => by
  have := (h k hk).1
  rw [h1, h2] at this
  cases this
theorem Hp.Ok.wfOf {M : Hp} (hk : M.Ok) {k : Int} (h : (M.ob k).isSome = true) : wfI k := by
  obtain ⟨o, ho⟩ := Option.isSome_iff_exists.1 h
  have := hk.hr k o ho
  exact wfI_mk (by omega)
theorem Pl.Eqv.refl {P : Pl} : Pl.Eqv P P := ⟨rfl, fun _ _ => rfl, fun _ _ _ => rfl, fun _ _ _ _ _ _ _ _ => rfl⟩
theorem Pl.Eqv.same {P Q : Pl} (h : Pl.Eqv P Q) (hP : P.ok) : P.same Q = true := allN_iff.2 (fun i hi => h.pgSame hP i hi)
theorem bel2 {w w1 w2 w3 : World} (h1 : Only [] w w1) (h2 : Only [] w1 w2) (h3 : Only [] w2 w3) : Below w.heap.size w w3 := ((h1.trans h2 (by simp)).trans h3 (by simp)).bel
theorem walk_ObjectUndone (pages : Int) (ob : Option Addr) (on cap : Nat) (f : Nat → OpR) (d a b c : Int) (g : Option Addr) (n k : Nat) (bl : List Bool) (w : World) (wp : (Lit.int .i64 pages).wf = true) (hd : Ops w ob on f) (wa : (Lit.int .i64 a).wf = true) (wb : (Lit.int .i64 b).wf = true) (wc : (Lit.int .i64 c).wf = true) (hba : BCap w g n k bl) :
    Calls Try.prog 5 #[.int .i64 pages, .slice ob on cap, .agg #[.int .i64 d, .int .i64 a, .int .i64 b, .int .i64 c, .slice g n k]] w fun e w' => e = .returned (.bool true) ∧ Below w.heap.size w w' := by
  refine calls_abs fun R hR => ?_
  have HRo : Hid (Row (w.alloc (.cells #[.int .i64 d, .int .i64 a, .int .i64 b, .int .i64 c, .slice g n k] 55)) w.heap.size 55 [.int .i64 d, .int .i64 a, .int .i64 b, .int .i64 c, .slice g n k]) := Row.new w 55 [_, _, _, _, _]
  have HW1 : Hid (Only [] w (w.alloc (.cells #[.int .i64 d, .int .i64 a, .int .i64 b, .int .i64 c, .slice g n k] 55))) := (Only.refl [] w).alloc _
  have HBA := Lib.hid hba
  have cp := oplay_any (w.alloc (.cells #[.int .i64 d, .int .i64 a, .int .i64 b, .int .i64 c, .slice g n k] 55)) pages ob on cap f (hd.only HW1.out)
  clear hd wp wa wb wc hba
  go_enter Try.func5, Try.ntmps5
  go_wp2_with fail
  refine cp.mono ?_
  rintro e w2 ⟨vp, vq, rfl, hpl⟩
  generalize (w.alloc (.cells #[.int .i64 d, .int .i64 a, .int .i64 b, .int .i64 c, .slice g n k] 55)) = w1 at *
  obtain ⟨y, hy⟩ : ∃ z, z = w.heap.size := ⟨_, rfl⟩
  rw [← hy] at HRo ⊢
  have HY := Lib.hid hy
  have HO2 : Hid (Only [] w1 w2) := hpl.only
  have HR2 : Hid (Row w2 y 55 [.int .i64 d, .int .i64 a, .int .i64 b, .int .i64 c, .slice g n k]) := HO2.out.row HRo.out (by simp)
  have r0 := HR2.out.cell 0 rfl
  have r4 := HR2.out.cell 4 rfl
  clear hy cp
  rcases hpl with ⟨rfl, rfl, _⟩ | ⟨p, q, M, rfl, rfl, hF⟩
  · have cs := osane_any w2
    go_wp2_with fail
    refine cs.mono ?_
    rintro e w9 ⟨rfl, ho⟩
    have HE : Hid (Below w.heap.size w w9) := bel2 HW1.out HO2.out ho
    clear ho cs
    go_wp2_with fail
    exact hR.out _ _ ⟨rfl, HE.out⟩
  · have HF := Lib.hid hF
    clear hF
    by_cases hbad : (¬ d = 1 ∧ ¬ d = 2) ∨ 20 < n
    · have cs := osane_any w2
      by_cases h1 : d = 1
      · subst h1
        have h20 : (20 : Int) < n := by rcases hbad with h | h; exact absurd rfl h.1; omega
        clear hbad
        go_wp2_with fail
        refine cs.mono ?_
        rintro e w9 ⟨rfl, ho⟩
        have HE : Hid (Below w.heap.size w w9) := bel2 HW1.out HO2.out ho
        clear ho cs
        go_wp2_with fail
        exact hR.out _ _ ⟨rfl, HE.out⟩
      · by_cases h2 : d = 2
        · subst h2
          have h20 : (20 : Int) < n := by rcases hbad with h | h; exact absurd rfl h.2; omega
          clear hbad
          go_wp2_with fail
          refine cs.mono ?_
          rintro e w9 ⟨rfl, ho⟩
          have HE : Hid (Below w.heap.size w w9) := bel2 HW1.out HO2.out ho
          clear ho cs
          go_wp2_with fail
          exact hR.out _ _ ⟨rfl, HE.out⟩
        · clear hbad
          go_wp2_with fail
          refine cs.mono ?_
          rintro e w9 ⟨rfl, ho⟩
          have HE : Hid (Below w.heap.size w w9) := bel2 HW1.out HO2.out ho
          clear ho cs
          go_wp2_with fail
          exact hR.out _ _ ⟨rfl, HE.out⟩
    · obtain ⟨hKM, L, X, hp⟩ := HF.out.ph 0 rfl
      have HKM := Lib.hid hKM
      have cc := hcopy_rep w2 hp hKM
      have h20 : ¬ (20 : Int) < n := by omega
      have HN20 := Lib.hid (show n ≤ 20 by omega)
      have hd12 : d = 1 ∨ d = 2 := Classical.byContradiction (fun e => hbad (.inl ⟨fun h => e (.inl h), fun h => e (.inr h)⟩))
      clear hp hKM hbad
      rcases hd12 with rfl | rfl
      · go_wp2_with fail
        refine cc.mono ?_
        rintro e w3 ⟨pw, L2, X2, rfl, hpw, hL2, ho⟩
        have HF3 : Hid (Fam w1 w3 [PH p M, GH q M, PH pw M]) := HF.out.add (pborn hpw HKM.out hL2 ho)
        have hr3 := HF3.out.only.row HRo.out (by simp)
        have r0 := hr3.cell 0 rfl
        have r1 := hr3.cell 1 rfl
        have r4 := hr3.cell 4 rfl
        clear hpw hL2 ho cc hr3 HF
        have cn := HF3.out.pstep 0 rfl (fun hk => hk.newObject a bl) (fun L X hr hk => newObject_rep w3 hr hk a _ bl (HBA.out.barg.only (HW1.out.trans HF3.out.only (by simp))) (by have := HN20.out; have := HBA.out.len; omega))
        have HU := Lib.hid (undoes_newObject HKM.out a bl)
        generalize M.newObject a bl = r at *
        obtain ⟨hn, er, N1⟩ := r
        go_wp2_with fail
        refine cn.mono ?_
        rintro e w4 ⟨rfl, hf4⟩
        have HF4 : Hid (Fam w1 w4 [PH p N1, GH q M, PH pw M]) := hf4
        clear hf4 cn HF3 r0 r1 r4
        by_cases her : er = 0
        · subst her
          obtain ⟨hKN1, LN, XN, hpn⟩ := HF4.out.ph 0 rfl
          obtain ⟨_, LC, XC, hpc⟩ := HF4.out.ph 2 rfl
          have HS := Lib.hid (HU.out.some1 rfl)
          have ca := alike_rep w4 hpn hKN1 hpc HKM.out
          have HNA : Hid (¬ AlikeM N1 M) := alikeM_not (hKN1.wfOf HS.out) (HU.out.none rfl) HS.out
          have HWN : Hid (wfI hn) := hKN1.wfOf HS.out
          clear hpn hpc hKN1
          go_wp2_with fail
          refine ca.mono ?_
          rintro e w5 ⟨rb, rfl, hrb, ho⟩
          obtain rfl : rb = false := by
            cases rb with
            | false => rfl
            | true => exact absurd (hrb.1 rfl) HNA.out
          have HF5 := Lib.hid (HF4.out.only0 ho)
          have cr := HF5.out.pstep 0 rfl (fun hk => hk.release hn) (fun L X hr hk => release_rep w5 hr hk hn HWN.out)
          obtain ⟨P', hrel, heqv⟩ := HU.out.rel rfl
          simp only at hrel heqv
          rw [hrel] at cr
          have HEQ : Hid (Pl.Eqv (⟨P', M.ob⟩ : Hp).P M.P) := heqv
          have HAL : Hid (AlikeM ⟨P', M.ob⟩ M) := alikeM_of rfl
          clear hrel heqv hrb ho ca HF4
          generalize (⟨P', M.ob⟩ : Hp) = N at *
          go_wp2_with fail
          refine cr.mono ?_
          rintro e w6 ⟨rfl, hf6⟩
          have HF6 : Hid (Fam w1 w6 [PH p N, GH q M, PH pw M]) := hf6
          obtain ⟨hKN, LN, XN, hpn⟩ := HF6.out.ph 0 rfl
          obtain ⟨_, LC, XC, hpc⟩ := HF6.out.ph 2 rfl
          obtain ⟨_, LG, XG, hpg⟩ := HF6.out.gh 1 rfl
          have HKN := Lib.hid hKN
          have HP := Lib.hid hpn
          have HC := Lib.hid hpc
          have HG := Lib.hid hpg
          have HO : Hid (Only [] w1 w6) := HF6.out.only
          clear hf6 cr HF5 HF6 hKN hpn hpc hpg
          have c := alike_rep w6 HP.out HKN.out HC.out HKM.out
          go_wp2_with fail
          refine c.mono ?_
          rintro e u1 ⟨rb, rfl, hrb, ho⟩
          obtain rfl : rb = true := hrb.2 HAL.out
          clear hrb
          have HP1 := Lib.hid (HP.out.only0 ho)
          have HC1 := Lib.hid (HC.out.only0 ho)
          have HG1 := Lib.hid (HG.out.only0 ho)
          have HO1 : Hid (Only [] w1 u1) := HO.out.trans ho (by simp)
          clear c ho HP HC HG HO
          have c := hpool_rep u1 HP1.out
          go_wp2_with fail
          refine c.mono ?_
          rintro e u2 ⟨p1, b1, rfl, hp1, ho, _, _⟩
          have QA0 := Lib.hid hp1
          clear hp1
          have HP2 := Lib.hid (HP1.out.only0 ho)
          have HC2 := Lib.hid (HC1.out.only0 ho)
          have HG2 := Lib.hid (HG1.out.only0 ho)
          have HO2 : Hid (Only [] w1 u2) := HO1.out.trans ho (by simp)
          clear c ho HP1 HC1 HG1 HO1
          have c := hpool_rep u2 HC2.out
          go_wp2_with fail
          refine c.mono ?_
          rintro e u3 ⟨p2, b2, rfl, hp2, ho, _, _⟩
          have QB0 := Lib.hid hp2
          clear hp2
          have HP3 := Lib.hid (HP2.out.only0 ho)
          have HC3 := Lib.hid (HC2.out.only0 ho)
          have HG3 := Lib.hid (HG2.out.only0 ho)
          have HO3 : Hid (Only [] w1 u3) := HO2.out.trans ho (by simp)
          have QA03 := Lib.hid (QA0.out.only ho (by simp) (by simp))
          clear c ho HP2 HC2 HG2 HO2
          have c0 := same_rep u3 p1 b1 N.P QA03.out p2 b2 M.P QB0.out HEQ.out.n.symm
          rw [HEQ.out.same HKN.out.p] at c0
          have c := c0
          go_wp2_with fail
          refine c.mono ?_
          rintro e u4 ⟨rfl, hd⟩
          have ho := hd.only []
          clear hd c0
          have HP4 := Lib.hid (HP3.out.only0 ho)
          have HC4 := Lib.hid (HC3.out.only0 ho)
          have HG4 := Lib.hid (HG3.out.only0 ho)
          have HO4 : Hid (Only [] w1 u4) := HO3.out.trans ho (by simp)
          clear c ho HP3 HC3 HG3 HO3
          have c := hpool_rep u4 HP4.out
          go_wp2_with fail
          refine c.mono ?_
          rintro e u5 ⟨p3, b3, rfl, hp3, ho, _, _⟩
          have QC0 := Lib.hid hp3
          clear hp3
          have HP5 := Lib.hid (HP4.out.only0 ho)
          have HC5 := Lib.hid (HC4.out.only0 ho)
          have HG5 := Lib.hid (HG4.out.only0 ho)
          have HO5 : Hid (Only [] w1 u5) := HO4.out.trans ho (by simp)
          clear c ho HP4 HC4 HG4 HO4
          have c := gpool_rep u5 HG5.out
          go_wp2_with fail
          refine c.mono ?_
          rintro e u6 ⟨q4, k4, c4, l4, rfl, hp4, ho, _, _, _, _⟩
          have QD0 := Lib.hid hp4
          clear hp4
          have HP6 := Lib.hid (HP5.out.only0 ho)
          have HC6 := Lib.hid (HC5.out.only0 ho)
          have HG6 := Lib.hid (HG5.out.only0 ho)
          have HO6 : Hid (Only [] w1 u6) := HO5.out.trans ho (by simp)
          have QC06 := Lib.hid (QC0.out.only ho (by simp) (by simp))
          clear c ho HP5 HC5 HG5 HO5
          have c := samePool_any u6 QC06.out QD0.out HKM.out.p HEQ.out.n HEQ.out.class HEQ.out.begin (HEQ.out.cellEq HKN.out.p)
          go_wp2_with fail
          refine c.mono ?_
          rintro e u7 ⟨rfl, hd⟩
          have ho := hd.only []
          clear hd
          have HP7 := Lib.hid (HP6.out.only0 ho)
          have HC7 := Lib.hid (HC6.out.only0 ho)
          have HG7 := Lib.hid (HG6.out.only0 ho)
          have HO7 : Hid (Only [] w1 u7) := HO6.out.trans ho (by simp)
          clear c ho HP6 HC6 HG6 HO6
          have c := osane_any u7
          go_wp2_with fail
          refine c.mono ?_
          rintro e u99 ⟨rfl, ho⟩
          have HE : Hid (Below w.heap.size w u99) := bel2 HW1.out HO7.out ho
          clear ho c
          go_wp2_with fail
          exact hR.out _ _ ⟨rfl, HE.out⟩
        · obtain rfl : N1 = M := HU.out.no her
          obtain ⟨_, LN, XN, hpn⟩ := HF4.out.ph 0 rfl
          obtain ⟨_, LC, XC, hpc⟩ := HF4.out.ph 2 rfl
          obtain ⟨_, LG, XG, hpg⟩ := HF4.out.gh 1 rfl
          obtain ⟨N, hNM⟩ : ∃ N, N = N1 := ⟨_, rfl⟩
          have HEQ : Hid (Pl.Eqv N.P N1.P) := by show Pl.Eqv _ _; rw [hNM]; exact Pl.Eqv.refl
          have HAL : Hid (AlikeM N N1) := alikeM_of (by rw [hNM])
          have HKN : Hid N.Ok := by show N.Ok; rw [hNM]; exact HKM.out
          have HP : Hid (HRep w4 LN p N XN) := by show HRep _ _ _ _ _; rw [hNM]; exact hpn
          have HC := Lib.hid hpc
          have HG := Lib.hid hpg
          have HO : Hid (Only [] w1 w4) := HF4.out.only
          clear HF4 hpn hpc hpg hNM
          have c := alike_rep w4 HP.out HKN.out HC.out HKM.out
          go_wp2_with fail
          refine c.mono ?_
          rintro e u1 ⟨rb, rfl, hrb, ho⟩
          obtain rfl : rb = true := hrb.2 HAL.out
          clear hrb
          have HP1 := Lib.hid (HP.out.only0 ho)
          have HC1 := Lib.hid (HC.out.only0 ho)
          have HG1 := Lib.hid (HG.out.only0 ho)
          have HO1 : Hid (Only [] w1 u1) := HO.out.trans ho (by simp)
          clear c ho HP HC HG HO
          have c := hpool_rep u1 HP1.out
          go_wp2_with fail
          refine c.mono ?_
          rintro e u2 ⟨p1, b1, rfl, hp1, ho, _, _⟩
          have QA0 := Lib.hid hp1
          clear hp1
          have HP2 := Lib.hid (HP1.out.only0 ho)
          have HC2 := Lib.hid (HC1.out.only0 ho)
          have HG2 := Lib.hid (HG1.out.only0 ho)
          have HO2 : Hid (Only [] w1 u2) := HO1.out.trans ho (by simp)
          clear c ho HP1 HC1 HG1 HO1
          have c := hpool_rep u2 HC2.out
          go_wp2_with fail
          refine c.mono ?_
          rintro e u3 ⟨p2, b2, rfl, hp2, ho, _, _⟩
          have QB0 := Lib.hid hp2
          clear hp2
          have HP3 := Lib.hid (HP2.out.only0 ho)
          have HC3 := Lib.hid (HC2.out.only0 ho)
          have HG3 := Lib.hid (HG2.out.only0 ho)
          have HO3 : Hid (Only [] w1 u3) := HO2.out.trans ho (by simp)
          have QA03 := Lib.hid (QA0.out.only ho (by simp) (by simp))
          clear c ho HP2 HC2 HG2 HO2
          have c0 := same_rep u3 p1 b1 N.P QA03.out p2 b2 N1.P QB0.out HEQ.out.n.symm
          rw [HEQ.out.same HKN.out.p] at c0
          have c := c0
          go_wp2_with fail
          refine c.mono ?_
          rintro e u4 ⟨rfl, hd⟩
          have ho := hd.only []
          clear hd c0
          have HP4 := Lib.hid (HP3.out.only0 ho)
          have HC4 := Lib.hid (HC3.out.only0 ho)
          have HG4 := Lib.hid (HG3.out.only0 ho)
          have HO4 : Hid (Only [] w1 u4) := HO3.out.trans ho (by simp)
          clear c ho HP3 HC3 HG3 HO3
          have c := hpool_rep u4 HP4.out
          go_wp2_with fail
          refine c.mono ?_
          rintro e u5 ⟨p3, b3, rfl, hp3, ho, _, _⟩
          have QC0 := Lib.hid hp3
          clear hp3
          have HP5 := Lib.hid (HP4.out.only0 ho)
          have HC5 := Lib.hid (HC4.out.only0 ho)
          have HG5 := Lib.hid (HG4.out.only0 ho)
          have HO5 : Hid (Only [] w1 u5) := HO4.out.trans ho (by simp)
          clear c ho HP4 HC4 HG4 HO4
          have c := gpool_rep u5 HG5.out
          go_wp2_with fail
          refine c.mono ?_
          rintro e u6 ⟨q4, k4, c4, l4, rfl, hp4, ho, _, _, _, _⟩
          have QD0 := Lib.hid hp4
          clear hp4
          have HP6 := Lib.hid (HP5.out.only0 ho)
          have HC6 := Lib.hid (HC5.out.only0 ho)
          have HG6 := Lib.hid (HG5.out.only0 ho)
          have HO6 : Hid (Only [] w1 u6) := HO5.out.trans ho (by simp)
          have QC06 := Lib.hid (QC0.out.only ho (by simp) (by simp))
          clear c ho HP5 HC5 HG5 HO5
          have c := samePool_any u6 QC06.out QD0.out HKM.out.p HEQ.out.n HEQ.out.class HEQ.out.begin (HEQ.out.cellEq HKN.out.p)
          go_wp2_with fail
          refine c.mono ?_
          rintro e u7 ⟨rfl, hd⟩
          have ho := hd.only []
          clear hd
          have HP7 := Lib.hid (HP6.out.only0 ho)
          have HC7 := Lib.hid (HC6.out.only0 ho)
          have HG7 := Lib.hid (HG6.out.only0 ho)
          have HO7 : Hid (Only [] w1 u7) := HO6.out.trans ho (by simp)
          clear c ho HP6 HC6 HG6 HO6
          have c := osane_any u7
          go_wp2_with fail
          refine c.mono ?_
          rintro e u99 ⟨rfl, ho⟩
          have HE : Hid (Below w.heap.size w u99) := bel2 HW1.out HO7.out ho
          clear ho c
          go_wp2_with fail
          exact hR.out _ _ ⟨rfl, HE.out⟩
      · go_wp2_with fail
        refine cc.mono ?_
        rintro e w3 ⟨pw, L2, X2, rfl, hpw, hL2, ho⟩
        have HF3 : Hid (Fam w1 w3 [PH p M, GH q M, PH pw M]) := HF.out.add (pborn hpw HKM.out hL2 ho)
        have hr3 := HF3.out.only.row HRo.out (by simp)
        have r0 := hr3.cell 0 rfl
        have r1 := hr3.cell 1 rfl
        have r2 := hr3.cell 2 rfl
        have r3 := hr3.cell 3 rfl
        clear hpw hL2 ho cc hr3 HF
        have cn := HF3.out.pstep 0 rfl (fun hk => hk.newArray a b c) (fun L X hr hk => newArray_rep w3 hr hk a b c)
        have HU := Lib.hid (undoes_newArray HKM.out a b c)
        generalize M.newArray a b c = r at *
        obtain ⟨hn, er, N1⟩ := r
        go_wp2_with fail
        refine cn.mono ?_
        rintro e w4 ⟨rfl, hf4⟩
        have HF4 : Hid (Fam w1 w4 [PH p N1, GH q M, PH pw M]) := hf4
        clear hf4 cn HF3 r0 r1 r2 r3 r4
        by_cases her : er = 0
        · subst her
          obtain ⟨hKN1, LN, XN, hpn⟩ := HF4.out.ph 0 rfl
          obtain ⟨_, LC, XC, hpc⟩ := HF4.out.ph 2 rfl
          have HS := Lib.hid (HU.out.some1 rfl)
          have ca := alike_rep w4 hpn hKN1 hpc HKM.out
          have HNA : Hid (¬ AlikeM N1 M) := alikeM_not (hKN1.wfOf HS.out) (HU.out.none rfl) HS.out
          have HWN : Hid (wfI hn) := hKN1.wfOf HS.out
          clear hpn hpc hKN1
          go_wp2_with fail
          refine ca.mono ?_
          rintro e w5 ⟨rb, rfl, hrb, ho⟩
          obtain rfl : rb = false := by
            cases rb with
            | false => rfl
            | true => exact absurd (hrb.1 rfl) HNA.out
          have HF5 := Lib.hid (HF4.out.only0 ho)
          have cr := HF5.out.pstep 0 rfl (fun hk => hk.release hn) (fun L X hr hk => release_rep w5 hr hk hn HWN.out)
          obtain ⟨P', hrel, heqv⟩ := HU.out.rel rfl
          simp only at hrel heqv
          rw [hrel] at cr
          have HEQ : Hid (Pl.Eqv (⟨P', M.ob⟩ : Hp).P M.P) := heqv
          have HAL : Hid (AlikeM ⟨P', M.ob⟩ M) := alikeM_of rfl
          clear hrel heqv hrb ho ca HF4
          generalize (⟨P', M.ob⟩ : Hp) = N at *
          go_wp2_with fail
          refine cr.mono ?_
          rintro e w6 ⟨rfl, hf6⟩
          have HF6 : Hid (Fam w1 w6 [PH p N, GH q M, PH pw M]) := hf6
          obtain ⟨hKN, LN, XN, hpn⟩ := HF6.out.ph 0 rfl
          obtain ⟨_, LC, XC, hpc⟩ := HF6.out.ph 2 rfl
          obtain ⟨_, LG, XG, hpg⟩ := HF6.out.gh 1 rfl
          have HKN := Lib.hid hKN
          have HP := Lib.hid hpn
          have HC := Lib.hid hpc
          have HG := Lib.hid hpg
          have HO : Hid (Only [] w1 w6) := HF6.out.only
          clear hf6 cr HF5 HF6 hKN hpn hpc hpg
          have c := alike_rep w6 HP.out HKN.out HC.out HKM.out
          go_wp2_with fail
          refine c.mono ?_
          rintro e u1 ⟨rb, rfl, hrb, ho⟩
          obtain rfl : rb = true := hrb.2 HAL.out
          clear hrb
          have HP1 := Lib.hid (HP.out.only0 ho)
          have HC1 := Lib.hid (HC.out.only0 ho)
          have HG1 := Lib.hid (HG.out.only0 ho)
          have HO1 : Hid (Only [] w1 u1) := HO.out.trans ho (by simp)
          clear c ho HP HC HG HO
          have c := hpool_rep u1 HP1.out
          go_wp2_with fail
          refine c.mono ?_
          rintro e u2 ⟨p1, b1, rfl, hp1, ho, _, _⟩
          have QA0 := Lib.hid hp1
          clear hp1
          have HP2 := Lib.hid (HP1.out.only0 ho)
          have HC2 := Lib.hid (HC1.out.only0 ho)
          have HG2 := Lib.hid (HG1.out.only0 ho)
          have HO2 : Hid (Only [] w1 u2) := HO1.out.trans ho (by simp)
          clear c ho HP1 HC1 HG1 HO1
          have c := hpool_rep u2 HC2.out
          go_wp2_with fail
          refine c.mono ?_
          rintro e u3 ⟨p2, b2, rfl, hp2, ho, _, _⟩
          have QB0 := Lib.hid hp2
          clear hp2
          have HP3 := Lib.hid (HP2.out.only0 ho)
          have HC3 := Lib.hid (HC2.out.only0 ho)
          have HG3 := Lib.hid (HG2.out.only0 ho)
          have HO3 : Hid (Only [] w1 u3) := HO2.out.trans ho (by simp)
          have QA03 := Lib.hid (QA0.out.only ho (by simp) (by simp))
          clear c ho HP2 HC2 HG2 HO2
          have c0 := same_rep u3 p1 b1 N.P QA03.out p2 b2 M.P QB0.out HEQ.out.n.symm
          rw [HEQ.out.same HKN.out.p] at c0
          have c := c0
          go_wp2_with fail
          refine c.mono ?_
          rintro e u4 ⟨rfl, hd⟩
          have ho := hd.only []
          clear hd c0
          have HP4 := Lib.hid (HP3.out.only0 ho)
          have HC4 := Lib.hid (HC3.out.only0 ho)
          have HG4 := Lib.hid (HG3.out.only0 ho)
          have HO4 : Hid (Only [] w1 u4) := HO3.out.trans ho (by simp)
          clear c ho HP3 HC3 HG3 HO3
          have c := hpool_rep u4 HP4.out
          go_wp2_with fail
          refine c.mono ?_
          rintro e u5 ⟨p3, b3, rfl, hp3, ho, _, _⟩
          have QC0 := Lib.hid hp3
          clear hp3
          have HP5 := Lib.hid (HP4.out.only0 ho)
          have HC5 := Lib.hid (HC4.out.only0 ho)
          have HG5 := Lib.hid (HG4.out.only0 ho)
          have HO5 : Hid (Only [] w1 u5) := HO4.out.trans ho (by simp)
          clear c ho HP4 HC4 HG4 HO4
          have c := gpool_rep u5 HG5.out
          go_wp2_with fail
          refine c.mono ?_
          rintro e u6 ⟨q4, k4, c4, l4, rfl, hp4, ho, _, _, _, _⟩
          have QD0 := Lib.hid hp4
          clear hp4
          have HP6 := Lib.hid (HP5.out.only0 ho)
          have HC6 := Lib.hid (HC5.out.only0 ho)
          have HG6 := Lib.hid (HG5.out.only0 ho)
          have HO6 : Hid (Only [] w1 u6) := HO5.out.trans ho (by simp)
          have QC06 := Lib.hid (QC0.out.only ho (by simp) (by simp))
          clear c ho HP5 HC5 HG5 HO5
          have c := samePool_any u6 QC06.out QD0.out HKM.out.p HEQ.out.n HEQ.out.class HEQ.out.begin (HEQ.out.cellEq HKN.out.p)
          go_wp2_with fail
          refine c.mono ?_
          rintro e u7 ⟨rfl, hd⟩
          have ho := hd.only []
          clear hd
          have HP7 := Lib.hid (HP6.out.only0 ho)
          have HC7 := Lib.hid (HC6.out.only0 ho)
          have HG7 := Lib.hid (HG6.out.only0 ho)
          have HO7 : Hid (Only [] w1 u7) := HO6.out.trans ho (by simp)
          clear c ho HP6 HC6 HG6 HO6
          have c := osane_any u7
          go_wp2_with fail
          refine c.mono ?_
          rintro e u99 ⟨rfl, ho⟩
          have HE : Hid (Below w.heap.size w u99) := bel2 HW1.out HO7.out ho
          clear ho c
          go_wp2_with fail
          exact hR.out _ _ ⟨rfl, HE.out⟩
        · obtain rfl : N1 = M := HU.out.no her
          obtain ⟨_, LN, XN, hpn⟩ := HF4.out.ph 0 rfl
          obtain ⟨_, LC, XC, hpc⟩ := HF4.out.ph 2 rfl
          obtain ⟨_, LG, XG, hpg⟩ := HF4.out.gh 1 rfl
          obtain ⟨N, hNM⟩ : ∃ N, N = N1 := ⟨_, rfl⟩
          have HEQ : Hid (Pl.Eqv N.P N1.P) := by show Pl.Eqv _ _; rw [hNM]; exact Pl.Eqv.refl
          have HAL : Hid (AlikeM N N1) := alikeM_of (by rw [hNM])
          have HKN : Hid N.Ok := by show N.Ok; rw [hNM]; exact HKM.out
          have HP : Hid (HRep w4 LN p N XN) := by show HRep _ _ _ _ _; rw [hNM]; exact hpn
          have HC := Lib.hid hpc
          have HG := Lib.hid hpg
          have HO : Hid (Only [] w1 w4) := HF4.out.only
          clear HF4 hpn hpc hpg hNM
          have c := alike_rep w4 HP.out HKN.out HC.out HKM.out
          go_wp2_with fail
          refine c.mono ?_
          rintro e u1 ⟨rb, rfl, hrb, ho⟩
          obtain rfl : rb = true := hrb.2 HAL.out
          clear hrb
          have HP1 := Lib.hid (HP.out.only0 ho)
          have HC1 := Lib.hid (HC.out.only0 ho)
          have HG1 := Lib.hid (HG.out.only0 ho)
          have HO1 : Hid (Only [] w1 u1) := HO.out.trans ho (by simp)
          clear c ho HP HC HG HO
          have c := hpool_rep u1 HP1.out
          go_wp2_with fail
          refine c.mono ?_
          rintro e u2 ⟨p1, b1, rfl, hp1, ho, _, _⟩
          have QA0 := Lib.hid hp1
          clear hp1
          have HP2 := Lib.hid (HP1.out.only0 ho)
          have HC2 := Lib.hid (HC1.out.only0 ho)
          have HG2 := Lib.hid (HG1.out.only0 ho)
          have HO2 : Hid (Only [] w1 u2) := HO1.out.trans ho (by simp)
          clear c ho HP1 HC1 HG1 HO1
          have c := hpool_rep u2 HC2.out
          go_wp2_with fail
          refine c.mono ?_
          rintro e u3 ⟨p2, b2, rfl, hp2, ho, _, _⟩
          have QB0 := Lib.hid hp2
          clear hp2
          have HP3 := Lib.hid (HP2.out.only0 ho)
          have HC3 := Lib.hid (HC2.out.only0 ho)
          have HG3 := Lib.hid (HG2.out.only0 ho)
          have HO3 : Hid (Only [] w1 u3) := HO2.out.trans ho (by simp)
          have QA03 := Lib.hid (QA0.out.only ho (by simp) (by simp))
          clear c ho HP2 HC2 HG2 HO2
          have c0 := same_rep u3 p1 b1 N.P QA03.out p2 b2 N1.P QB0.out HEQ.out.n.symm
          rw [HEQ.out.same HKN.out.p] at c0
          have c := c0
          go_wp2_with fail
          refine c.mono ?_
          rintro e u4 ⟨rfl, hd⟩
          have ho := hd.only []
          clear hd c0
          have HP4 := Lib.hid (HP3.out.only0 ho)
          have HC4 := Lib.hid (HC3.out.only0 ho)
          have HG4 := Lib.hid (HG3.out.only0 ho)
          have HO4 : Hid (Only [] w1 u4) := HO3.out.trans ho (by simp)
          clear c ho HP3 HC3 HG3 HO3
          have c := hpool_rep u4 HP4.out
          go_wp2_with fail
          refine c.mono ?_
          rintro e u5 ⟨p3, b3, rfl, hp3, ho, _, _⟩
          have QC0 := Lib.hid hp3
          clear hp3
          have HP5 := Lib.hid (HP4.out.only0 ho)
          have HC5 := Lib.hid (HC4.out.only0 ho)
          have HG5 := Lib.hid (HG4.out.only0 ho)
          have HO5 : Hid (Only [] w1 u5) := HO4.out.trans ho (by simp)
          clear c ho HP4 HC4 HG4 HO4
          have c := gpool_rep u5 HG5.out
          go_wp2_with fail
          refine c.mono ?_
          rintro e u6 ⟨q4, k4, c4, l4, rfl, hp4, ho, _, _, _, _⟩
          have QD0 := Lib.hid hp4
          clear hp4
          have HP6 := Lib.hid (HP5.out.only0 ho)
          have HC6 := Lib.hid (HC5.out.only0 ho)
          have HG6 := Lib.hid (HG5.out.only0 ho)
          have HO6 : Hid (Only [] w1 u6) := HO5.out.trans ho (by simp)
          have QC06 := Lib.hid (QC0.out.only ho (by simp) (by simp))
          clear c ho HP5 HC5 HG5 HO5
          have c := samePool_any u6 QC06.out QD0.out HKM.out.p HEQ.out.n HEQ.out.class HEQ.out.begin (HEQ.out.cellEq HKN.out.p)
          go_wp2_with fail
          refine c.mono ?_
          rintro e u7 ⟨rfl, hd⟩
          have ho := hd.only []
          clear hd
          have HP7 := Lib.hid (HP6.out.only0 ho)
          have HC7 := Lib.hid (HC6.out.only0 ho)
          have HG7 := Lib.hid (HG6.out.only0 ho)
          have HO7 : Hid (Only [] w1 u7) := HO6.out.trans ho (by simp)
          clear c ho HP6 HC6 HG6 HO6
          have c := osane_any u7
          go_wp2_with fail
          refine c.mono ?_
          rintro e u99 ⟨rfl, ho⟩
          have HE : Hid (Below w.heap.size w u99) := bel2 HW1.out HO7.out ho
          clear ho c
          go_wp2_with fail
          exact hR.out _ _ ⟨rfl, HE.out⟩
end Go.Proofs.Ytcdeikbehpepjaa
