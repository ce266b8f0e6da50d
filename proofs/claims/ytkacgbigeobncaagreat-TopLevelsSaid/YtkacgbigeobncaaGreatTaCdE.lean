/- Lemmas of this claim. -/
import Derived.Test.YtkacgbigeobncaaGreatTaCdZ
namespace Go.Proofs.YtkacgbigeobncaaGreat
open Go.RowKit Go.Maps
set_option maxHeartbeats 6400000
set_option maxRecDepth 100000
set_option linter.unusedVariables false
set_option linter.unusedSimpArgs false
def ShPost (w : World) (c : List Ins) (e : Ending) (w' : World) : Prop :=
  ∃ (o f x d : Nat) (F : Shp) (v : Int), e = .returned (.agg #[.slice (some ⟨o, 0, none⟩) c.length c.length, .slice (some ⟨f, 0, none⟩) c.length c.length, .slice (some ⟨x, 0, none⟩) c.length c.length, .slice (some ⟨d, 0, none⟩) c.length c.length, .int .i64 v, .bool (nestOk c)]) ∧ Only [] w w' ∧ (nestOk c = true → shape c = some F ∧ v = F.deep ∧ Row w' o 3 (nmV c.length F.op) ∧ Row w' f 3 (nmV c.length F.el) ∧ Row w' x 3 (nmV c.length F.en) ∧ Row w' d 3 (nmV c.length F.dp))
theorem shBuild (wx : World) (b1 b3 b5 b7 n : Nat) : (Instr.build 186 #[(0, sl b1 n), (1, sl b3 n), (2, sl b5 n), (3, sl b7 n), (4, Value.int .i64 0), (5, Value.bool true)]).run Tryz.prog wx = .ok (.agg (fullShape (fun i => if i = 1 then b1 else if i = 3 then b3 else if i = 5 then b5 else b7) n).toArray) wx := by kernel_rfl
theorem shapeOf_any (w : World) (v : Value) (c : List Ins) (hr : RdI w v c) (hl : c.length ≤ 120) : Calls Tryz.prog 121 #[v] w (ShPost w c) := by
  refine calls_abs fun R hR => ?_
  obtain ⟨va, vc, rfl⟩ := hr.len
  obtain ⟨n, hn⟩ : ∃ n, n = c.length := ⟨_, rfl⟩
  rw [← hn] at hl hr ⊢
  have HN := Lib.hid hn
  have HR := Lib.hid hr
  obtain ⟨C, hC, hmk'⟩ := mk_intsC n (by omega)
  have hmk : ∀ wx : World, (Instr.makeSlice 22 (.int .i64 (n : Int)) (.int .i64 (n : Int))).run Tryz.prog wx = .ok (.slice (some ⟨wx.heap.size, 0, none⟩) n n) (wx.alloc (.cells C 3)) := hmk'
  have HC := Lib.hid hC
  clear hn hr hC hmk'
  go_enter Tryz.func121, Tryz.ntmps121
  go_upto_region 2 with fail
  go_cut [4] (fun s4 wx => ∃ s o e x d, s4 = .pointer (some ⟨s, 0, none⟩) ∧ ShA wx (w.heap.size + 1) n s o e x d Shp.zero ∧ Only [] w wx ∧ Row wx w.heap.size 186 [.slice none 0 0, .slice none 0 0, .slice none 0 0, .slice none 0 0, .int .i64 0, .bool false])
  case first =>
    have HCL := Lib.hid (show C = (nmV n (fun _ => 0)).toArray by
      apply Array.ext'
      rw [HC.out]
      apply List.ext_getElem? 
      intro j
      unfold nmV
      by_cases hj : j < n
      · rw [List.getElem?_map, nums_at _ hj, List.getElem?_replicate, if_pos hj]; rfl
      · rw [List.getElem?_replicate, if_neg hj, List.getElem?_eq_none (by simp [nums]; omega)])
    refine wp_region_any (by kernel_rfl) ?_
    generalize hA : Act.mk _ _ = a0
    have e3 : a0.tmps.getD 3 undef = .int .i64 n := by rw [← hA]; rfl
    have e170 : a0.tmps.size = 170 := by rw [← hA]; rfl
    have edf : a0.defers = [] := by rw [← hA]
    refine wpAny_inv (fun listed a w' => listed.size = 11 ∧ (listed.getD 8 false = true → listed.getD 1 false = true ∧ listed.getD 3 false = true ∧ listed.getD 5 false = true ∧ listed.getD 7 false = true) ∧ (listed.getD 10 false = true → listed.getD 8 false = true ∧ listed.getD 9 false = true) ∧ ∃ B, ShInv (w.alloc (.cells #[.slice none 0 0, .slice none 0 0, .slice none 0 0, .slice none 0 0, .int .i64 0, .bool false] 186)) a0 n 0 B (fun i => listed.getD i false) a w') ?step ?done _ _ _ _ (by decide) ?init
    case step =>
      clear hA
      rintro listed a w' i o ⟨hsz, hd8, hd10, B, hI⟩ hi ho K hK
      obtain ⟨hi11, hi2⟩ := List.mem_filter.1 (show i ∈ List.filter _ _ from hi)
      rw [ho] at hi2
      simp only [Option.map_some, Option.getD_some, Bool.and_eq_true, Bool.not_eq_true'] at hi2
      obtain ⟨hnl, haft⟩ := hi2
      clear hi
      have hi11 : i < 11 := by simpa using hi11
      obtain ⟨L, hL⟩ : ∃ L : Nat → Bool, L = fun j => listed.getD j false := ⟨_, rfl⟩
      have hnl' : L i = false := by rw [hL]; simp only [Array.getD_eq_getD_getElem?] at hnl ⊢; rw [Array.getElem?_eq_getElem (by omega)] at hnl ⊢; exact hnl
      have hset : (fun j => (listed.setIfInBounds i true).getD j false) = setB L i := by
        funext j
        unfold setB
        rw [Array.getD_eq_getD_getElem?, Array.getElem?_setIfInBounds, hL]
        by_cases e : j = i
        · subst e; simp [hsz, hi11]
        · rw [if_neg (fun h => e h.symm), if_neg e]; exact (Array.getD_eq_getD_getElem? ..).symm
      rw [show (fun i => listed.getD i false) = L from hL.symm] at hI
      have hd8 : L 8 = true → L 1 = true ∧ L 3 = true ∧ L 5 = true ∧ L 7 = true := by rw [hL]; exact hd8
      have hd10 : L 10 = true → L 8 = true ∧ L 9 = true := by rw [hL]; exact hd10
      have HD : ∀ (B2 : Nat → Nat) (a2 : Act) (w2 : World), ShInv (w.alloc (.cells #[.slice none 0 0, .slice none 0 0, .slice none 0 0, .slice none 0 0, .int .i64 0, .bool false] 186)) a0 n 0 B2 (setB L i) a2 w2 → (setB L i 8 = true → setB L i 1 = true ∧ setB L i 3 = true ∧ setB L i 5 = true ∧ setB L i 7 = true) → (setB L i 10 = true → setB L i 8 = true ∧ setB L i 9 = true) → K a2 w2 := fun B2 a2 w2 h h8 h10 => hK a2 w2 ⟨by simpa using hsz, by simpa only [← hset] using h8, by simpa only [← hset] using h10, B2, by rw [hset]; exact h⟩
      clear hK hset
      have hLe : ∀ j, listed.getD j false = L j := fun j => by rw [hL]
      simp only [hLe] at haft
      clear hLe hL hnl
      obtain rfl | rfl | rfl | rfl | rfl | rfl | rfl | rfl | rfl | rfl | rfl : i = 0 ∨ i = 1 ∨ i = 2 ∨ i = 3 ∨ i = 4 ∨ i = 5 ∨ i = 6 ∨ i = 7 ∨ i = 8 ∨ i = 9 ∨ i = 10 := by omega
      all_goals
        simp only [List.getElem?_toArray, List.getElem?_cons_zero, List.getElem?_cons_succ, Option.some.injEq] at ho
        subst ho
        simp only [List.all_toArray, List.all_cons, List.all_nil, Region.binds, Bool.and_true, Bool.not_true, Bool.false_or, Bool.and_eq_true] at haft
      · refine zStep rfl (v := .int .i64 n) (w2 := w') ?_ ?_
        · have h3 := (hI.fr 3 (by decide) (by decide)).trans e3
          simp [execOp, Act.eval, h3]
        · exact HD B _ _ (hI.move (by decide)) hd8 hd10
      · have h8 : L 8 = false := by
          cases h : L 8
          · rfl
          · have := hd8 h; simp [hnl'] at this
        have h10 : L 10 = false := by
          cases h : L 10
          · rfl
          · have := hd10 h; simp [h8] at this
        have hs := hI.mv 0 (by decide) haft.1
        refine zStep rfl (v := .slice (some ⟨w'.heap.size, 0, none⟩) n n) (w2 := w'.alloc (.cells C 3)) ?_ ?_
        · have hm := hmk w'
          simp only [Nat.reduceAdd] at hs
          simp [execOp, Act.eval, hs, hm]
        · exact HD _ _ _ (hI.make (by decide) hnl' h8 h10 (by rw [← HCL.out])) (fun h => by rw [show setB L 1 8 = L 8 from rfl, h8] at h; cases h) (fun h => by rw [show setB L 1 10 = L 10 from rfl, h10] at h; cases h)
      · refine zStep rfl (v := .int .i64 n) (w2 := w') ?_ ?_
        · have h3 := (hI.fr 3 (by decide) (by decide)).trans e3
          simp [execOp, Act.eval, h3]
        · exact HD B _ _ (hI.move (by decide)) hd8 hd10
      · have h8 : L 8 = false := by
          cases h : L 8
          · rfl
          · have := hd8 h; simp [hnl'] at this
        have h10 : L 10 = false := by
          cases h : L 10
          · rfl
          · have := hd10 h; simp [h8] at this
        have hs := hI.mv 2 (by decide) haft.1
        refine zStep rfl (v := .slice (some ⟨w'.heap.size, 0, none⟩) n n) (w2 := w'.alloc (.cells C 3)) ?_ ?_
        · have hm := hmk w'
          simp only [Nat.reduceAdd] at hs
          simp [execOp, Act.eval, hs, hm]
        · exact HD _ _ _ (hI.make (by decide) hnl' h8 h10 (by rw [← HCL.out])) (fun h => by rw [show setB L 3 8 = L 8 from rfl, h8] at h; cases h) (fun h => by rw [show setB L 3 10 = L 10 from rfl, h10] at h; cases h)
      · refine zStep rfl (v := .int .i64 n) (w2 := w') ?_ ?_
        · have h3 := (hI.fr 3 (by decide) (by decide)).trans e3
          simp [execOp, Act.eval, h3]
        · exact HD B _ _ (hI.move (by decide)) hd8 hd10
      · have h8 : L 8 = false := by
          cases h : L 8
          · rfl
          · have := hd8 h; simp [hnl'] at this
        have h10 : L 10 = false := by
          cases h : L 10
          · rfl
          · have := hd10 h; simp [h8] at this
        have hs := hI.mv 4 (by decide) haft.1
        refine zStep rfl (v := .slice (some ⟨w'.heap.size, 0, none⟩) n n) (w2 := w'.alloc (.cells C 3)) ?_ ?_
        · have hm := hmk w'
          simp only [Nat.reduceAdd] at hs
          simp [execOp, Act.eval, hs, hm]
        · exact HD _ _ _ (hI.make (by decide) hnl' h8 h10 (by rw [← HCL.out])) (fun h => by rw [show setB L 5 8 = L 8 from rfl, h8] at h; cases h) (fun h => by rw [show setB L 5 10 = L 10 from rfl, h10] at h; cases h)
      · refine zStep rfl (v := .int .i64 n) (w2 := w') ?_ ?_
        · have h3 := (hI.fr 3 (by decide) (by decide)).trans e3
          simp [execOp, Act.eval, h3]
        · exact HD B _ _ (hI.move (by decide)) hd8 hd10
      · have h8 : L 8 = false := by
          cases h : L 8
          · rfl
          · have := hd8 h; simp [hnl'] at this
        have h10 : L 10 = false := by
          cases h : L 10
          · rfl
          · have := hd10 h; simp [h8] at this
        have hs := hI.mv 6 (by decide) haft.1
        refine zStep rfl (v := .slice (some ⟨w'.heap.size, 0, none⟩) n n) (w2 := w'.alloc (.cells C 3)) ?_ ?_
        · have hm := hmk w'
          simp only [Nat.reduceAdd] at hs
          simp [execOp, Act.eval, hs, hm]
        · exact HD _ _ _ (hI.make (by decide) hnl' h8 h10 (by rw [← HCL.out])) (fun h => by rw [show setB L 7 8 = L 8 from rfl, h8] at h; cases h) (fun h => by rw [show setB L 7 10 = L 10 from rfl, h10] at h; cases h)
      · have m1 := (hI.mks 1 (by decide) haft.1).1
        have m3 := (hI.mks 3 (by decide) haft.2.1).1
        have m5 := (hI.mks 5 (by decide) haft.2.2.1).1
        have m7 := (hI.mks 7 (by decide) haft.2.2.2).1
        refine zStep rfl (v := .agg (fullShape B n).toArray) (w2 := w') ?_ ?_
        · simp only [Nat.reduceAdd, Array.getD_eq_getD_getElem?] at m1 m3 m5 m7
          have hb := shBuild w' (B 1) (B 3) (B 5) (B 7) n
          simp [execOp, Act.eval, m1, m3, m5, m7, hb]
          rfl
        · exact HD B _ _ hI.build (fun _ => ⟨haft.1, haft.2.1, haft.2.2.1, haft.2.2.2⟩) (fun h => by rw [show setB L 8 10 = L 10 from rfl] at h; exact absurd (hd10 h).1 (by rw [hnl']; decide))
      · have h10 : L 10 = false := by
          cases h : L 10
          · rfl
          · have := (hd10 h).2; rw [hnl'] at this; cases this
        refine zStep rfl (v := .pointer (some ⟨w'.heap.size, 0, none⟩)) (w2 := w'.alloc (.cells zeroShape.toArray 186)) ?_ ?_
        · kernel_rfl
        · exact HD _ _ _ (hI.mem hnl' h10) (fun h => hd8 h) (fun h => by rw [show setB L 9 10 = L 10 from rfl, h10] at h; cases h)
      · have h9 := haft.1
        have h8 : L 8 = true := haft.2.1
        have ha := hI.al h9
        rw [hnl'] at ha
        refine zStore rfl rfl 186 (.tmp 4) (.tmp 20) rfl (B 9) 186 zeroShape (fullShape B n) ha.1 (hI.bd h8) ha.2 (by kernel_rfl) rfl rfl ?_
        exact HD B _ _ (hI.store h9 hnl') hd8 (fun _ => ⟨h8, h9⟩)
    case done =>
      rintro listed a w' ⟨hsz, hd8, hd10, B, hI⟩ hr
      have hz := fun j (hj : j < 11) => List.filter_eq_nil_iff.1 (show List.filter _ _ = [] from hr) j (List.mem_range.2 hj)
      clear hr hd8 hd10
      have hgt : ∀ j, j < 11 → listed.getD j true = listed.getD j false := fun j hj => by rw [Array.getD_eq_getD_getElem?, Array.getD_eq_getD_getElem?, Array.getElem?_eq_getElem (by omega)]; rfl
      obtain ⟨L, hL⟩ : ∃ L : Nat → Bool, L = fun j => listed.getD j false := ⟨_, rfl⟩
      have hLe : ∀ j, listed.getD j false = L j := fun j => by rw [hL]
      rw [show (fun i => listed.getD i false) = L from hL.symm] at hI
      have z0 := hz 0 (by decide)
      have z1 := hz 1 (by decide)
      have z2 := hz 2 (by decide)
      have z3 := hz 3 (by decide)
      have z4 := hz 4 (by decide)
      have z5 := hz 5 (by decide)
      have z6 := hz 6 (by decide)
      have z7 := hz 7 (by decide)
      have z8 := hz 8 (by decide)
      have z9 := hz 9 (by decide)
      have z10 := hz 10 (by decide)
      rw [hgt _ (by decide)] at z0 z1 z2 z3 z4 z5 z6 z7 z8 z9 z10
      clear hz hgt
      simp only [hLe, List.getElem?_toArray, List.getElem?_cons_zero, List.getElem?_cons_succ, Option.map_some, Option.getD_some, List.all_toArray, List.all_cons, List.all_nil, Region.binds, Bool.and_true, Bool.not_true, Bool.false_or] at z0 z1 z2 z3 z4 z5 z6 z7 z8 z9 z10
      have l0 : L 0 = true := by
        revert z0
        cases L 0 <;> simp
      have l2 : L 2 = true := by
        revert z2
        cases L 2 <;> simp
      have l4 : L 4 = true := by
        revert z4
        cases L 4 <;> simp
      have l6 : L 6 = true := by
        revert z6
        cases L 6 <;> simp
      have l9 : L 9 = true := by
        revert z9
        cases L 9 <;> simp
      have l1 : L 1 = true := by
        rw [l0] at z1
        revert z1
        cases L 1 <;> simp
      have l3 : L 3 = true := by
        rw [l2] at z3
        revert z3
        cases L 3 <;> simp
      have l5 : L 5 = true := by
        rw [l4] at z5
        revert z5
        cases L 5 <;> simp
      have l7 : L 7 = true := by
        rw [l6] at z7
        revert z7
        cases L 7 <;> simp
      have l8 : L 8 = true := by
        rw [l1, l3, l5, l7] at z8
        revert z8
        cases L 8 <;> simp
      have l10 : L 10 = true := by
        rw [l0, l1, l2, l3, l4, l5, l6, l7, l8, l9] at z10
        revert z10
        cases L 10 <;> simp
      clear z0 z1 z2 z3 z4 z5 z6 z7 z8 z9 z10 hLe hL hsz
      obtain ⟨ea, hA2⟩ := hI.done e170 l0 l1 l2 l3 l4 l5 l6 l7 l8 l9 l10
      have edf2 := hI.df.trans edf
      rw [actEq a ea edf2, ← hA]
      have m1 := (hI.mks 1 (by decide) l1).2
      have m3 := (hI.mks 3 (by decide) l3).2
      have m5 := (hI.mks 5 (by decide) l5).2
      have m7 := (hI.mks 7 (by decide) l7).2
      have HP := Lib.hid hI.ap
      have HG := Lib.hid hI.ge
      have HON := Lib.hid hI.on
      have HLS := Lib.hid (And.intro l1 (And.intro l3 (And.intro l5 (And.intro l7 l9))))
      have HM := Lib.hid (And.intro hA2 (And.intro m1 (And.intro m3 (And.intro m5 m7))))
      clear ea edf2 hI l0 l1 l2 l3 l4 l5 l6 l7 l8 l9 l10 hA2 m1 m3 m5 m7
      simp only [List.setIfInBounds_toArray, List.set_cons_succ, List.set_cons_zero]
      clear hA e3 e170 edf
      go_wp2_with fail
      go_meet
      have hge := HG.out
      have hap := HP.out
      obtain ⟨l1, l3, l5, l7, l9⟩ := HLS.out
      have g1 := (hge 1 (by decide) l1).1
      have g3 := (hge 3 (by decide) l3).1
      have g5 := (hge 5 (by decide) l5).1
      have g7 := (hge 7 (by decide) l7).1
      have g9 := (hge 9 (by decide) l9).1
      rw [World.size_alloc] at g1 g3 g5 g7 g9
      obtain ⟨q2, q1, q3, q5, q7⟩ := HM.out
      exact ⟨B 9, B 1, B 3, B 5, B 7, rfl, ⟨q2, q1, q3, q5, q7, ⟨hap 9 1 (by decide) (by decide) (by decide) l9 l1, hap 9 3 (by decide) (by decide) (by decide) l9 l3, hap 9 5 (by decide) (by decide) (by decide) l9 l5, hap 9 7 (by decide) (by decide) (by decide) l9 l7,
        hap 1 3 (by decide) (by decide) (by decide) l1 l3, hap 1 5 (by decide) (by decide) (by decide) l1 l5, hap 1 7 (by decide) (by decide) (by decide) l1 l7, hap 3 5 (by decide) (by decide) (by decide) l3 l5, hap 3 7 (by decide) (by decide) (by decide) l3 l7, hap 5 7 (by decide) (by decide) (by decide) l5 l7⟩, g9, g1, g3, g5, g7⟩,
        ((Only.refl [] w).alloc _).trans HON.out (by simp), HON.out.row (Row.new w 186 [.slice none 0 0, .slice none 0 0, .slice none 0 0, .slice none 0 0, .int .i64 0, .bool false]) (by simp)⟩
    case init =>
      have hf : ∀ (m i : Nat), (Array.replicate m false).getD i false = false := by
        intro m i
        rw [Array.getD_eq_getD_getElem?, Array.getElem?_replicate]
        split <;> rfl
      refine ⟨by simp, (fun h => by rw [hf] at h; cases h), (fun h => by rw [hf] at h; cases h), fun _ => 0, e170, rfl, fun _ _ _ => rfl, fun i _ h => ?_, fun i _ h => ?_, fun h => ?_, fun h => ?_, fun i j _ _ _ h => ?_, fun i _ h => ?_, (Only.refl _ _).drew⟩
      all_goals
        rw [hf] at h
        cases h
  case rest =>
    obtain ⟨s, o, e, x, d, rfl, hA, hO, hT⟩ := hcut
    obtain ⟨w1, rfl⟩ : ∃ z, z = wc := ⟨_, rfl⟩
    have HA := Lib.hid hA
    have HO := Lib.hid hO
    have HT := Lib.hid hT
    have HLT := Lib.hid (show ∀ y, y ∈ [s, o, e, x, d] → w.heap.size ≤ y ∧ y < w1.heap.size by
      intro y hy
      have h1 := hA.hs.lt
      have h2 := hA.ho.lt
      have h3 := hA.he.lt
      have h4 := hA.hx.lt
      have h5 := hA.hd.lt
      have h6 := hA.ge
      simp only [List.mem_cons, List.not_mem_nil, or_false] at hy
      rcases hy with rfl | rfl | rfl | rfl | rfl <;> omega)
    have HNR := Lib.hid (show w.heap.size ∉ [s, o, e, x, d] by have h6 := hA.ge; simp; omega)
    have HFAIL := Lib.hid (show ∀ (k : Nat) (v : Int) (wx : World), Shp.steps c k = none → k ≤ n → Only [] w wx → R (.returned (.agg #[.slice (some ⟨o, 0, none⟩) n n, .slice (some ⟨e, 0, none⟩) n n, .slice (some ⟨x, 0, none⟩) n n, .slice (some ⟨d, 0, none⟩) n n, .int .i64 v, .bool false])) wx by
      intro k v wx h1 h2 h3
      have hno : nestOk c = false := by unfold nestOk shape; rw [Shp.steps_none h1 (by rw [← HN.out]; exact h2)]
      refine hR.out _ _ ⟨o, e, x, d, Shp.zero, v, ?_, h3, fun hq => by rw [hno] at hq; cases hq⟩
      rw [hno, ← HN.out])
    clear hA hO hT hmk HC
    go_wp2_with fail
    go_loopw [5, 23] (fun ov iv wr => ∃ (k : Nat) (F : Shp), k ≤ n ∧ iv = .int .i64 k ∧ Ints wr (w1.heap.size) ov (F.open_.map fun (y : Nat) => (y : Int)) ∧ Hid (Shp.steps c k = some F) ∧ Hid (ShA wr (w.heap.size + 1) n s o e x d F) ∧ Only [] w wr ∧ Only [s, o, e, x, d] w1 wr) (fun _ iv _ => n - (intOf iv).toNat)
    case atStart => exact ⟨0, Shp.zero, by omega, rfl, Ints.nil _ _, rfl, HA, HO.out, Only.refl _ _⟩
    case round =>
      obtain ⟨k, F, hk, rfl, hI, HS, HA, hO, hOc⟩ := hrel
      have HO := Lib.hid hO
      have HOc := Lib.hid hOc
      have hF := Shp.steps_ok HS.out
      obtain ⟨m, hm⟩ : ∃ m, m = F.open_.length := ⟨_, rfl⟩
      have hm1 : m ≤ k := by rw [hm]; exact hF.len
      obtain ⟨oa, oc, rfl⟩ := hI.len
      rw [List.length_map, ← hm] at hI ⊢
      have HI := Lib.hid hI
      have HM := Lib.hid hm
      clear hO hOc hI hm
      by_cases hlt : k < n
      · obtain ⟨b0, o0, rfl, hcell⟩ := HR.out.at (by rw [← HN.out]; omega)
        have hcl := hcell wr HO.out k _ (getI c (by rw [← HN.out]; exact hlt))
        obtain ⟨⟨op, ia, ib⟩, hi⟩ : ∃ i, i = c.getD k default := ⟨_, rfl⟩
        rw [← hi] at hcl
        have q0 := hcl 0 _ rfl
        have q1 := hcl 1 _ rfl
        have q2 := hcl 2 _ rfl
        simp only [Nat.add_zero] at q0
        have HCL := Lib.hid hcell
        have HIN := Lib.hid hi
        clear hcell hcl hi
        go_upto_region 7 with fail
        have HA5 := Lib.hid (HA.out.only ((Only.refl [] wr).alloc (.cells #[.int .i64 op, .int .i64 ia, .int .i64 ib] 64)) (by simp))
        have HO5 := Lib.hid (HO.out.alloc (.cells #[.int .i64 op, .int .i64 ia, .int .i64 ib] 64))
        have HOc5 := Lib.hid (HOc.out.alloc (.cells #[.int .i64 op, .int .i64 ia, .int .i64 ib] 64))
        have HI5 := Lib.hid (HI.out.alloc (.cells #[.int .i64 op, .int .i64 ia, .int .i64 ib] 64))
        have HT5 := Lib.hid (Row.new wr 64 [.int .i64 op, .int .i64 ia, .int .i64 ib])
        obtain ⟨ib7, hib7⟩ : ∃ z, z = wr.heap.size := ⟨_, rfl⟩
        have HIB := Lib.hid (show w1.heap.size ≤ ib7 by rw [hib7]; exact HOc.out.size)
        rw [← hib7] at HT5 ⊢
        have HNE := Lib.hid (show ib7 ≠ s ∧ ib7 ≠ o ∧ ib7 ≠ e ∧ ib7 ≠ x ∧ ib7 ≠ d by rw [hib7]; have h1 := HA.out.hs.lt; have h2 := HA.out.ho.lt; have h3 := HA.out.he.lt; have h4 := HA.out.hx.lt; have h5 := HA.out.hd.lt; omega)
        generalize wr.alloc (.cells #[.int .i64 op, .int .i64 ia, .int .i64 ib] 64) = w5 at *
        clear q0 q1 q2 hib7
        go_cut [7] (fun s7 wx => s7 = .pointer (some ⟨ib7, 0, none⟩) ∧ Hid (ShA wx (w.heap.size + 1) n s o e x d { F with op := setI F.op k (-1), el := setI F.el k (-1), en := setI F.en k (-1), dp := setI F.dp k m }) ∧ Hid (Only [] w wx) ∧ Hid (Only [s, o, e, x, d] w1 wx) ∧ Hid (Ints wx w1.heap.size (.slice oa m oc) (F.open_.map fun (y : Nat) => (y : Int))) ∧ Hid (Row wx ib7 64 [.int .i64 op, .int .i64 ia, .int .i64 ib]))
        case first =>
          --<A
          obtain ⟨p0, p1, p2, p3, p4, p5⟩ := HA5.out.cells
          obtain ⟨f0, f1, f2, f3, f4⟩ := HA5.out.free
          obtain ⟨g0, g1, g2, g3⟩ := HA5.out.at hlt
          have HSL := Lib.hid (show ∀ wl, Only [o, e, x, d] w5 wl → wl.cell? ⟨s, 0, none⟩ = some (.slice (some ⟨o, 0, none⟩) n n) ∧ wl.cell? ⟨s, 1, none⟩ = some (.slice (some ⟨e, 0, none⟩) n n) ∧ wl.cell? ⟨s, 2, none⟩ = some (.slice (some ⟨x, 0, none⟩) n n) ∧ wl.cell? ⟨s, 3, none⟩ = some (.slice (some ⟨d, 0, none⟩) n n) by
            intro wl ho
            obtain ⟨z1, z2, z3, z4, _⟩ := HA5.out.ne
            have hn : s ∉ [o, e, x, d] := by simp; omega
            exact ⟨ho.cell p0 hn, ho.cell p1 hn, ho.cell p2 hn, ho.cell p3 hn⟩)
          obtain ⟨y1, y2, y3, y4, y5, y6, y7, y8, y9, y10⟩ := HA5.out.ne
          have z5 := Ne.symm y5
          have z6 := Ne.symm y6
          have z7 := Ne.symm y7
          have z8 := Ne.symm y8
          have z9 := Ne.symm y9
          have z10 := Ne.symm y10
          go_region_held3 (fun w' => w'.cell? ⟨s, 0, none⟩ = some (.slice (some ⟨o, 0, none⟩) n n) ∧ w'.cell? ⟨s, 1, none⟩ = some (.slice (some ⟨e, 0, none⟩) n n) ∧ w'.cell? ⟨s, 2, none⟩ = some (.slice (some ⟨x, 0, none⟩) n n) ∧ w'.cell? ⟨s, 3, none⟩ = some (.slice (some ⟨d, 0, none⟩) n n)) (exact HSL.out _ (by repeat (first | exact Only.refl _ _ | refine Only.drew ?_ | refine Only.set ?_ (by simp) _))) (fail)
          clear HSL p0 p1 p2 p3 p4 p5 g0 g1 g2 g3 f1 f2 f3 f4 f0 y1 y2 y3 y4 y5 y6 y7 y8 y9 y10 z5 z6 z7 z8 z9 z10
          have HA6 := Lib.hid (((((HA5.out.setOp k (-1)).setEl k (-1)).setEn k (-1)).setDp k m).only ((Only.refl [] _).drew) (by simp))
          have HK6 : Hid (Only [s, o, e, x, d] w5 ((((w5.setCell ⟨o, k, none⟩ (.int .i64 (-1))).setCell ⟨e, k, none⟩ (.int .i64 (-1))).setCell ⟨x, k, none⟩ (.int .i64 (-1))).setCell ⟨d, k, none⟩ (.int .i64 m)).drew) :=
            (((((Only.refl _ _).set (p := ⟨o, k, none⟩) (.inl (by simp)) _).set (p := ⟨e, k, none⟩) (.inl (by simp)) _).set (p := ⟨x, k, none⟩) (.inl (by simp)) _).set (p := ⟨d, k, none⟩) (.inl (by simp)) _).drew
          generalize ((((w5.setCell ⟨o, k, none⟩ (.int .i64 (-1))).setCell ⟨e, k, none⟩ (.int .i64 (-1))).setCell ⟨x, k, none⟩ (.int .i64 (-1))).setCell ⟨d, k, none⟩ (.int .i64 m)).drew = w6 at *
          have HB6 := Lib.hid (show ∀ y, y ∈ [s, o, e, x, d] → w.heap.size ≤ y ∧ y ≠ ib7 ∧ y < w1.heap.size by
            intro y hy
            have h1 := HLT.out y hy
            have h2 := HIB.out
            exact ⟨h1.1, by omega, h1.2⟩)
          have HO6 := Lib.hid (HO5.out.trans HK6.out (fun y hy => .inr (HB6.out y hy).1))
          have HOc6 := Lib.hid (HOc5.out.trans HK6.out (fun y hy => .inl hy))
          have HT6 := Lib.hid (HK6.out.row HT5.out (fun hy => (HB6.out _ hy).2.1 rfl))
          have HI6 := Lib.hid (HI5.out.kept HK6.out (fun y hy => (HB6.out y hy).2.2))
          go_wp2_with fail
          go_meet
          exact ⟨rfl, HA6, HO6, HOc6, HI6, HT6⟩
          --A>
        case rest =>
          obtain ⟨rfl, HA6, HO6, HOc6, HI6, HT6⟩ := hcut
          obtain ⟨w6, rfl⟩ : ∃ z, z = wc := ⟨_, rfl⟩
          clear HA5 HO5 HOc5 HI5 HT5
          go_upto_if 48 with fail
          go_cut [7] (fun s7 wx => s7 = .pointer (some ⟨ib7, 0, none⟩) ∧ Hid (ShA wx (w.heap.size + 1) n s o e x d (F.first k)) ∧ Hid (Only [] w wx) ∧ Hid (Only [s, o, e, x, d] w1 wx) ∧ Hid (Ints wx w1.heap.size (.slice oa m oc) (F.open_.map fun (y : Nat) => (y : Int))) ∧ Hid (Row wx ib7 64 [.int .i64 op, .int .i64 ia, .int .i64 ib]))
          case first =>
            --<B
            by_cases h0 : m = 0
            · have hE : F.open_ = [] := List.eq_nil_of_length_eq_zero (by rw [← HM.out]; exact h0)
              have HF1 := Lib.hid (show F.first k = { F with op := setI F.op k (-1), el := setI F.el k (-1), en := setI F.en k (-1), dp := setI F.dp k m } by
                unfold Shp.first; rw [if_pos hE, HM.out])
              clear hE
              subst h0
              go_wp2_with fail
              go_meet
              exact ⟨rfl, by rw [HF1.out]; exact HA6, HO6, HOc6, HI6, HT6⟩
            · have hmp : 0 < m := by omega
              have hmpI : (0 : Int) < (m : Int) := by omega
              have hE : ¬ F.open_ = [] := fun hE => h0 (by rw [HM.out, hE]; rfl)
              obtain ⟨tp, htp⟩ : ∃ y, y = topN F.open_ := ⟨_, rfl⟩
              have HF1 := Lib.hid (show F.first k = { F with op := setI (setI F.op k (-1)) k tp, el := setI F.el k (-1), en := setI F.en k (-1), dp := setI F.dp k m } by
                unfold Shp.first; rw [if_neg hE, HM.out, setI_setI, htp])
              rcases HI6.out.form with ⟨h1, h2⟩ | ⟨g, cap, h1, hg1, hg2, hg3, hg4⟩
              · exact absurd (by rw [List.map_eq_nil_iff] at h2; exact h2) hE
              rw [List.length_map, ← HM.out] at h1 hg3 hg4
              simp only [Value.slice.injEq] at h1
              obtain ⟨rfl, _, rfl⟩ := h1
              have k1 := hg4 (m - 1) (by omega)
              rw [opn_top HM.out hmp, ← htp] at k1
              have e1 : ((m : Int) - 1).toNat = m - 1 := by omega
              have e2 : (0 : Int) ≤ (m : Int) - 1 := by omega
              have e4 : (m : Int) - 1 < m := by omega
              have e5 : (1 : Int) ≤ (m : Int) := by omega
              have e3 : IntKind.i64.wrap ((m : Int) - 1) = (m : Int) - 1 := IntWalk.i64_in _ (by omega)
              obtain ⟨p0, _⟩ := HA6.out.cells
              obtain ⟨_, f1, _⟩ := HA6.out.free
              have g0 := (HA6.out.at hlt).1
              have HSL := Lib.hid (show ∀ wl, Only [o] w6 wl → wl.cell? ⟨s, 0, none⟩ = some (.slice (some ⟨o, 0, none⟩) n n) ∧ wl.cell? ⟨g, m - 1, none⟩ = some (.int .i64 (tp : Int)) by
                intro wl ho
                obtain ⟨z1, z2, z3, z4, _⟩ := HA6.out.ne
                have hgo := HLT.out o (by simp)
                exact ⟨ho.cell p0 (by simp; omega), ho.cell k1 (by simp; omega)⟩)
              clear hE htp hg1 hg2 hg3 hg4
              go_upto_region 9 with fail
              go_region_held3 (fun w' => w'.cell? ⟨s, 0, none⟩ = some (.slice (some ⟨o, 0, none⟩) n n) ∧ w'.cell? ⟨g, m - 1, none⟩ = some (.int .i64 (tp : Int))) (exact HSL.out _ (by repeat (first | exact Only.refl _ _ | refine Only.drew ?_ | refine Only.set ?_ (by simp) _))) (fail)
              go_wp2_with fail
              go_meet
              have HK7 : Hid (Only [s, o, e, x, d] w6 (w6.setCell ⟨o, k, none⟩ (.int .i64 tp)).drew) := ((Only.refl _ _).set (p := ⟨o, k, none⟩) (.inl (by simp)) _).drew
              have HA7 := Lib.hid ((HA6.out.setOp k tp).only ((Only.refl [] _).drew) (by simp))
              exact ⟨rfl, by rw [HF1.out]; exact HA7, Lib.hid (HO6.out.trans HK7.out (fun y hy => .inr (HLT.out y hy).1)), Lib.hid (HOc6.out.trans HK7.out (fun y hy => .inl hy)), Lib.hid (HI6.out.kept HK7.out (fun y hy => (HLT.out y hy).2)), Lib.hid (HK7.out.row HT6.out (fun hy => by have h1 := HLT.out _ hy; have h2 := HIB.out; omega))⟩
              --B>
          case rest =>
            obtain ⟨rfl, HA7, HO7, HOc7, HI7, HT7⟩ := hcut
            obtain ⟨w7, rfl⟩ : ∃ z, z = wc := ⟨_, rfl⟩
            clear HA6 HO6 HOc6 HI6 HT6
            have t0 := HT7.out.cell 0 rfl
            have cop := fun w => opens_any w op
            have HSUC := Lib.hid (show Shp.steps c (k + 1) = F.step c k by
              show (Shp.steps c k).bind _ = _
              rw [HS.out]; rfl)
            go_wp2_with fail
            refine (cop _).mono ?_
            rintro ee _ ⟨rfl, rfl⟩
            clear cop
            cases hop : opens op
            · by_cases hcl : op = 34 ∨ op = 35
              · have hop' := Lib.hid hop
                clear hop
                by_cases h0 : m = 0
                · --<C
                  have HNO := Lib.hid (show Shp.steps c (k + 1) = none by
                    have hE : F.open_ = [] := List.eq_nil_of_length_eq_zero (by rw [← HM.out]; exact h0)
                    rw [HSUC.out]
                    unfold Shp.step
                    rw [← HIN.out]
                    dsimp only
                    rw [hop'.out, if_neg (by simp), if_pos hcl, if_pos hE])
                  have hm0 : ((m : Int) == 0) = true := by rw [h0]; rfl
                  have hS7 := HA7.out.hs
                  have hT7 := HOc7.out.row HT.out HNR.out
                  obtain ⟨a0, a1, a2, a3, a4, a5⟩ := HA7.out.cells
                  have b5 := hS7.free 5
                  have e0 := hT7.cell 0 rfl
                  have e1 := hT7.cell 1 rfl
                  have e2 := hT7.cell 2 rfl
                  have e3 := hT7.cell 3 rfl
                  have e4 := hT7.cell 4 rfl
                  have e5 := hT7.cell 5 rfl
                  have z0 := hT7.free 0
                  have z1 := hT7.free 1
                  have z2 := hT7.free 2
                  have z3 := hT7.free 3
                  have z4 := hT7.free 4
                  have z5 := hT7.free 5
                  have y1 : s ≠ w.heap.size := fun q => HNR.out (by rw [← q]; simp)
                  have y2 : w.heap.size ≠ s := fun q => y1 q.symm
                  have HO9 := Lib.hid (HO7.out.set (p := ⟨s, 5, none⟩) (.inr (HLT.out s (by simp)).1) (.bool false))
                  have HT9 := Lib.hid (hT7.other (a := ⟨s, 5, none⟩) y1 (.bool false))
                  clear hS7 hT7
                  rcases hcl with rfl | rfl
                  all_goals
                    go_wp2_with fail
                    refine bodyPost_ret (results_cell_row rfl _ _ w.heap.size 186 _ (0, 0) _ rfl ((((((HT9.out.set 0 _).set 1 _).set 2 _).set 3 _).set 4 _).set 5 _) Tryz.underlying186 rfl (by kernel_rfl)) rfl ?_
                    exact HFAIL.out _ _ _ HNO.out (by omega) (HO9.out.set6 (Nat.le_refl _) _ _ _ _ _ _)
                  --C>
                · have hE : ¬ F.open_ = [] := fun hE => h0 (by rw [HM.out, hE]; rfl)
                  obtain ⟨tp, htp⟩ : ∃ y, y = topN F.open_ := ⟨_, rfl⟩
                  have htk : tp < k := by
                    rw [htp]
                    unfold topN
                    rw [List.getLastD_eq_getLast?]
                    cases h : F.open_.getLast? with
                    | none => rw [List.getLast?_eq_none_iff] at h; exact absurd h hE
                    | some y => exact hF.lt y (List.mem_of_getLast? h)
                  obtain ⟨c0, hc0⟩ : ∃ y, y = (c.getD tp default).op := ⟨_, rfl⟩
                  obtain ⟨el, hel⟩ : ∃ y, y = (F.first k).el tp := ⟨_, rfl⟩
                  have HSTEP := Lib.hid (show Shp.steps c (k + 1) = (let t := { F.first k with dp := setI (F.first k).dp k ((m : Int) - 1) }
                      if op = 34 then (if ¬ (c0 = 29 ∨ c0 = 33) ∨ 0 ≤ el then none else some { t with el := setI t.el tp k })
                      else if c0 = 33 ∧ el < 0 then none else some { t with en := setI t.en tp k, open_ := t.open_.dropLast }) by
                    rw [HSUC.out]
                    unfold Shp.step
                    rw [← HIN.out]
                    dsimp only
                    rw [hop'.out, if_neg (by simp), if_pos hcl, if_neg hE, ← htp, ← hc0, hel, HM.out])
                  have hm0 : ((m : Int) == 0) = false := by simp; omega
                  obtain ⟨a0, a1, a2, a3, a4, a5⟩ := HA7.out.cells
                  obtain ⟨f0, f1, f2, f3, f4⟩ := HA7.out.free
                  obtain ⟨g0, g1, g2, g3⟩ := HA7.out.at hlt
                  have e1 : (F.first k).op k = tp := by
                    show setI F.op k _ k = _
                    unfold setI
                    rw [if_pos rfl, if_neg hE, htp]
                  rw [e1] at g0
                  have hcd := HCL.out w7 HO7.out tp _ (getI c (by rw [← HN.out]; omega)) 0 _ rfl
                  rw [← hc0] at hcd
                  simp only [Nat.add_zero] at hcd
                  have z4 := (HA7.out.ne)
                  have y3 : d ≠ o := by omega
                  have y4 : o ≠ d := by omega
                  have y5 : s ≠ d := by omega
                  have y6 : d ≠ s := by omega
                  have y7 : d ≠ b0 := by
                    have h1 := World.block_lt_of_cell? _ _ (HCL.out w (Only.refl _ _) tp _ (getI c (by rw [← HN.out]; omega)) 0 _ rfl)
                    have h2 := (HLT.out d (by simp)).1
                    have h3 : b0 < w.heap.size := h1
                    omega
                  have y8 := Ne.symm y7
                  have y9 : d ≠ ib7 := by have := HNE.out; omega
                  have y10 := Ne.symm y9
                  have htn : tp < n := by omega
                  have htnI : (tp : Int) < n := by omega
                  have HA8 := Lib.hid (HA7.out.setDp k ((m : Int) - 1))
                  have HK8 : Hid (Only [s, o, e, x, d] w7 (w7.setCell ⟨d, k, none⟩ (.int .i64 ((m : Int) - 1)))) := ((Only.refl _ _).set (p := ⟨d, k, none⟩) (.inl (by simp)) _)
                  have HO8 := Lib.hid (HO7.out.trans HK8.out (fun y hy => .inr (HLT.out y hy).1))
                  have HOc8 := Lib.hid (HOc7.out.trans HK8.out (fun y hy => .inl hy))
                  have HI8 := Lib.hid (HI7.out.kept HK8.out (fun y hy => (HLT.out y hy).2))
                  have HT8 := Lib.hid (HK8.out.row HT7.out (fun hy => by have h1 := HLT.out _ hy; have h2 := HIB.out; omega))
                  have HTP := Lib.hid htp
                  have HC0 := Lib.hid hc0
                  have HE := Lib.hid hE
                  have HF := Lib.hid hF
                  clear htp hc0 hE hF e1 z4 f0 f1 f2 f3
                  clear a1 a2 a4 a5 g1 g2
                  rcases hcl with rfl | rfl
                  · --<G
                    have h34 : (34 : Int) = 34 := rfl
                    have c3 : c0 = 29 ∨ c0 = 33 ∨ (¬ c0 = 29 ∧ ¬ c0 = 33) := by omega
                    have HSTEP2 := Lib.hid (show Shp.steps c (k + 1) = (let t := { F.first k with dp := setI (F.first k).dp k ((m : Int) - 1) }; if ¬ (c0 = 29 ∨ c0 = 33) ∨ 0 ≤ el then none else some { t with el := setI t.el tp k }) from HSTEP.out.trans (if_pos rfl))
                    clear HSTEP
                    rcases c3 with rfl | rfl | ⟨q1, q2⟩
                    rotate_right
                    · have HNO := Lib.hid (show Shp.steps c (k + 1) = none by rw [HSTEP2.out]; exact if_pos (.inl (by omega)))
                      go_upto_region 20 with fail
                      generalize w7.setCell ⟨d, k, none⟩ (.int .i64 ((m : Int) - 1)) = w8 at *
                      clear a0 a3 f4 g0 g3 hcd y3 y4 y5 y6 y7 y8 y9 y10 HA7 HO7 HOc7 HI7 HT7 HK8
                      have t0 := HT8.out.cell 0 rfl
                      have hS7 := HA8.out.hs
                      have hT7 := HOc8.out.row HT.out HNR.out
                      have hc8 := HA8.out.cells
                      obtain ⟨a0, a1, a2, a3, a4, a5⟩ := hc8
                      have b5 := hS7.free 5
                      have e0 := hT7.cell 0 rfl
                      have e1 := hT7.cell 1 rfl
                      have e2 := hT7.cell 2 rfl
                      have e3 := hT7.cell 3 rfl
                      have e4 := hT7.cell 4 rfl
                      have e5 := hT7.cell 5 rfl
                      have z0 := hT7.free 0
                      have z1 := hT7.free 1
                      have z2 := hT7.free 2
                      have z3 := hT7.free 3
                      have z4 := hT7.free 4
                      have z5 := hT7.free 5
                      have y1 : s ≠ w.heap.size := fun q => HNR.out (by rw [← q]; simp)
                      have y2 : w.heap.size ≠ s := fun q => y1 q.symm
                      have HO9 := Lib.hid (HO8.out.set (p := ⟨s, 5, none⟩) (.inr (HLT.out s (by simp)).1) (.bool false))
                      have HT9 := Lib.hid (hT7.other (a := ⟨s, 5, none⟩) y1 (.bool false))
                      clear hS7 hT7
                      go_wp2_with fail
                      refine bodyPost_ret (results_cell_row rfl _ _ w.heap.size 186 _ (0, 0) _ rfl ((((((HT9.out.set 0 _).set 1 _).set 2 _).set 3 _).set 4 _).set 5 _) Tryz.underlying186 rfl (by kernel_rfl)) rfl ?_
                      exact HFAIL.out _ _ _ HNO.out (by omega) (HO9.out.set6 (Nat.le_refl _) _ _ _ _ _ _)
                    all_goals
                      by_cases hl : 0 ≤ el
                      · have HNO := Lib.hid (show Shp.steps c (k + 1) = none by rw [HSTEP2.out]; exact if_pos (.inr hl))
                        go_upto_region 20 with fail
                        generalize w7.setCell ⟨d, k, none⟩ (.int .i64 ((m : Int) - 1)) = w8 at *
                        clear a0 a3 f4 g0 g3 hcd y3 y4 y5 y6 y7 y8 y9 y10 HA7 HO7 HOc7 HI7 HT7 HK8
                        have t0 := HT8.out.cell 0 rfl
                        have hS7 := HA8.out.hs
                        have hT7 := HOc8.out.row HT.out HNR.out
                        have hc8 := HA8.out.cells
                        obtain ⟨a0, a1, a2, a3, a4, a5⟩ := hc8
                        have b5 := hS7.free 5
                        have e0 := hT7.cell 0 rfl
                        have e1 := hT7.cell 1 rfl
                        have e2 := hT7.cell 2 rfl
                        have e3 := hT7.cell 3 rfl
                        have e4 := hT7.cell 4 rfl
                        have e5 := hT7.cell 5 rfl
                        have z0 := hT7.free 0
                        have z1 := hT7.free 1
                        have z2 := hT7.free 2
                        have z3 := hT7.free 3
                        have z4 := hT7.free 4
                        have z5 := hT7.free 5
                        have y1 : s ≠ w.heap.size := fun q => HNR.out (by rw [← q]; simp)
                        have y2 : w.heap.size ≠ s := fun q => y1 q.symm
                        have HO9 := Lib.hid (HO8.out.set (p := ⟨s, 5, none⟩) (.inr (HLT.out s (by simp)).1) (.bool false))
                        have HT9 := Lib.hid (hT7.other (a := ⟨s, 5, none⟩) y1 (.bool false))
                        clear hS7 hT7
                        have gel := (HA8.out.at htn).2.1
                        have gel' : w8.cell? ⟨e, tp, none⟩ = some (.int .i64 el) := by rw [hel]; exact gel
                        clear gel
                        go_wp2_with fail
                        refine bodyPost_ret (results_cell_row rfl _ _ w.heap.size 186 _ (0, 0) _ rfl ((((((HT9.out.set 0 _).set 1 _).set 2 _).set 3 _).set 4 _).set 5 _) Tryz.underlying186 rfl (by kernel_rfl)) rfl ?_
                        exact HFAIL.out _ _ _ HNO.out (by omega) (HO9.out.set6 (Nat.le_refl _) _ _ _ _ _ _)
                      · have HNXT := Lib.hid (show Shp.steps c (k + 1) = some (let t := { F.first k with dp := setI (F.first k).dp k ((m : Int) - 1) }; { t with el := setI t.el tp k }) by rw [HSTEP2.out]; exact if_neg (by omega))
                        go_upto_region 20 with fail
                        generalize w7.setCell ⟨d, k, none⟩ (.int .i64 ((m : Int) - 1)) = w8 at *
                        clear a0 a3 f4 g0 g3 hcd y3 y4 y5 y6 y7 y8 y9 y10 HA7 HO7 HOc7 HI7 HT7 HK8
                        have t0 := HT8.out.cell 0 rfl
                        have hc8 := HA8.out.cells
                        obtain ⟨_, a1, _, _, _, _⟩ := hc8
                        have gel := (HA8.out.at htn).2.1
                        have gel' : w8.cell? ⟨e, tp, none⟩ = some (.int .i64 el) := by rw [hel]; exact gel
                        clear gel hel
                        have b8 := HA8.out.free.2.2.1 tp
                        go_wp2_with fail
                        have HK9 : Hid (Only [s, o, e, x, d] w8 (w8.setCell ⟨e, tp, none⟩ (.int .i64 k))) := (Only.refl _ _).set (p := ⟨e, tp, none⟩) (.inl (by simp)) _
                        exact ⟨⟨k + 1, { F.first k with dp := setI (F.first k).dp k ((m : Int) - 1), el := setI (F.first k).el tp k }, by omega, by go_num, HI8.out.kept HK9.out (fun y hy => (HLT.out y hy).2), HNXT, Lib.hid (HA8.out.setEl tp k), HO8.out.trans HK9.out (fun y hy => .inr (HLT.out y hy).1), HOc8.out.trans HK9.out (fun y hy => .inl hy)⟩, by simp [intOf]; omega⟩
                    --G>
                  · --<H
                    have HCD := Lib.hid (show ∀ wl, Only [] w wl → wl.cell? ⟨b0, o0 + tp * 3, none⟩ = some (.int .i64 c0) from fun wl ho => by
                      have := HCL.out wl ho tp _ (getI c (by rw [← HN.out]; omega)) 0 _ rfl
                      rw [← HC0.out] at this
                      simpa only [Nat.add_zero] using this)
                    have c3 : c0 = 29 ∨ c0 = 33 ∨ (¬ c0 = 29 ∧ ¬ c0 = 33) := by omega
                    have HSTEP2 := Lib.hid (show Shp.steps c (k + 1) = (let t := { F.first k with dp := setI (F.first k).dp k ((m : Int) - 1) }; if c0 = 33 ∧ el < 0 then none else some { t with en := setI t.en tp k, open_ := t.open_.dropLast }) from HSTEP.out.trans (if_neg (by decide)))
                    clear HSTEP
                    by_cases hbad : c0 = 33 ∧ el < 0
                    · have HNO := Lib.hid (show Shp.steps c (k + 1) = none by rw [HSTEP2.out]; exact if_pos hbad)
                      obtain ⟨rfl, hl⟩ := hbad
                      go_upto_region 20 with fail
                      generalize w7.setCell ⟨d, k, none⟩ (.int .i64 ((m : Int) - 1)) = w8 at *
                      clear a0 a3 f4 g0 g3 hcd y3 y4 y5 y6 y7 y8 y9 y10 HA7 HO7 HOc7 HI7 HT7 HK8
                      have t0 := HT8.out.cell 0 rfl
                      have hcd := HCD.out _ HO8.out
                      have hS7 := HA8.out.hs
                      have hT7 := HOc8.out.row HT.out HNR.out
                      have hc8 := HA8.out.cells
                      obtain ⟨a0, a1, a2, a3, a4, a5⟩ := hc8
                      have b5 := hS7.free 5
                      have e0 := hT7.cell 0 rfl
                      have e1 := hT7.cell 1 rfl
                      have e2 := hT7.cell 2 rfl
                      have e3 := hT7.cell 3 rfl
                      have e4 := hT7.cell 4 rfl
                      have e5 := hT7.cell 5 rfl
                      have z0 := hT7.free 0
                      have z1 := hT7.free 1
                      have z2 := hT7.free 2
                      have z3 := hT7.free 3
                      have z4 := hT7.free 4
                      have z5 := hT7.free 5
                      have y1 : s ≠ w.heap.size := fun q => HNR.out (by rw [← q]; simp)
                      have y2 : w.heap.size ≠ s := fun q => y1 q.symm
                      have HO9 := Lib.hid (HO8.out.set (p := ⟨s, 5, none⟩) (.inr (HLT.out s (by simp)).1) (.bool false))
                      have HT9 := Lib.hid (hT7.other (a := ⟨s, 5, none⟩) y1 (.bool false))
                      clear hS7 hT7
                      have gel := (HA8.out.at htn).2.1
                      have gel' : w8.cell? ⟨e, tp, none⟩ = some (.int .i64 el) := by rw [hel]; exact gel
                      clear gel
                      go_wp2_with fail
                      refine bodyPost_ret (results_cell_row rfl _ _ w.heap.size 186 _ (0, 0) _ rfl ((((((HT9.out.set 0 _).set 1 _).set 2 _).set 3 _).set 4 _).set 5 _) Tryz.underlying186 rfl (by kernel_rfl)) rfl ?_
                      exact HFAIL.out _ _ _ HNO.out (by omega) (HO9.out.set6 (Nat.le_refl _) _ _ _ _ _ _)
                    · have HNXT := Lib.hid (show Shp.steps c (k + 1) = some (let t := { F.first k with dp := setI (F.first k).dp k ((m : Int) - 1) }; { t with en := setI t.en tp k, open_ := t.open_.dropLast }) by rw [HSTEP2.out]; exact if_neg hbad)
                      have HSL := Lib.hid (show ∀ wl, Ints wl w1.heap.size (.slice oa m oc) (F.open_.map fun (y : Nat) => (y : Int)) → Ints wl w1.heap.size (.slice oa (m - 1) oc) (F.open_.dropLast.map fun (y : Nat) => (y : Int)) by
                        intro wl hi
                        rcases hi.form with ⟨h1, h2⟩ | ⟨g, cap, h1, _⟩
                        · simp only [Value.slice.injEq] at h1; omega
                        · simp only [Value.slice.injEq] at h1
                          obtain ⟨rfl, _⟩ := h1
                          have := hi.take (n := m - 1) (by rw [List.length_map, ← HM.out]; omega)
                          rw [← List.map_take, show F.open_.take (m - 1) = F.open_.dropLast by rw [List.dropLast_eq_take, HM.out]] at this
                          exact this)
                      rcases c3 with rfl | rfl | ⟨q1, q2⟩
                      rotate_left
                      · have hl : ¬ el < 0 := fun q => hbad ⟨rfl, q⟩
                        clear hbad
                        go_upto_region 20 with fail
                        generalize w7.setCell ⟨d, k, none⟩ (.int .i64 ((m : Int) - 1)) = w8 at *
                        clear a0 a3 f4 g0 g3 hcd y3 y4 y5 y6 y7 y8 y9 y10 HA7 HO7 HOc7 HI7 HT7 HK8
                        have t0 := HT8.out.cell 0 rfl
                        have hcd := HCD.out _ HO8.out
                        have hc8 := HA8.out.cells
                        obtain ⟨_, a1, a2, _, _, _⟩ := hc8
                        have gel := (HA8.out.at htn).2.1
                        have gel' : w8.cell? ⟨e, tp, none⟩ = some (.int .i64 el) := by rw [hel]; exact gel
                        have gen := (HA8.out.at htn).2.2.1
                        clear gel hel
                        have b8 := HA8.out.free.2.2.2.1 tp
                        have e1 : ((m : Int) - 1).toNat = m - 1 := by omega
                        have e2 : (0 : Int) ≤ (m : Int) - 1 := by omega
                        have e5 : (1 : Int) ≤ (m : Int) := by omega
                        have hmc : m ≤ oc := by
                          rcases HI8.out.form with ⟨h1, h2⟩ | ⟨g, cap, h1, _, _, h3, _⟩
                          · simp only [Value.slice.injEq] at h1; omega
                          · simp only [Value.slice.injEq] at h1; rw [List.length_map, ← HM.out] at h3; omega
                        go_wp2_with fail
                        have HK9 : Hid (Only [s, o, e, x, d] w8 (w8.setCell ⟨x, tp, none⟩ (.int .i64 k))) := (Only.refl _ _).set (p := ⟨x, tp, none⟩) (.inl (by simp)) _
                        exact ⟨⟨k + 1, { F.first k with dp := setI (F.first k).dp k ((m : Int) - 1), en := setI (F.first k).en tp k, open_ := F.open_.dropLast }, by omega, by go_num, HSL.out _ (HI8.out.kept HK9.out (fun y hy => (HLT.out y hy).2)), HNXT, Lib.hid ((HA8.out.setEn tp k).open _), HO8.out.trans HK9.out (fun y hy => .inr (HLT.out y hy).1), HOc8.out.trans HK9.out (fun y hy => .inl hy)⟩, by simp [intOf]; omega⟩
                      all_goals
                        clear hbad
                        go_upto_region 20 with fail
                        generalize w7.setCell ⟨d, k, none⟩ (.int .i64 ((m : Int) - 1)) = w8 at *
                        clear a0 a3 f4 g0 g3 hcd y3 y4 y5 y6 y7 y8 y9 y10 HA7 HO7 HOc7 HI7 HT7 HK8
                        have t0 := HT8.out.cell 0 rfl
                        have hcd := HCD.out _ HO8.out
                        have hc8 := HA8.out.cells
                        obtain ⟨_, a1, a2, _, _, _⟩ := hc8
                        have gen := (HA8.out.at htn).2.2.1
                        have b8 := HA8.out.free.2.2.2.1 tp
                        have e1 : ((m : Int) - 1).toNat = m - 1 := by omega
                        have e2 : (0 : Int) ≤ (m : Int) - 1 := by omega
                        have e5 : (1 : Int) ≤ (m : Int) := by omega
                        have hmc : m ≤ oc := by
                          rcases HI8.out.form with ⟨h1, h2⟩ | ⟨g, cap, h1, _, _, h3, _⟩
                          · simp only [Value.slice.injEq] at h1; omega
                          · simp only [Value.slice.injEq] at h1; rw [List.length_map, ← HM.out] at h3; omega
                        go_wp2_with fail
                        have HK9 : Hid (Only [s, o, e, x, d] w8 (w8.setCell ⟨x, tp, none⟩ (.int .i64 k))) := (Only.refl _ _).set (p := ⟨x, tp, none⟩) (.inl (by simp)) _
                        exact ⟨⟨k + 1, { F.first k with dp := setI (F.first k).dp k ((m : Int) - 1), en := setI (F.first k).en tp k, open_ := F.open_.dropLast }, by omega, by go_num, HSL.out _ (HI8.out.kept HK9.out (fun y hy => (HLT.out y hy).2)), HNXT, Lib.hid ((HA8.out.setEn tp k).open _), HO8.out.trans HK9.out (fun y hy => .inr (HLT.out y hy).1), HOc8.out.trans HK9.out (fun y hy => .inl hy)⟩, by simp [intOf]; omega⟩
                    --H>
              · --<D
                have HNXT := Lib.hid (show Shp.steps c (k + 1) = some (F.first k) by
                  rw [HSUC.out]
                  unfold Shp.step
                  rw [← HIN.out]
                  dsimp only
                  rw [hop, if_neg (by simp), if_neg hcl])
                have h34 : (op == 34) = false := by simp; omega
                have h35 : (op == 35) = false := by simp; omega
                clear hcl hF
                go_wp2_with fail
                exact ⟨⟨k + 1, F.first k, by omega, by go_num, HI7.out, HNXT, HA7, HO7.out, HOc7.out⟩, by simp [intOf]; omega⟩
                --D>
            · --<E
              have HNXT := Lib.hid (show Shp.steps c (k + 1) = some { F.first k with open_ := F.open_ ++ [k], deep := max F.deep (m + 1) } by
                rw [HSUC.out]
                unfold Shp.step
                rw [← HIN.out]
                dsimp only
                rw [hop, if_pos rfl, HM.out]
                rfl)
              go_wp2_with (at_builtin; refine append_int1 rfl _ _ rfl w1.heap.size _ _ rfl (HI7.out.alloc _) w7.heap.size (k : Int) rfl ?c1 ?c2 ?c3 ?c4)
              case c1 => exact (Row.new w7 3 [.int .i64 (k : Int)]).cell 0 rfl
              case c2 => rw [List.length_map, ← HM.out]; omega
              case c3 => have := HOc7.out.size; simp; omega
              case c4 =>
                intro v8 w8 hi8 ho8 hb8
                have e8 : (F.open_.map (fun (y : Nat) => (y : Int))) ++ [(k : Int)] = (F.open_ ++ [k]).map (fun (y : Nat) => (y : Int)) := by rw [List.map_append]; rfl
                rw [e8] at hi8
                have HI8 := Lib.hid hi8
                have HK8 : Hid (Only (Value.slice oa m oc).ownBlock.toList w7 w8) := ((Only.refl (Value.slice oa m oc).ownBlock.toList w7).alloc _).trans ho8 (fun y hy => .inl hy)
                have HBB := Lib.hid (show ∀ y, y ∈ (Value.slice oa m oc).ownBlock.toList → w1.heap.size ≤ y by
                  intro y hy
                  rw [Option.mem_toList] at hy
                  exact (HI7.out.own y hy).1)
                have HO8 := Lib.hid (HO7.out.trans HK8.out (fun y hy => .inr (by have h1 := HBB.out y hy; have h2 := (HLT.out s (by simp)); omega)))
                have HOc8 := Lib.hid (HOc7.out.trans HK8.out (fun y hy => .inr (HBB.out y hy)))
                have HA8 := Lib.hid (HA7.out.only HK8.out (fun y hy => by
                  have h1 := HBB.out y hy
                  have h2 := (HLT.out s (by simp)).2
                  have h3 := (HLT.out o (by simp)).2
                  have h4 := (HLT.out e (by simp)).2
                  have h5 := (HLT.out x (by simp)).2
                  have h6 := (HLT.out d (by simp)).2
                  omega))
                obtain ⟨va8, vc8, hv8⟩ := hi8.len
                rw [List.length_map, List.length_append, List.length_singleton, ← HM.out] at hv8
                subst hv8
                have b4 := HA8.out.hs.free 4
                have a4' : w8.cell? ⟨s, 4, none⟩ = some (.int .i64 (F.deep : Int)) := HA8.out.cells.2.2.2.2.1
                obtain ⟨dp, hdp⟩ : ∃ y, y = F.deep := ⟨_, rfl⟩
                have hdpk : dp ≤ k := by rw [hdp]; exact hF.deep
                rw [← hdp] at a4' HNXT
                clear hi8 ho8 hb8 e8 hdp hop hF
                have ev : (if (dp : Int) < m + 1 then (m : Int) + 1 else dp) = ((max dp (m + 1) : Nat) : Int) := by split <;> omega
                go_wp2_with fail
                have HK9 : Hid (Only [s, o, e, x, d] w8 (w8.setCell ⟨s, 4, none⟩ (.int .i64 ((max dp (m + 1) : Nat) : Int)))) := (Only.refl _ _).set (p := ⟨s, 4, none⟩) (.inl (by simp)) _
                refine ⟨⟨k + 1, { F.first k with open_ := F.open_ ++ [k], deep := max dp (m + 1) }, by omega, by go_num, ?_, HNXT, Lib.hid ((HA8.out.setDeep (max dp (m + 1))).open _), HO8.out.trans HK9.out (fun y hy => .inr (HLT.out y hy).1), HOc8.out.trans HK9.out (fun y hy => .inl hy)⟩, by simp [intOf]; omega⟩
                have := HI8.out.kept HK9.out (fun y hy => (HLT.out y hy).2)
                exact this
              --E>
      · --<I
        obtain rfl : k = n := by omega
        have HSH := Lib.hid (show shape c = some F by unfold shape; rw [← HN.out]; exact HS.out)
        obtain ⟨a0, a1, a2, a3, a4, a5⟩ := HA.out.cells
        obtain ⟨f0, _⟩ := HA.out.free
        have b5 := f0 5
        have hT7 := HOc.out.row HT.out HNR.out
        have e0 := hT7.cell 0 rfl
        have e1 := hT7.cell 1 rfl
        have e2 := hT7.cell 2 rfl
        have e3 := hT7.cell 3 rfl
        have e4 := hT7.cell 4 rfl
        have e5 := hT7.cell 5 rfl
        have z0 := hT7.free 0
        have z1 := hT7.free 1
        have z2 := hT7.free 2
        have z3 := hT7.free 3
        have z4 := hT7.free 4
        have z5 := hT7.free 5
        have y1 : s ≠ w.heap.size := fun q => HNR.out (by rw [← q]; simp)
        have y2 : w.heap.size ≠ s := fun q => y1 q.symm
        have HT8 := Lib.hid (fun v : Value => hT7.other (a := ⟨s, 5, none⟩) y1 v)
        have HO8 := Lib.hid (fun v : Value => HO.out.set (p := ⟨s, 5, none⟩) (.inr (HLT.out s (by simp)).1) v)
        have HOKX := Lib.hid (show ∀ (okv : Bool) (wx : World), okv = nestOk c → Only [] w wx → Row wx o 3 (nmV k F.op) → Row wx e 3 (nmV k F.el) → Row wx x 3 (nmV k F.en) → Row wx d 3 (nmV k F.dp) →
            R (.returned (.agg #[.slice (some ⟨o, 0, none⟩) k k, .slice (some ⟨e, 0, none⟩) k k, .slice (some ⟨x, 0, none⟩) k k, .slice (some ⟨d, 0, none⟩) k k, .int .i64 F.deep, .bool okv])) wx by
          intro okv wx h1 h2 h3 h4 h5 h6
          refine hR.out _ _ ⟨o, e, x, d, F, (F.deep : Int), ?_, h2, fun _ => ⟨HSH.out, rfl, ?_, ?_, ?_, ?_⟩⟩
          · rw [h1, ← HN.out]
          · rw [← HN.out]; exact h3
          · rw [← HN.out]; exact h4
          · rw [← HN.out]; exact h5
          · rw [← HN.out]; exact h6)
        have HROWS := Lib.hid (show ∀ (v0 v1 v2 v3 v4 v5 v : Value), (fun wx => Row wx o 3 (nmV k F.op) ∧ Row wx e 3 (nmV k F.el) ∧ Row wx x 3 (nmV k F.en) ∧ Row wx d 3 (nmV k F.dp)) (((((((wr.setCell ⟨s, 5, none⟩ v).setCell ⟨w.heap.size, 0, none⟩ v0).setCell ⟨w.heap.size, 1, none⟩ v1).setCell ⟨w.heap.size, 2, none⟩ v2).setCell ⟨w.heap.size, 3, none⟩ v3).setCell ⟨w.heap.size, 4, none⟩ v4).setCell ⟨w.heap.size, 5, none⟩ v5) by
          intro v0 v1 v2 v3 v4 v5 v
          have ne := HA.out.ne
          have ge := HA.out.ge
          have key : ∀ y T cs, Row wr y T cs → y ≠ s → y ≠ w.heap.size → Row (((((((wr.setCell ⟨s, 5, none⟩ v).setCell ⟨w.heap.size, 0, none⟩ v0).setCell ⟨w.heap.size, 1, none⟩ v1).setCell ⟨w.heap.size, 2, none⟩ v2).setCell ⟨w.heap.size, 3, none⟩ v3).setCell ⟨w.heap.size, 4, none⟩ v4).setCell ⟨w.heap.size, 5, none⟩ v5) y T cs := fun y T cs hr h1 h2 =>
            ((((((hr.other (a := ⟨s, 5, none⟩) (fun q => h1 q.symm) _).other (a := ⟨w.heap.size, 0, none⟩) (fun q => h2 q.symm) _).other (a := ⟨w.heap.size, 1, none⟩) (fun q => h2 q.symm) _).other (a := ⟨w.heap.size, 2, none⟩) (fun q => h2 q.symm) _).other (a := ⟨w.heap.size, 3, none⟩) (fun q => h2 q.symm) _).other (a := ⟨w.heap.size, 4, none⟩) (fun q => h2 q.symm) _).other (a := ⟨w.heap.size, 5, none⟩) (fun q => h2 q.symm) _
          exact ⟨key _ _ _ HA.out.ho (by omega) (by omega), key _ _ _ HA.out.he (by omega) (by omega), key _ _ _ HA.out.hx (by omega) (by omega), key _ _ _ HA.out.hd (by omega) (by omega)⟩)
        have HNK := Lib.hid (show nestOk c = (decide (m = 0) && decide (F.deep ≤ 6)) by
          unfold nestOk
          rw [HSH.out]
          show (decide (F.open_ = []) && _) = _
          congr 1
          rw [HM.out]
          cases F.open_ <;> simp)
        obtain ⟨dp, hdp⟩ : ∃ y, y = F.deep := ⟨_, rfl⟩
        rw [← hdp] at a4 HOKX HNK
        clear hT7 f0 hF hdp
        by_cases h0 : m = 0
        · subst h0
          go_wp2_with fail
          all_goals
            refine bodyPost_ret (results_cell_row rfl _ _ w.heap.size 186 _ (0, 0) _ rfl (((((((HT8.out _).set 0 _).set 1 _).set 2 _).set 3 _).set 4 _).set 5 _) Tryz.underlying186 rfl (by kernel_rfl)) rfl ?_
            obtain ⟨r1, r2, r3, r4⟩ := HROWS.out _ _ _ _ _ _ _
            refine HOKX.out _ _ ?_ ((HO8.out _).set6 (Nat.le_refl _) _ _ _ _ _ _) r1 r2 r3 r4
            rw [HNK.out]
            simp
            try omega
        · have hm0 : ((m : Int) == 0) = false := by simp; omega
          go_wp2_with fail
          refine bodyPost_ret (results_cell_row rfl _ _ w.heap.size 186 _ (0, 0) _ rfl (((((((HT8.out _).set 0 _).set 1 _).set 2 _).set 3 _).set 4 _).set 5 _) Tryz.underlying186 rfl (by kernel_rfl)) rfl ?_
          obtain ⟨r1, r2, r3, r4⟩ := HROWS.out _ _ _ _ _ _ _
          refine HOKX.out _ _ ?_ ((HO8.out _).set6 (Nat.le_refl _) _ _ _ _ _ _) r1 r2 r3 r4
          rw [HNK.out, decide_eq_false h0]
          rfl
        --I>
end Go.Proofs.YtkacgbigeobncaaGreat
