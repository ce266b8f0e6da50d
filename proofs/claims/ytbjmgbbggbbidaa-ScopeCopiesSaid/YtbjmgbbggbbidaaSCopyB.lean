/- Contracts of package scope: Copy, the walk. -/
import Derived.Test.YtbjmgbbggbbidaaSCopy
import Derived.Outline
namespace Go.Proofs.Ytbjmgbbggbbidaa
open Go.RowKit Go.Maps
set_option maxHeartbeats 3200000
set_option maxRecDepth 100000
set_option linter.unusedVariables false
section
variable {L : Nat → Option Lb} {p : Nat} {P : Pm} {X : PX}
theorem only_dm (w : World) (o : Obj) : Only [] w (w.alloc o).drew := ((Only.refl [] w).alloc o).drew
theorem only_d1 (w : World) : Only [] w w.drew := (Only.refl [] w).drew
/-- A bound on the entries, from a map that has all its keys. -/
theorem MapAt.tight {w w2 : World} {mb n mb2 m : Nat} {f f0 : Int → Option Nat} (h : MapAt w mb n f) (h0 : MapAt w2 mb2 m f0) (hs : ∀ k, wfI k → (f k).isSome = true → (f0 k).isSome = true) : MapAt w mb m f := by
  obtain ⟨D, hD, hf⟩ := h
  obtain ⟨D0, hD0, hf0⟩ := h0
  refine ⟨D, ?_, hf⟩
  have h1 := (size_sub (hD.canon keyedI) (hD0.canon keyedI) (has_sub hD hf hf0 hs)).1
  have h2 := hD0.size_le
  obtain ⟨es, clock, hb, F, hn, rfl⟩ := hD
  have e1 : Maps.size (DataW.map ((es.toList.map (WideElems.rg Try.prog 3 ptrElem)).foldr DataW.insert [])) = es.size := by simp [Maps.size, length_sorted]
  exact ⟨es, clock, hb, F, by omega, rfl⟩
theorem PRep.stkCongr {w : World} {stk' : Nat → List Int} (h : PRep w L p P X) (he : ∀ t, t < 5 → P.stk t = stk' t) : PRep w L p { P with stk := stk' } X :=
  ⟨h.lt, h.mem, h.Lm, h.sc, fun t ht => by have := h.st t ht; rw [he t ht] at this; exact this, h.mp, h.Lp, h.th⟩
theorem cloned_lift {w w' : World} {b b' : Nat} {v : Value} {l : List Sp} (hb : b' ≤ b) (ho : Only [] w w') (h : (l = [] ∧ v = .slice none 0 0) ∨ ∃ g cap T cs, v = .slice (some ⟨g, 0, none⟩) l.length cap ∧ Row w g T cs ∧ b ≤ g ∧ ∀ j s, l[j]? = some s → ∀ r, r < 5 → cs[j * 5 + r]? = some (.int .i64 (s.fld r))) :
    (l = [] ∧ v = .slice none 0 0) ∨ ∃ g cap T cs, v = .slice (some ⟨g, 0, none⟩) l.length cap ∧ Row w' g T cs ∧ b' ≤ g ∧ ∀ j s, l[j]? = some s → ∀ r, r < 5 → cs[j * 5 + r]? = some (.int .i64 (s.fld r)) := by
  rcases h with h | ⟨g, cap, T, cs, h1, h2, h3, h4⟩
  · exact .inl h
  · exact .inr ⟨g, cap, T, cs, h1, ho.row h2 (by simp), by omega, h4⟩
theorem cloned_own {w : World} {b g : Nat} {v : Value} {l : List Sp} (h : (l = [] ∧ v = .slice none 0 0) ∨ ∃ g cap T cs, v = .slice (some ⟨g, 0, none⟩) l.length cap ∧ Row w g T cs ∧ b ≤ g ∧ ∀ j s, l[j]? = some s → ∀ r, r < 5 → cs[j * 5 + r]? = some (.int .i64 (s.fld r))) (hg : v.ownBlock = some g) : b ≤ g ∧ g < w.heap.size := by
  rcases h with ⟨_, rfl⟩ | ⟨g', cap, T, cs, rfl, h2, h3, _⟩
  · cases hg
  · cases hg; exact ⟨h3, h2.lt⟩
/-- The objects that have come. -/
def partOb (ob : Int → Option Th) (left : Lit → Bool) (k : Int) : Option Th := if left (.int .i64 k) then none else ob k
theorem clone_as {f : FuncId} {v : Value} {n : Nat} {a : Option Addr} {c : Nat} {l : List Int} {w w0 : World} (h : Calls Try.prog f #[v] w fun e w' => ∃ v', e = .returned v' ∧ Ints w' w0.heap.size v' l ∧ Only [] w w') (hv : v = .slice a l.length c) (hn : n = l.length) :
    Calls Try.prog f #[.slice a n c] w fun e w' => ∃ v', e = .returned v' ∧ Ints w' w0.heap.size v' l ∧ Only [] w w' := by
  rw [hn, ← hv]; exact h
theorem idxStk (X : PX) (k : Nat) (hk : k < 5) (wx : World) : (Instr.index 55 (.agg #[X.sv 0, X.sv 1, X.sv 2, X.sv 3, X.sv 4]) (.int .i64 k)).run Try.prog wx = .ok (X.sv k) wx :=
  run_index_agg wx 55 22 5 _ k _ Try.underlying55 _ Try.underlying22 rfl (by kernel_rfl) hk (by match k, hk with | 0, _ => rfl | 1, _ => rfl | 2, _ => rfl | 3, _ => rfl | 4, _ => rfl)
theorem cloned_len {w : World} {b : Nat} {v : Value} {l : List Sp} (h : (l = [] ∧ v = .slice none 0 0) ∨ ∃ g cap T cs, v = .slice (some ⟨g, 0, none⟩) l.length cap ∧ Row w g T cs ∧ b ≤ g ∧ ∀ j s, l[j]? = some s → ∀ r, r < 5 → cs[j * 5 + r]? = some (.int .i64 (s.fld r))) : ∃ a c, v = .slice a l.length c := by
  rcases h with ⟨rfl, rfl⟩ | ⟨g, cap, T, cs, rfl, _⟩
  · exact ⟨_, _, rfl⟩
  · exact ⟨_, _, rfl⟩
theorem copy_rep (w : World) (h : PRep w L p P X) (hok : P.ok) :
    Calls Try.prog 42 #[.pointer (some ⟨p, 0, none⟩)] w fun e w' => ∃ q L' X', e = .returned (.pointer (some ⟨q, 0, none⟩)) ∧ PRep w' L' q P X' ∧ (∀ k, L' k ≠ none → w.heap.size ≤ k) ∧ Only [] w w' := by
  refine calls_abs fun R hR => ?_
  have n1 := none_rep w h
  have c0 := h.cells.1
  have c7 := h.cells.2.2.2.1
  have hcl : ∀ wx, Only [] w wx → Calls Try.prog 71 #[X.scv] wx _ := fun wx ho => clone_scopes wx X.scv P.scs (h.only0 ho).sc.spRead (by have := hok.n6; omega)
  obtain ⟨va, vc, hv⟩ := h.sc.spRead.len
  rw [hv] at c0 hcl
  have HCL := Lib.hid hcl
  have H := Lib.hid h
  have OK := Lib.hid hok
  have hmm := @run_makeMap Try.prog
  have d0 : w.drew.cell? ⟨p, 0, none⟩ = _ := c0
  have d7 : w.drew.cell? ⟨p, 7, none⟩ = _ := c7
  obtain ⟨mm, hm⟩ : ∃ m, m = P.made := ⟨_, rfl⟩
  rw [← hm] at d7
  have HMD := Lib.hid hm
  have hplt : p < w.heap.size := World.block_lt_of_cell? w _ c0
  clear h hok hcl hv c0 c7 hm
  go_enter Try.func42, Try.ntmps42
  go_wp2_with fail
  refine n1.mono ?_
  rintro e _ ⟨rfl, rfl⟩
  clear n1
  go_wp2_with fail
  go_region_held3 (fun w' => w'.cell? ⟨p, 0, none⟩ = some (.slice va P.scs.length vc) ∧ w'.cell? ⟨p, 7, none⟩ = some (.int .i64 mm))
    (first
      | (exact ⟨d0, d7⟩)
      | (exact ⟨(only_dm w _).cellN d0, (only_dm w _).cellN d7⟩)
      | (exact ⟨ho3.cellN d0, ho3.cellN d7⟩)
      | (exact ⟨(ho3.alloc _).cellN d0, (ho3.alloc _).cellN d7⟩)
      | (exact ⟨((ho3.alloc _).alloc _).cellN d0, ((ho3.alloc _).alloc _).cellN d7⟩)
      | (exact ⟨(ho3.cellN ((only_dm w _).cellN d0)), (ho3.cellN ((only_dm w _).cellN d7))⟩)
      | (exact ⟨((ho3.alloc _).cellN ((only_dm w _).cellN d0)), ((ho3.alloc _).cellN ((only_dm w _).cellN d7))⟩))
    (first
      | (go_at_call 71; refine (HCL.out _ (by first | exact only_d1 w | exact only_dm w _)).mono ?_; rintro e w3 ⟨v3, rfl, hv3, ho3⟩; obtain ⟨va3, vc3, hv3e⟩ := cloned_len hv3; subst hv3e; have HV3 := Lib.hid hv3; clear hv3))
  · have hA1 : Only [] w3 ((w3.alloc (.map #[] 0)).alloc (.cells #[.slice va3 P.scs.length vc3, .slice none 0 0, .slice none 0 0, .slice none 0 0, .slice none 0 0, .slice none 0 0, .map (some w3.heap.size), .int .i64 mm] 58)) := ((Only.refl [] w3).alloc _).alloc _
    have hRow : Row ((w3.alloc (.map #[] 0)).alloc (.cells #[.slice va3 P.scs.length vc3, .slice none 0 0, .slice none 0 0, .slice none 0 0, .slice none 0 0, .slice none 0 0, .map (some w3.heap.size), .int .i64 mm] 58)) (w3.heap.size + 1) 58 [.slice va3 P.scs.length vc3, .slice none 0 0, .slice none 0 0, .slice none 0 0, .slice none 0 0, .slice none 0 0, .map (some w3.heap.size), .int .i64 mm] := by
      have := Row.new (w3.alloc (.map #[] 0)) 58 [.slice va3 P.scs.length vc3, .slice none 0 0, .slice none 0 0, .slice none 0 0, .slice none 0 0, .slice none 0 0, .map (some w3.heap.size), .int .i64 mm]
      rwa [World.size_alloc] at this
    have hMap : MapAt ((w3.alloc (.map #[] 0)).alloc (.cells #[.slice va3 P.scs.length vc3, .slice none 0 0, .slice none 0 0, .slice none 0 0, .slice none 0 0, .slice none 0 0, .map (some w3.heap.size), .int .i64 mm] 58)) w3.heap.size 0 (fun _ => none) := (MapAt.made w3).only ((OnlyP.refl (fun _ => False) _).alloc _) (fun x => x)
    have hO5 : Only [] w ((w3.alloc (.map #[] 0)).alloc (.cells #[.slice va3 P.scs.length vc3, .slice none 0 0, .slice none 0 0, .slice none 0 0, .slice none 0 0, .slice none 0 0, .map (some w3.heap.size), .int .i64 mm] 58)) := (((only_d1 w).trans ho3 (by simp)).alloc _).alloc _
    have hsz3 := ho3.size
    obtain ⟨L1, X1, q1, q2, q3⟩ := copyStart (w := w) hO5 (cloned_lift (b' := w.heap.size) (by simp) hA1 HV3.out) (fun g hg => by have := cloned_own HV3.out hg; simp at this ⊢; omega) hRow hMap (by simp at hsz3; omega) (by simp at hsz3; omega) (by omega)
    generalize ((w3.alloc (.map #[] 0)).alloc (.cells #[.slice va3 P.scs.length vc3, .slice none 0 0, .slice none 0 0, .slice none 0 0, .slice none 0 0, .slice none 0 0, .map (some w3.heap.size), .int .i64 mm] 58)) = w5 at *
    generalize w3.heap.size + 1 = q at *
    have HQ1 := Lib.hid q1
    have HQ2 := Lib.hid q2
    have HO5 := Lib.hid hO5
    clear q1 q2 q3 hA1 hRow hMap hO5 hsz3 ho3 HV3 d0 d7 hmm
    go_wp2_with (refine wpList_load_agg rfl 55 _ rfl p 1 rfl [X.sv 0, X.sv 1, X.sv 2, X.sv 3, X.sv 4] _ Try.underlying55 rfl (by kernel_rfl) (fun j v hv => ?_) ?_)
    · have hj : j < 5 := (List.getElem?_eq_some_iff.1 hv).1
      have := (H.out.only0 HO5.out).cells.2.1 j hj
      match j, hj, hv with
      | 0, _, hv => cases hv; exact this
      | 1, _, hv => cases hv; exact this
      | 2, _, hv => cases hv; exact this
      | 3, _, hv => cases hv; exact this
      | 4, _, hv => cases hv; exact this
    go_loopw [26] (fun iv wr => ∃ (k : Nat) (L1 : Nat → Option Lb) (X1 : PX), k ≤ 5 ∧ iv = .int .i64 k ∧ PRep wr L1 q ⟨P.scs, firstStk P k, fun _ => none, mm⟩ X1 ∧ Hid (∀ j, L1 j ≠ none → w.heap.size ≤ j) ∧ Only [] w wr) (fun iv _ => 5 - (intOf iv).toNat)
    case atStart => exact ⟨0, L1, X1, by omega, rfl, HQ1.out, HQ2, HO5.out⟩
    case round =>
      clear HQ1 HQ2 HO5 L1 X1
      obtain ⟨k, L1, X1, hk, rfl, hq1, HQ2, ho⟩ := hrel
      have HQ1 := Lib.hid hq1
      have HO := Lib.hid ho
      clear hq1 ho
      by_cases hlt : k < 5
      · have hlt1 : (k : Int) < 5 := by omega
        have hk0 : (0 : Int) ≤ k := by omega
        have hix := idxStk X k hlt
        have hs := OK.out.s1 k hlt
        have QD : Hid (Only [] w wr.drew) := HO.out.drew
        have f0 : Hid (∀ wx, Only [] wr wx → (wx.cell? ⟨q, 1 + k, none⟩ = some (X1.sv k)) ∧ wx.frozen? ⟨q, 1 + k, none⟩ = false) := fun wx hox => ⟨(HQ1.out.only0 hox).cells.2.1 k hlt, (HQ1.out.only0 hox).cells.2.2.2.2 _⟩
        obtain ⟨ga, gc, hgv, _⟩ := H.out.stk OK.out hlt
        rw [hgv] at hix
        have HGV := Lib.hid hgv
        obtain ⟨ng, hng⟩ : ∃ n, n = (P.stk k).length := ⟨_, rfl⟩
        rw [← hng] at hix
        have HNG := Lib.hid hng
        have HCL2 : Hid (∀ wx, Only [] w wx → Calls Try.prog 50 #[.slice (some ⟨ga, 0, none⟩) ng gc] wx (fun e w' => ∃ v', e = .returned v' ∧ Ints w' wx.heap.size v' (P.stk k) ∧ Only [] wx w')) := fun wx hox => clone_as (clone_own wx (X.sv k) (P.stk k) ((H.out.only0 hox).st k hlt).1 (by omega)) HGV.out HNG.out
        clear hgv hs hng
        go_wp2_with fail
        go_region_held3 (fun _ => True) (trivial)
          (first
            | (go_at_call 50; refine (HCL2.out _ QD.out).mono ?_; rintro e w3 ⟨v3, rfl, hi3, ho3⟩; obtain ⟨va4, vc4, hv4⟩ := hi3.len; subst hv4; have cst := (f0.out w3 ((only_d1 wr).trans ho3 (by simp))).1; have fst := (f0.out w3 ((only_d1 wr).trans ho3 (by simp))).2))
        obtain ⟨L2, X2, r1, r2, _, _, _⟩ := HQ1.out.stacked hlt (w1 := w3) (v := .slice va4 (P.stk k).length vc4) (l := P.stk k) (((only_d1 wr).trans ho3 (by simp)).mono (by simp)) (hi3.base (Nat.zero_le _)) (fun g hg => .inr (hi3.own g hg))
        have HR1 := Lib.hid r1
        have HR2 : Hid (∀ j, L2 j ≠ none → w.heap.size ≤ j) := fun j hj => by
          rcases r2 j hj with h1 | h1
          · exact HQ2.out j h1
          · have := HO.out.size; omega
        have HO6 : Hid (Only [] w (w3.setCell ⟨q, 1 + k, none⟩ (.slice va4 (P.stk k).length vc4))) := (HO.out.trans ((only_d1 wr).trans ho3 (by simp)) (by simp)).set (.inr (HQ2.out q (by rw [HQ1.out.Lm]; simp))) _
        clear r1 r2 hi3 ho3 cst fst
        go_wp2_with fail
        refine ⟨⟨k + 1, L2, X2, by omega, by go_num, HR1.out.stkCongr (fun t ht => ?_), HR2, HO6.out⟩, by simp [intOf]; omega⟩
        show upd (firstStk P k) k (P.stk k) t = firstStk P (k + 1) t
        unfold firstStk
        by_cases e : t = k
        · subst e; rw [upd_same, if_pos (by omega)]
        · rw [upd_other _ _ e]
          by_cases e2 : t < k
          · rw [if_pos e2, if_pos (by omega)]
          · rw [if_neg e2, if_neg (by omega)]
      · have hk5 : (5 : Int) ≤ k := by omega
        have HK5 : Hid (k = 5) := by show k = 5; omega
        have HQ1' : Hid (PRep wr L1 q ⟨P.scs, P.stk, fun _ => none, mm⟩ X1) := HQ1.out.stkCongr (fun t ht => by show firstStk P k t = _; unfold firstStk; rw [if_pos (by have := HK5.out; omega)])
        clear HQ1
        have m6 := (H.out.only0 HO.out).cells.2.2.1
        obtain ⟨D0, hown, hdat0⟩ := (H.out.only0 HO.out).mp
        have hdat : DatIs D0 (fun k => (P.ob k).map fun _ => X.blk k) := hdat0
        have HD := Lib.hid hdat
        have HMP := Lib.hid H.out.mp
        have HXM : Hid (X.mb < w.heap.size) := H.out.mp.lt
        obtain ⟨mb, hmb⟩ : ∃ m, m = X.mb := ⟨_, rfl⟩
        rw [← hmb] at m6 hown HXM HMP
        have OWN := Lib.hid hown
        clear hdat hdat0 hown hmb
        go_wp2_with (at_range; refine wpList_range_own _ rfl _ 56 rfl 3 74 keyedI Try.underlying56 ptrElem mb P.made D0 rfl OWN.out ?_; intro w4 hrg0 hg0 hs0)
        go_frame
        obtain ⟨ri, hri⟩ : ∃ r, r = wr.heap.size := ⟨_, rfl⟩
        rw [← hri] at hrg0 ⊢
        have HRI : Hid (w.heap.size ≤ ri) := by show _ ≤ _; rw [hri]; exact HO.out.size
        have HLR : Hid (L1 ri = none) := by
          show _ = _
          cases e : L1 ri with
          | none => rfl
          | some ℓ => have := HQ1'.out.lt ri (by rw [e]; simp); omega
        have HP4 : Hid (PRep w4 L1 q ⟨P.scs, P.stk, fun _ => none, mm⟩ X1) := HQ1'.out.only (S := fun _ => False) ((OnlyP.refl _ wr).grown hg0 (fun k hk => by cases hk)) (fun _ x => x.elim)
        have HO4 : Hid (Only [] w w4) := HO.out.grown hg0 (fun k hk => by cases hk)
        clear hri hg0 hs0 m6
        go_loopw [6] (fun _ wr => ∃ left cnt L1 X1, wr.ranges Try.prog 3 ptrElem mb ri P.made D0 left cnt ∧ PRep wr L1 q ⟨P.scs, P.stk, partOb P.ob left, mm⟩ X1 ∧ Hid (∀ j, L1 j ≠ none → w.heap.size ≤ j) ∧ Hid (L1 ri = none) ∧ Only [] w wr) (fun _ wr => wr.rangeLeft mb ri)
        case atStart =>
          refine ⟨_, _, L1, X1, hrg0, ?_, HQ2, HLR, HO4.out⟩
          have e : partOb P.ob (Maps.has D0) = fun _ => none := by
            funext k
            unfold partOb
            cases ho : P.ob k with
            | none => simp
            | some t =>
              have h1 := OK.out.th k t ho
              have h5 := OK.out.md
              have := (HD.out k (wfI_mk (k := k) (by omega))).1
              simp only [ho] at this
              rw [if_pos (by rw [this]; rfl)]
          rw [e]
          exact HP4.out
        case round =>
          clear hrg0 HP4 HO4 HLR HQ2 HQ1' HO L1 X1 OWN
          obtain ⟨left, cnt, L1, X1, hrg, hP, HQ2, HLR, hO⟩ := hrel
          have HRG := Lib.hid hrg
          have HP := Lib.hid hP
          have HO := Lib.hid hO
          clear hrg hP hO
          go_wp2_with (at_next; refine wpList_next_things rfl _ rfl mb ri P.made D0 left cnt _ HD.out rfl HRG.out ?_ ?_)
          · intro _ hl0
            have HL0 := Lib.hid hl0
            clear hl0
            go_wp2_with fail
            refine hR.out _ _ ⟨q, L1, X1, rfl, ?_, HQ2.out, HO.out⟩
            have e : (⟨P.scs, P.stk, partOb P.ob left, mm⟩ : Pm) = P := by
              have : partOb P.ob left = P.ob := by
                funext k
                unfold partOb
                rw [if_neg (by rw [HL0.out]; simp)]
              rw [this, HMD.out]
            rw [← e]
            exact HP.out
          · intro k c w5 cnt5 hwk hlk t ht hc hrg5 hlt hg5 hs5 hen
            have O5 : OnlyP (· = ri) wr w5 := (OnlyP.refl _ wr).grown hg5 (fun j hj => by cases hj; exact .inl rfl)
            have QO5 : Only [] w w5 := HO.out.grown hg5 (fun j hj => by cases hj; exact .inr HRI.out)
            have P5 : PRep w5 L1 q ⟨P.scs, P.stk, partOb P.ob left, mm⟩ X1 := HP.out.only O5 (fun x hx => by rw [hx]; exact HLR.out)
            obtain ⟨⟨T, hrow⟩, _, hints, _⟩ := (H.out.only0 QO5).th k t ht
            have hrow : Row w5 c T [.int .i64 t.area, .int .i64 t.blocks, X.rv k] := by rw [← hc]; exact hrow
            have e6 : w5.drew.cell? ⟨q, 6, none⟩ = some (.map (some X1.mb)) := P5.cells.2.2.1
            have c0 : w5.drew.cell? ⟨c, 0, none⟩ = _ := hrow.cell 0 rfl
            have c1 : w5.drew.cell? ⟨c, 1, none⟩ = _ := hrow.cell 1 rfl
            have c2 : w5.drew.cell? ⟨c, 2, none⟩ = _ := hrow.cell 2 rfl
            obtain ⟨va2, vc2, hv2⟩ := hints.len
            have hrl := (OK.out.th k t ht).2.2.2.2.2.2.1
            have hmd := OK.out.md
            rw [← HMD.out] at hmd
            obtain ⟨nr, hnr⟩ : ∃ n, n = t.refs.length := ⟨_, rfl⟩
            rw [hv2, ← hnr] at c2
            have HNR := Lib.hid hnr
            have HCL3 : Hid (∀ wx, Only [] w wx → Calls Try.prog 50 #[.slice va2 nr vc2] wx (fun e w' => ∃ v', e = .returned v' ∧ Ints w' wx.heap.size v' t.refs ∧ Only [] wx w')) := fun wx hox => clone_as (clone_own wx (X.rv k) t.refs ((H.out.only0 hox).th k t ht).2.2.1 (by omega)) hv2 hnr
            obtain ⟨mb1, hmb1⟩ : ∃ m, m = X1.mb := ⟨_, rfl⟩
            rw [← hmb1] at e6
            have hmap5 : MapAt w5 mb1 mm (fun j => (partOb P.ob left j).map fun _ => X1.blk j) := by rw [hmb1]; exact P5.mp
            have hlm1 : L1 mb1 = some .map := by rw [hmb1]; exact P5.Lp
            have hlq : L1 q = some .mem := P5.Lm
            have hne1 : mb1 ≠ q := by rintro rfl; rw [hlm1] at hlq; cases hlq
            have hne2 : c ≠ mb1 := by
              rintro rfl
              have h1 := HQ2.out c (by rw [hlm1]; simp)
              have h2 := (H.out.th k t ht).2.1
              rw [hc] at h2
              have := H.out.lt c (by rw [h2]; simp)
              omega
            have hne3 : mb ≠ mb1 := by
              rintro rfl
              have h1 := HQ2.out mb (by rw [hlm1]; simp)
              have := HXM.out
              omega
            have hne4 : ri ≠ mb1 := by
              rintro rfl
              have := HLR.out
              rw [hlm1] at this; cases this
            have hmeas : cnt5 < wr.rangeLeft mb ri := by rw [HRG.out.left_eq]; exact hlt
            have hri5 : ri < w5.heap.size := hrg5.lt
            have HRI5 := Lib.hid hri5
            have HP5 := Lib.hid P5
            have HMAP5 := Lib.hid hmap5
            have HO5 := Lib.hid QO5
            have QD5 : Hid (Only [] w w5.drew) := QO5.drew
            have HWK : Hid (wfI k) := hwk
            have HT := Lib.hid ht
            have HRG5 := Lib.hid hrg5
            have HLK := Lib.hid hlk
            have HMB1 := Lib.hid hmb1
            have HLM1 := Lib.hid hlm1
            obtain ⟨ar, har⟩ : ∃ z, z = t.area := ⟨_, rfl⟩
            obtain ⟨bl, hbl⟩ : ∃ z, z = t.blocks := ⟨_, rfl⟩
            rw [← har] at c0
            rw [← hbl] at c1
            have HAR := Lib.hid har
            have HBL := Lib.hid hbl
            clear O5 QO5 P5 hrow hints hv2 hrl hmap5 hwk ht hc hrg5 hlk hnr hmb1 hlt hg5 hs5 hri5 har hbl hlm1 hlq
            go_wp2_with fail
            go_region_held3 (fun w' => w'.cell? ⟨q, 6, none⟩ = some (.map (some mb1)) ∧ w'.cell? ⟨c, 0, none⟩ = some (.int .i64 ar) ∧ w'.cell? ⟨c, 1, none⟩ = some (.int .i64 bl) ∧ w'.cell? ⟨c, 2, none⟩ = some (.slice va2 nr vc2))
              (first
                | (exact ⟨e6, c0, c1, c2⟩)
                | (exact ⟨z6, z0, z1, z2⟩)
                | (exact ⟨ho6.cellN e6, ho6.cellN c0, ho6.cellN c1, ho6.cellN c2⟩)
                | (exact ⟨(ho6.alloc _).cellN e6, (ho6.alloc _).cellN c0, (ho6.alloc _).cellN c1, (ho6.alloc _).cellN c2⟩))
              (first
                | (go_at_call 50; refine (HCL3.out _ QD5.out).mono ?_; rintro e w6 ⟨v6, rfl, hi6, ho6⟩; obtain ⟨va6, vc6, hv6⟩ := hi6.len; subst hv6; obtain ⟨w7, hrun7, hm7, hg7⟩ := MapAt.store (b := w6.heap.size) (((HMAP5.out.only ((OnlyP.refl (fun _ => False) w5).drew) (fun x => x)).only (ho6.toP0 (S := fun _ => False)) (fun x => x)).only ((OnlyP.refl (fun _ => False) w6).alloc (.cells #[.int .i64 ar, .int .i64 bl, .slice va6 t.refs.length vc6] 78)) (fun x => x)) (by omega) HWK.out; have O7 := ((OnlyP.refl (· = mb1) w6).alloc (.cells #[.int .i64 ar, .int .i64 bl, .slice va6 t.refs.length vc6] 78)).grown hg7 (fun j hj => by cases hj; exact .inl rfl); have z6 := O7.cell (ho6.cellN e6) (fun x => hne1 x.symm); have z0 := O7.cell (ho6.cellN c0) hne2; have z1 := O7.cell (ho6.cellN c1) hne2; have z2 := O7.cell (ho6.cellN c2) hne2))
            have hs6 : w5.heap.size ≤ w6.heap.size := ho6.size
            have hs7 : w6.heap.size < w7.heap.size := by have := hg7.size; simp at this; omega
            have hmlt : mb1 < w5.heap.size := HMAP5.out.lt
            have hO57 : OnlyP (· = mb1) w5 w7 := (((only_d1 w5).trans ho6 (by simp)).toP0 (S := (· = mb1))).trans O7 (fun x hx => .inl hx)
            have hth : Row w7 w6.heap.size 78 [.int .i64 t.area, .int .i64 t.blocks, .slice va6 t.refs.length vc6] := by
              have h1 : Row (w6.alloc (.cells #[.int .i64 ar, .int .i64 bl, .slice va6 t.refs.length vc6] 78)) w6.heap.size 78 [.int .i64 ar, .int .i64 bl, .slice va6 t.refs.length vc6] := Row.new w6 _ [_, _, _]
              rw [← HAR.out, ← HBL.out]
              exact h1.grown hg7 (by intro e; cases e; omega)
            have hi7 : Ints w7 w5.heap.size (.slice va6 t.refs.length vc6) t.refs := hi6.onlyP O7 (fun g hg x => by have := (hi6.own g hg).1; simp at this; omega)
            have hmap7 : MapAt w7 X1.mb mm (fun j => if j = k then some w6.heap.size else (partOb P.ob left j).map fun _ => X1.blk j) := by
              rw [← HMB1.out]
              have := MapAt.tight hm7 HMP.out (fun j hj hs => by
                by_cases e : j = k
                · rw [e, HT.out]; rfl
                · simp only [e, if_false] at hs
                  unfold partOb at hs
                  split at hs
                  · simp at hs
                  · cases ho : P.ob j with
                    | none => rw [ho] at hs; cases hs
                    | some u => rfl)
              rw [HMD.out]
              exact this
            obtain ⟨L2, X2, r1, r2, r3, r4⟩ := HP5.out.putOb (w' := w7) (k := k) (b := w6.heap.size) (v := .slice va6 t.refs.length vc6) (t := t) (hO57.mono (fun x hx => .inl (by rw [hx]; exact HLM1.out))) hmap7 hs6 hs7 ⟨_, hth⟩ hi7 (fun g hg e => by have := (hi6.own g hg).2; omega)
            have HR1 := Lib.hid r1
            have HR2 : Hid (∀ j, L2 j ≠ none → w.heap.size ≤ j) := fun j hj => by
              rcases r2 j hj with h1 | h1
              · exact HQ2.out j h1
              · have := HO5.out.size; omega
            have HR3 : Hid (L2 ri = none) := by
              show _ = _
              cases e : L2 ri with
              | none => rfl
              | some ℓ =>
                rcases r2 ri (by rw [e]; simp) with h1 | h1
                · exact absurd HLR.out h1
                · have := HRI5.out; omega
            have HRG7 : Hid (w7.ranges Try.prog 3 ptrElem mb ri P.made D0 (fun z => left z && !z.sameKey (.int .i64 k)) cnt5) := ranges_only HRG5.out hO57 (fun x => hne3 x) (fun x => hne4 x)
            have HO7 : Hid (Only [] w w7) := by
              refine ⟨hO57.os.trans HO5.out.os, hO57.tape.trans HO5.out.tape, hO57.output.trans HO5.out.output, Nat.le_trans HO5.out.size hO57.size, fun j hj _ => ?_⟩
              rw [hO57.block j (Nat.lt_of_lt_of_le hj HO5.out.size) (fun x => by
                have h1 := HQ2.out mb1 (by rw [HLM1.out]; simp)
                omega)]
              exact HO5.out.block j hj (by simp)
            clear r1 r2 r3 r4 hi7 hmap7 hth hO57 hi6 ho6 hm7 hg7 O7 z6 z0 z1 z2 hrun7 e6 c0 c1 c2
            go_wp2_with fail
            refine ⟨⟨_, cnt5, L2, X2, HRG7.out, ?_, HR2, HR3, HO7.out⟩, by rw [HRG7.out.left_eq]; exact hmeas⟩
            have e : partOb P.ob (fun z => left z && !z.sameKey (.int .i64 k)) = setOb (partOb P.ob left) k t := by
              funext j
              unfold setOb
              by_cases e : j = k
              · subst e
                rw [if_pos rfl]
                unfold partOb
                simp only [sameI j j HWK.out, decide_true, Bool.not_true, Bool.and_false, Bool.false_eq_true, if_false]
                exact HT.out
              · rw [if_neg e]
                unfold partOb
                simp only [sameI j k HWK.out]
                simp [e]
            rw [e]
            exact HR1.out
  · have hA1 : Only [] w3 (w3.alloc (.cells #[.slice va3 P.scs.length vc3, .slice none 0 0, .slice none 0 0, .slice none 0 0, .slice none 0 0, .slice none 0 0, .map (some w.heap.size), .int .i64 mm] 58)) := (Only.refl [] w3).alloc _
    have hRow : Row (w3.alloc (.cells #[.slice va3 P.scs.length vc3, .slice none 0 0, .slice none 0 0, .slice none 0 0, .slice none 0 0, .slice none 0 0, .map (some w.heap.size), .int .i64 mm] 58)) w3.heap.size 58 [.slice va3 P.scs.length vc3, .slice none 0 0, .slice none 0 0, .slice none 0 0, .slice none 0 0, .slice none 0 0, .map (some w.heap.size), .int .i64 mm] := Row.new w3 _ [_, _, _, _, _, _, _, _]
    have hMap : MapAt (w3.alloc (.cells #[.slice va3 P.scs.length vc3, .slice none 0 0, .slice none 0 0, .slice none 0 0, .slice none 0 0, .slice none 0 0, .map (some w.heap.size), .int .i64 mm] 58)) w.heap.size 0 (fun _ => none) := (((MapAt.made w).only ((OnlyP.refl (fun _ => False) _).drew) (fun x => x)).only (ho3.toP0 (S := fun _ => False)) (fun x => x)).only ((OnlyP.refl (fun _ => False) _).alloc _) (fun x => x)
    have hO5 : Only [] w (w3.alloc (.cells #[.slice va3 P.scs.length vc3, .slice none 0 0, .slice none 0 0, .slice none 0 0, .slice none 0 0, .slice none 0 0, .map (some w.heap.size), .int .i64 mm] 58)) := ((only_dm w _).trans ho3 (by simp)).alloc _
    have hsz3 := ho3.size
    obtain ⟨L1, X1, q1, q2, q3⟩ := copyStart (w := w) hO5 (cloned_lift (b' := w.heap.size) (by simp) hA1 HV3.out) (fun g hg => by have := cloned_own HV3.out hg; simp at this ⊢; omega) hRow hMap (by simp at hsz3; omega) (Nat.le_refl _) (by simp at hsz3; omega)
    generalize (w3.alloc (.cells #[.slice va3 P.scs.length vc3, .slice none 0 0, .slice none 0 0, .slice none 0 0, .slice none 0 0, .slice none 0 0, .map (some w.heap.size), .int .i64 mm] 58)) = w5 at *
    generalize w3.heap.size = q at *
    have HQ1 := Lib.hid q1
    have HQ2 := Lib.hid q2
    have HO5 := Lib.hid hO5
    clear q1 q2 q3 hA1 hRow hMap hO5 hsz3 ho3 HV3 d0 d7 hmm
    go_wp2_with (refine wpList_load_agg rfl 55 _ rfl p 1 rfl [X.sv 0, X.sv 1, X.sv 2, X.sv 3, X.sv 4] _ Try.underlying55 rfl (by kernel_rfl) (fun j v hv => ?_) ?_)
    · have hj : j < 5 := (List.getElem?_eq_some_iff.1 hv).1
      have := (H.out.only0 HO5.out).cells.2.1 j hj
      match j, hj, hv with
      | 0, _, hv => cases hv; exact this
      | 1, _, hv => cases hv; exact this
      | 2, _, hv => cases hv; exact this
      | 3, _, hv => cases hv; exact this
      | 4, _, hv => cases hv; exact this
    go_loopw [26] (fun iv wr => ∃ (k : Nat) (L1 : Nat → Option Lb) (X1 : PX), k ≤ 5 ∧ iv = .int .i64 k ∧ PRep wr L1 q ⟨P.scs, firstStk P k, fun _ => none, mm⟩ X1 ∧ Hid (∀ j, L1 j ≠ none → w.heap.size ≤ j) ∧ Only [] w wr) (fun iv _ => 5 - (intOf iv).toNat)
    case atStart => exact ⟨0, L1, X1, by omega, rfl, HQ1.out, HQ2, HO5.out⟩
    case round =>
      clear HQ1 HQ2 HO5 L1 X1
      obtain ⟨k, L1, X1, hk, rfl, hq1, HQ2, ho⟩ := hrel
      have HQ1 := Lib.hid hq1
      have HO := Lib.hid ho
      clear hq1 ho
      by_cases hlt : k < 5
      · have hlt1 : (k : Int) < 5 := by omega
        have hk0 : (0 : Int) ≤ k := by omega
        have hix := idxStk X k hlt
        have hs := OK.out.s1 k hlt
        have QD : Hid (Only [] w wr.drew) := HO.out.drew
        have f0 : Hid (∀ wx, Only [] wr wx → (wx.cell? ⟨q, 1 + k, none⟩ = some (X1.sv k)) ∧ wx.frozen? ⟨q, 1 + k, none⟩ = false) := fun wx hox => ⟨(HQ1.out.only0 hox).cells.2.1 k hlt, (HQ1.out.only0 hox).cells.2.2.2.2 _⟩
        obtain ⟨ga, gc, hgv, _⟩ := H.out.stk OK.out hlt
        rw [hgv] at hix
        have HGV := Lib.hid hgv
        obtain ⟨ng, hng⟩ : ∃ n, n = (P.stk k).length := ⟨_, rfl⟩
        rw [← hng] at hix
        have HNG := Lib.hid hng
        have HCL2 : Hid (∀ wx, Only [] w wx → Calls Try.prog 50 #[.slice (some ⟨ga, 0, none⟩) ng gc] wx (fun e w' => ∃ v', e = .returned v' ∧ Ints w' wx.heap.size v' (P.stk k) ∧ Only [] wx w')) := fun wx hox => clone_as (clone_own wx (X.sv k) (P.stk k) ((H.out.only0 hox).st k hlt).1 (by omega)) HGV.out HNG.out
        clear hgv hs hng
        go_wp2_with fail
        go_region_held3 (fun _ => True) (trivial)
          (first
            | (go_at_call 50; refine (HCL2.out _ QD.out).mono ?_; rintro e w3 ⟨v3, rfl, hi3, ho3⟩; obtain ⟨va4, vc4, hv4⟩ := hi3.len; subst hv4; have cst := (f0.out w3 ((only_d1 wr).trans ho3 (by simp))).1; have fst := (f0.out w3 ((only_d1 wr).trans ho3 (by simp))).2))
        obtain ⟨L2, X2, r1, r2, _, _, _⟩ := HQ1.out.stacked hlt (w1 := w3) (v := .slice va4 (P.stk k).length vc4) (l := P.stk k) (((only_d1 wr).trans ho3 (by simp)).mono (by simp)) (hi3.base (Nat.zero_le _)) (fun g hg => .inr (hi3.own g hg))
        have HR1 := Lib.hid r1
        have HR2 : Hid (∀ j, L2 j ≠ none → w.heap.size ≤ j) := fun j hj => by
          rcases r2 j hj with h1 | h1
          · exact HQ2.out j h1
          · have := HO.out.size; omega
        have HO6 : Hid (Only [] w (w3.setCell ⟨q, 1 + k, none⟩ (.slice va4 (P.stk k).length vc4))) := (HO.out.trans ((only_d1 wr).trans ho3 (by simp)) (by simp)).set (.inr (HQ2.out q (by rw [HQ1.out.Lm]; simp))) _
        clear r1 r2 hi3 ho3 cst fst
        go_wp2_with fail
        refine ⟨⟨k + 1, L2, X2, by omega, by go_num, HR1.out.stkCongr (fun t ht => ?_), HR2, HO6.out⟩, by simp [intOf]; omega⟩
        show upd (firstStk P k) k (P.stk k) t = firstStk P (k + 1) t
        unfold firstStk
        by_cases e : t = k
        · subst e; rw [upd_same, if_pos (by omega)]
        · rw [upd_other _ _ e]
          by_cases e2 : t < k
          · rw [if_pos e2, if_pos (by omega)]
          · rw [if_neg e2, if_neg (by omega)]
      · have hk5 : (5 : Int) ≤ k := by omega
        have HK5 : Hid (k = 5) := by show k = 5; omega
        have HQ1' : Hid (PRep wr L1 q ⟨P.scs, P.stk, fun _ => none, mm⟩ X1) := HQ1.out.stkCongr (fun t ht => by show firstStk P k t = _; unfold firstStk; rw [if_pos (by have := HK5.out; omega)])
        clear HQ1
        have m6 := (H.out.only0 HO.out).cells.2.2.1
        obtain ⟨D0, hown, hdat0⟩ := (H.out.only0 HO.out).mp
        have hdat : DatIs D0 (fun k => (P.ob k).map fun _ => X.blk k) := hdat0
        have HD := Lib.hid hdat
        have HMP := Lib.hid H.out.mp
        have HXM : Hid (X.mb < w.heap.size) := H.out.mp.lt
        obtain ⟨mb, hmb⟩ : ∃ m, m = X.mb := ⟨_, rfl⟩
        rw [← hmb] at m6 hown HXM HMP
        have OWN := Lib.hid hown
        clear hdat hdat0 hown hmb
        go_wp2_with (at_range; refine wpList_range_own _ rfl _ 56 rfl 3 74 keyedI Try.underlying56 ptrElem mb P.made D0 rfl OWN.out ?_; intro w4 hrg0 hg0 hs0)
        go_frame
        obtain ⟨ri, hri⟩ : ∃ r, r = wr.heap.size := ⟨_, rfl⟩
        rw [← hri] at hrg0 ⊢
        have HRI : Hid (w.heap.size ≤ ri) := by show _ ≤ _; rw [hri]; exact HO.out.size
        have HLR : Hid (L1 ri = none) := by
          show _ = _
          cases e : L1 ri with
          | none => rfl
          | some ℓ => have := HQ1'.out.lt ri (by rw [e]; simp); omega
        have HP4 : Hid (PRep w4 L1 q ⟨P.scs, P.stk, fun _ => none, mm⟩ X1) := HQ1'.out.only (S := fun _ => False) ((OnlyP.refl _ wr).grown hg0 (fun k hk => by cases hk)) (fun _ x => x.elim)
        have HO4 : Hid (Only [] w w4) := HO.out.grown hg0 (fun k hk => by cases hk)
        clear hri hg0 hs0 m6
        go_loopw [6] (fun _ wr => ∃ left cnt L1 X1, wr.ranges Try.prog 3 ptrElem mb ri P.made D0 left cnt ∧ PRep wr L1 q ⟨P.scs, P.stk, partOb P.ob left, mm⟩ X1 ∧ Hid (∀ j, L1 j ≠ none → w.heap.size ≤ j) ∧ Hid (L1 ri = none) ∧ Only [] w wr) (fun _ wr => wr.rangeLeft mb ri)
        case atStart =>
          refine ⟨_, _, L1, X1, hrg0, ?_, HQ2, HLR, HO4.out⟩
          have e : partOb P.ob (Maps.has D0) = fun _ => none := by
            funext k
            unfold partOb
            cases ho : P.ob k with
            | none => simp
            | some t =>
              have h1 := OK.out.th k t ho
              have h5 := OK.out.md
              have := (HD.out k (wfI_mk (k := k) (by omega))).1
              simp only [ho] at this
              rw [if_pos (by rw [this]; rfl)]
          rw [e]
          exact HP4.out
        case round =>
          clear hrg0 HP4 HO4 HLR HQ2 HQ1' HO L1 X1 OWN
          obtain ⟨left, cnt, L1, X1, hrg, hP, HQ2, HLR, hO⟩ := hrel
          have HRG := Lib.hid hrg
          have HP := Lib.hid hP
          have HO := Lib.hid hO
          clear hrg hP hO
          go_wp2_with (at_next; refine wpList_next_things rfl _ rfl mb ri P.made D0 left cnt _ HD.out rfl HRG.out ?_ ?_)
          · intro _ hl0
            have HL0 := Lib.hid hl0
            clear hl0
            go_wp2_with fail
            refine hR.out _ _ ⟨q, L1, X1, rfl, ?_, HQ2.out, HO.out⟩
            have e : (⟨P.scs, P.stk, partOb P.ob left, mm⟩ : Pm) = P := by
              have : partOb P.ob left = P.ob := by
                funext k
                unfold partOb
                rw [if_neg (by rw [HL0.out]; simp)]
              rw [this, HMD.out]
            rw [← e]
            exact HP.out
          · intro k c w5 cnt5 hwk hlk t ht hc hrg5 hlt hg5 hs5 hen
            have O5 : OnlyP (· = ri) wr w5 := (OnlyP.refl _ wr).grown hg5 (fun j hj => by cases hj; exact .inl rfl)
            have QO5 : Only [] w w5 := HO.out.grown hg5 (fun j hj => by cases hj; exact .inr HRI.out)
            have P5 : PRep w5 L1 q ⟨P.scs, P.stk, partOb P.ob left, mm⟩ X1 := HP.out.only O5 (fun x hx => by rw [hx]; exact HLR.out)
            obtain ⟨⟨T, hrow⟩, _, hints, _⟩ := (H.out.only0 QO5).th k t ht
            have hrow : Row w5 c T [.int .i64 t.area, .int .i64 t.blocks, X.rv k] := by rw [← hc]; exact hrow
            have e6 : w5.drew.cell? ⟨q, 6, none⟩ = some (.map (some X1.mb)) := P5.cells.2.2.1
            have c0 : w5.drew.cell? ⟨c, 0, none⟩ = _ := hrow.cell 0 rfl
            have c1 : w5.drew.cell? ⟨c, 1, none⟩ = _ := hrow.cell 1 rfl
            have c2 : w5.drew.cell? ⟨c, 2, none⟩ = _ := hrow.cell 2 rfl
            obtain ⟨va2, vc2, hv2⟩ := hints.len
            have hrl := (OK.out.th k t ht).2.2.2.2.2.2.1
            have hmd := OK.out.md
            rw [← HMD.out] at hmd
            obtain ⟨nr, hnr⟩ : ∃ n, n = t.refs.length := ⟨_, rfl⟩
            rw [hv2, ← hnr] at c2
            have HNR := Lib.hid hnr
            have HCL3 : Hid (∀ wx, Only [] w wx → Calls Try.prog 50 #[.slice va2 nr vc2] wx (fun e w' => ∃ v', e = .returned v' ∧ Ints w' wx.heap.size v' t.refs ∧ Only [] wx w')) := fun wx hox => clone_as (clone_own wx (X.rv k) t.refs ((H.out.only0 hox).th k t ht).2.2.1 (by omega)) hv2 hnr
            obtain ⟨mb1, hmb1⟩ : ∃ m, m = X1.mb := ⟨_, rfl⟩
            rw [← hmb1] at e6
            have hmap5 : MapAt w5 mb1 mm (fun j => (partOb P.ob left j).map fun _ => X1.blk j) := by rw [hmb1]; exact P5.mp
            have hlm1 : L1 mb1 = some .map := by rw [hmb1]; exact P5.Lp
            have hlq : L1 q = some .mem := P5.Lm
            have hne1 : mb1 ≠ q := by rintro rfl; rw [hlm1] at hlq; cases hlq
            have hne2 : c ≠ mb1 := by
              rintro rfl
              have h1 := HQ2.out c (by rw [hlm1]; simp)
              have h2 := (H.out.th k t ht).2.1
              rw [hc] at h2
              have := H.out.lt c (by rw [h2]; simp)
              omega
            have hne3 : mb ≠ mb1 := by
              rintro rfl
              have h1 := HQ2.out mb (by rw [hlm1]; simp)
              have := HXM.out
              omega
            have hne4 : ri ≠ mb1 := by
              rintro rfl
              have := HLR.out
              rw [hlm1] at this; cases this
            have hmeas : cnt5 < wr.rangeLeft mb ri := by rw [HRG.out.left_eq]; exact hlt
            have hri5 : ri < w5.heap.size := hrg5.lt
            have HRI5 := Lib.hid hri5
            have HP5 := Lib.hid P5
            have HMAP5 := Lib.hid hmap5
            have HO5 := Lib.hid QO5
            have QD5 : Hid (Only [] w w5.drew) := QO5.drew
            have HWK : Hid (wfI k) := hwk
            have HT := Lib.hid ht
            have HRG5 := Lib.hid hrg5
            have HLK := Lib.hid hlk
            have HMB1 := Lib.hid hmb1
            have HLM1 := Lib.hid hlm1
            obtain ⟨ar, har⟩ : ∃ z, z = t.area := ⟨_, rfl⟩
            obtain ⟨bl, hbl⟩ : ∃ z, z = t.blocks := ⟨_, rfl⟩
            rw [← har] at c0
            rw [← hbl] at c1
            have HAR := Lib.hid har
            have HBL := Lib.hid hbl
            clear O5 QO5 P5 hrow hints hv2 hrl hmap5 hwk ht hc hrg5 hlk hnr hmb1 hlt hg5 hs5 hri5 har hbl hlm1 hlq
            go_wp2_with fail
            go_region_held3 (fun w' => w'.cell? ⟨q, 6, none⟩ = some (.map (some mb1)) ∧ w'.cell? ⟨c, 0, none⟩ = some (.int .i64 ar) ∧ w'.cell? ⟨c, 1, none⟩ = some (.int .i64 bl) ∧ w'.cell? ⟨c, 2, none⟩ = some (.slice va2 nr vc2))
              (first
                | (exact ⟨e6, c0, c1, c2⟩)
                | (exact ⟨z6, z0, z1, z2⟩)
                | (exact ⟨ho6.cellN e6, ho6.cellN c0, ho6.cellN c1, ho6.cellN c2⟩)
                | (exact ⟨(ho6.alloc _).cellN e6, (ho6.alloc _).cellN c0, (ho6.alloc _).cellN c1, (ho6.alloc _).cellN c2⟩))
              (first
                | (go_at_call 50; refine (HCL3.out _ QD5.out).mono ?_; rintro e w6 ⟨v6, rfl, hi6, ho6⟩; obtain ⟨va6, vc6, hv6⟩ := hi6.len; subst hv6; obtain ⟨w7, hrun7, hm7, hg7⟩ := MapAt.store (b := w6.heap.size) (((HMAP5.out.only ((OnlyP.refl (fun _ => False) w5).drew) (fun x => x)).only (ho6.toP0 (S := fun _ => False)) (fun x => x)).only ((OnlyP.refl (fun _ => False) w6).alloc (.cells #[.int .i64 ar, .int .i64 bl, .slice va6 t.refs.length vc6] 78)) (fun x => x)) (by omega) HWK.out; have O7 := ((OnlyP.refl (· = mb1) w6).alloc (.cells #[.int .i64 ar, .int .i64 bl, .slice va6 t.refs.length vc6] 78)).grown hg7 (fun j hj => by cases hj; exact .inl rfl); have z6 := O7.cell (ho6.cellN e6) (fun x => hne1 x.symm); have z0 := O7.cell (ho6.cellN c0) hne2; have z1 := O7.cell (ho6.cellN c1) hne2; have z2 := O7.cell (ho6.cellN c2) hne2))
            have hs6 : w5.heap.size ≤ w6.heap.size := ho6.size
            have hs7 : w6.heap.size < w7.heap.size := by have := hg7.size; simp at this; omega
            have hmlt : mb1 < w5.heap.size := HMAP5.out.lt
            have hO57 : OnlyP (· = mb1) w5 w7 := (((only_d1 w5).trans ho6 (by simp)).toP0 (S := (· = mb1))).trans O7 (fun x hx => .inl hx)
            have hth : Row w7 w6.heap.size 78 [.int .i64 t.area, .int .i64 t.blocks, .slice va6 t.refs.length vc6] := by
              have h1 : Row (w6.alloc (.cells #[.int .i64 ar, .int .i64 bl, .slice va6 t.refs.length vc6] 78)) w6.heap.size 78 [.int .i64 ar, .int .i64 bl, .slice va6 t.refs.length vc6] := Row.new w6 _ [_, _, _]
              rw [← HAR.out, ← HBL.out]
              exact h1.grown hg7 (by intro e; cases e; omega)
            have hi7 : Ints w7 w5.heap.size (.slice va6 t.refs.length vc6) t.refs := hi6.onlyP O7 (fun g hg x => by have := (hi6.own g hg).1; simp at this; omega)
            have hmap7 : MapAt w7 X1.mb mm (fun j => if j = k then some w6.heap.size else (partOb P.ob left j).map fun _ => X1.blk j) := by
              rw [← HMB1.out]
              have := MapAt.tight hm7 HMP.out (fun j hj hs => by
                by_cases e : j = k
                · rw [e, HT.out]; rfl
                · simp only [e, if_false] at hs
                  unfold partOb at hs
                  split at hs
                  · simp at hs
                  · cases ho : P.ob j with
                    | none => rw [ho] at hs; cases hs
                    | some u => rfl)
              rw [HMD.out]
              exact this
            obtain ⟨L2, X2, r1, r2, r3, r4⟩ := HP5.out.putOb (w' := w7) (k := k) (b := w6.heap.size) (v := .slice va6 t.refs.length vc6) (t := t) (hO57.mono (fun x hx => .inl (by rw [hx]; exact HLM1.out))) hmap7 hs6 hs7 ⟨_, hth⟩ hi7 (fun g hg e => by have := (hi6.own g hg).2; omega)
            have HR1 := Lib.hid r1
            have HR2 : Hid (∀ j, L2 j ≠ none → w.heap.size ≤ j) := fun j hj => by
              rcases r2 j hj with h1 | h1
              · exact HQ2.out j h1
              · have := HO5.out.size; omega
            have HR3 : Hid (L2 ri = none) := by
              show _ = _
              cases e : L2 ri with
              | none => rfl
              | some ℓ =>
                rcases r2 ri (by rw [e]; simp) with h1 | h1
                · exact absurd HLR.out h1
                · have := HRI5.out; omega
            have HRG7 : Hid (w7.ranges Try.prog 3 ptrElem mb ri P.made D0 (fun z => left z && !z.sameKey (.int .i64 k)) cnt5) := ranges_only HRG5.out hO57 (fun x => hne3 x) (fun x => hne4 x)
            have HO7 : Hid (Only [] w w7) := by
              refine ⟨hO57.os.trans HO5.out.os, hO57.tape.trans HO5.out.tape, hO57.output.trans HO5.out.output, Nat.le_trans HO5.out.size hO57.size, fun j hj _ => ?_⟩
              rw [hO57.block j (Nat.lt_of_lt_of_le hj HO5.out.size) (fun x => by
                have h1 := HQ2.out mb1 (by rw [HLM1.out]; simp)
                omega)]
              exact HO5.out.block j hj (by simp)
            clear r1 r2 r3 r4 hi7 hmap7 hth hO57 hi6 ho6 hm7 hg7 O7 z6 z0 z1 z2 hrun7 e6 c0 c1 c2
            go_wp2_with fail
            refine ⟨⟨_, cnt5, L2, X2, HRG7.out, ?_, HR2, HR3, HO7.out⟩, by rw [HRG7.out.left_eq]; exact hmeas⟩
            have e : partOb P.ob (fun z => left z && !z.sameKey (.int .i64 k)) = setOb (partOb P.ob left) k t := by
              funext j
              unfold setOb
              by_cases e : j = k
              · subst e
                rw [if_pos rfl]
                unfold partOb
                simp only [sameI j j HWK.out, decide_true, Bool.not_true, Bool.and_false, Bool.false_eq_true, if_false]
                exact HT.out
              · rw [if_neg e]
                unfold partOb
                simp only [sameI j k HWK.out]
                simp [e]
            rw [e]
            exact HR1.out
end
end Go.Proofs.Ytbjmgbbggbbidaa
