/- Lemmas of this claim. -/
import Derived.Test.YthflghdaejbdkaaKMkP
namespace Go.Proofs.Ythflghdaejbdkaa
open Go.RowKit Go.Maps
set_option maxHeartbeats 6400000
set_option maxRecDepth 100000
set_option linter.unusedVariables false
theorem glives_rep (w : World) {L : Nat → Option Gb} {q : Nat} {M : Hp} {X : GX} (h : GRep w L q M X) (hk : M.Ok) (x : Int) : Calls Try.prog 72 #[.pointer (some ⟨q, 0, none⟩), .int .i64 x] w (fun e w' => e = .returned (.bool (M.ob x).isSome) ∧ Only [] w w') := by
  refine calls_abs fun R hR => ?_
  have c := gtype_rep w h hk x
  have he := type_err M x
  clear h hk
  generalize (M.type x).1 = a1 at *
  generalize (M.type x).2.1 = a2 at *
  generalize (M.type x).2.2.1 = a3 at *
  rw [he] at c
  clear he
  cases hs : (M.ob x).isSome with
  | true =>
    rw [hs] at c hR
    replace c : Calls Try.prog _ _ _ (fun e w' => e = .returned (.tuple #[.int .i64 a1, .int .i64 a2, .int .i64 a3, .int .i64 0]) ∧ Only [] w w') := c
    go_enter Try.func72, Try.ntmps72
    go_wp2_with fail
    refine c.mono ?_
    rintro e w1 ⟨rfl, ho⟩
    have HO := Lib.hid ho
    clear c ho
    go_wp2_with fail
    exact hR.out _ _ ⟨rfl, HO.out⟩
  | false =>
    rw [hs] at c hR
    replace c : Calls Try.prog _ _ _ (fun e w' => e = .returned (.tuple #[.int .i64 a1, .int .i64 a2, .int .i64 a3, .int .i64 3]) ∧ Only [] w w') := c
    go_enter Try.func72, Try.ntmps72
    go_wp2_with fail
    refine c.mono ?_
    rintro e w1 ⟨rfl, ho⟩
    have HO := Lib.hid ho
    clear c ho
    go_wp2_with fail
    exact hR.out _ _ ⟨rfl, HO.out⟩
section
variable {w0 w : World} {l : List Asn} {i j q r : Nat} {m : Mk}
theorem RL.gh (T2 : Two2 l i j) (hf : Fam w0 w (RL l i j q r m)) : m.M.Ok ∧ ∃ L X, GRep w L q m.M X := hf.gh i (RL.heap T2)
theorem RL.lives (T2 : Two2 l i j) (hf : Fam w0 w (RL l i j q r m)) (x : Int) : Calls Try.prog 72 #[.pointer (some ⟨q, 0, none⟩), .int .i64 x] w (fun e w' => e = .returned (.bool (m.M.ob x).isSome) ∧ Fam w0 w' (RL l i j q r m)) := by
  obtain ⟨hk, L, X, hg⟩ := RL.gh T2 hf
  exact (glives_rep w hg hk x).mono fun e w' ⟨h1, h2⟩ => ⟨h1, hf.only0 h2⟩
theorem GkAt.cells {tg tc : Nat} {v : Value} {T : List Int} {col : Int → Int} {list : List Int} (h : GkAt w r q tg tc v T col list) : w.cell? ⟨r, 0, none⟩ = some (.pointer (some ⟨q, 0, none⟩)) ∧ w.cell? ⟨r, 1, none⟩ = some (.slice (some ⟨tg, 0, none⟩) 193 tc) ∧ w.cell? ⟨r, 2, none⟩ = some v ∧ ∀ k, w.frozen? ⟨r, k, none⟩ = false := by
  obtain ⟨U, hr⟩ := h.row
  exact ⟨hr.cell 0 rfl, hr.cell 1 rfl, hr.cell 2 rfl, fun k => hr.free k⟩
theorem GkAt.tintAt {tg tc : Nat} {v : Value} {T : List Int} {col : Int → Int} {list : List Int} (h : GkAt w r q tg tc v T col list) {y : Nat} (hy : y < 193) : w.cell? ⟨tg, y, none⟩ = some (.int .i64 (col y)) ∧ w.frozen? ⟨tg, y, none⟩ = false := by
  obtain ⟨_, _, cs, hr, _⟩ := h.tint.row
  refine ⟨?_, hr.free y⟩
  rcases h.tint.form with ⟨e, _⟩ | ⟨g, cap, e, _, _, _, hc⟩
  · cases e
  · simp only [Value.slice.injEq, Option.some.injEq, Addr.mk.injEq] at e
    obtain ⟨⟨rfl, _⟩, _, _⟩ := e
    rw [← h.tv y hy]
    exact hc y (by rw [h.tl]; exact hy)
theorem rshade_rep (w : World) (T2 : Two2 l i j) (hf : Fam w0 w (RL l i j q r m)) (hm : m.Ok) (x : Int) : Calls Try.prog 73 #[.pointer (some ⟨r, 0, none⟩), .int .i64 x] w (fun e w' => e = .returned (.tuple #[]) ∧ Fam w0 w' (RL l i j q r (m.shade x))) := by
  refine calls_abs fun R hR => ?_
  obtain ⟨tg, tc, v, T, hg⟩ := RL.mk T2 hf
  obtain ⟨z0, _, _, _⟩ := hg.cells
  have HF := Lib.hid hf
  have HM := Lib.hid hm
  by_cases hx0 : x = 0
  · have hsh : m.shade x = m := by unfold Mk.shade; rw [if_neg (fun h => (Mk.wh_iff.1 h).1 hx0)]
    rw [hsh] at hR
    subst hx0
    clear hf hm hg hsh
    go_enter Try.func73, Try.ntmps73
    go_wp2_with fail
    go_end0
    exact hR.out _ _ ⟨rfl, HF.out⟩
  · have hx1 : (x != 0) = true := by simpa using hx0
    have c := RL.lives T2 hf x
    clear hf hm hg
    go_enter Try.func73, Try.ntmps73
    go_wp2_with fail
    refine c.mono ?_
    rintro e w1 ⟨rfl, hf⟩
    have HF1 := Lib.hid hf
    obtain ⟨tg, tc, v, T, hg, ht⟩ := RL.mkT T2 hf
    have HT := Lib.hid ht
    have HG := Lib.hid hg
    obtain ⟨z0, z1, z2, zf⟩ := hg.cells
    clear c hf hg HF ht
    cases hs : (m.M.ob x).isSome with
    | false =>
      have hsh : m.shade x = m := by unfold Mk.shade; rw [if_neg (fun h => by have := (Mk.wh_iff.1 h).2.1; rw [hs] at this; cases this)]
      rw [hsh] at hR
      clear hsh hs
      go_wp2_with fail
      go_end0
      exact hR.out _ _ ⟨rfl, HF1.out⟩
    | true =>
      obtain ⟨h1, h2⟩ := HM.out.hf.ok.inR hs
      obtain ⟨y, hy⟩ : ∃ y : Nat, x = (y : Int) := ⟨x.toNat, by omega⟩
      subst hy
      have hyn : y < 193 := by omega
      have hy0 : (0 : Int) ≤ (y : Int) := by omega
      have hy1 : (y : Int) < 193 := by omega
      obtain ⟨t0, tf⟩ := HG.out.tintAt hyn
      by_cases hc : m.col (y : Int) = 0
      · have hsh : m.shade (y : Int) = ⟨m.M, setI m.col y 1, m.list ++ [(y : Int)]⟩ := by unfold Mk.shade; rw [if_pos (Mk.wh_iff.2 ⟨hx0, hs, hc⟩)]
        rw [hsh] at hR
        rw [hc] at t0
        clear hsh hs hc h1 h2
        have HO2 : Hid (Only [tg] w1 (w1.setCell ⟨tg, y, none⟩ (.int .i64 1))) := (Only.refl [tg] w1).set (.inl (by simp)) _
        have hnep := HG.out.ne
        have HNE := Lib.hid hnep
        have HI2 : Hid (Ints (w1.setCell ⟨tg, y, none⟩ (.int .i64 1)) 0 v m.list) := HG.out.ints.only HO2.out (fun k hk => by have := (HG.out.ne2 k hk).2; simpa using this)
        have HTT2 : Hid (Ints (w1.setCell ⟨tg, y, none⟩ (.int .i64 1)) 0 (.slice (some ⟨tg, 0, none⟩) 193 tc) (T.set y 1)) := HG.out.tint.setAt y 1
        have HTL : Hid ((T.set y 1).length = 193 ∧ ∀ k : Nat, k < 193 → gI (T.set y 1) k = setI m.col (y : Int) 1 k) := ⟨by rw [List.length_set]; exact HG.out.tl, fun k hk => by
          rw [gI_set (by rw [HG.out.tl]; exact hyn)]
          by_cases e : k = y
          · rw [if_pos e, e, setI_same]
          · rw [if_neg e, setI_other _ _ (show (k : Int) ≠ (y : Int) by omega)]; exact HG.out.tv k hk⟩
        have HR2 : Hid (∃ U, Row (w1.setCell ⟨tg, y, none⟩ (.int .i64 1)) r U [.pointer (some ⟨q, 0, none⟩), .slice (some ⟨tg, 0, none⟩) 193 tc, v]) := HG.out.row.imp fun U x => HO2.out.row x (by simpa using hnep)
        have z2' : (w1.setCell ⟨tg, y, none⟩ (.int .i64 1)).cell? ⟨r, 2, none⟩ = some v := HO2.out.cell z2 (by simpa using hnep)
        have HLE := Lib.hid HM.out.len
        have HOWN := Lib.hid HG.out.ne2
        have hpl : r < w1.heap.size := by obtain ⟨U, hr⟩ := HG.out.row; exact hr.lt
        have HPL := Lib.hid hpl
        have htl : tg < w1.heap.size := (HG.out.tint.own tg rfl).2
        have HTLT := Lib.hid htl
        have HSZ : Hid ((w1.setCell ⟨tg, y, none⟩ (.int .i64 1)).heap.size = w1.heap.size) := by show _ = _; simp
        clear hnep hpl htl
        go_wp2_with (at_builtin; refine append_int1 rfl _ _ rfl 0 _ _ rfl (HI2.out.alloc _) w1.heap.size (y : Int) rfl ?c1 ?c2 ?c3 ?c4)
        case c1 =>
          have h7 := (Row.new (w1.setCell ⟨tg, y, none⟩ (.int .i64 1)) 3 [.int .i64 (y : Int)]).cell 0 rfl
          rw [HSZ.out] at h7
          exact h7
        case c2 => have := HLE.out; omega
        case c3 => simp
        case c4 =>
          intro v' w3 hq3 ho3 hb3
          obtain ⟨va, vc, rfl⟩ := hq3.len
          generalize w1.setCell ⟨tg, y, none⟩ (.int .i64 1) = w2 at *
          have hnot : r ∉ v.ownBlock.toList := fun hm' => by
            cases e : v.ownBlock with
            | none => rw [e] at hm'; simp at hm'
            | some g => rw [e] at hm'; simp at hm'; exact (HOWN.out g e).1 hm'.symm
          have hnot2 : tg ∉ v.ownBlock.toList := fun hm' => by
            cases e : v.ownBlock with
            | none => rw [e] at hm'; simp at hm'
            | some g => rw [e] at hm'; simp at hm'; exact (HOWN.out g e).2 hm'.symm
          have hrow3 : ∃ U, Row w3 r U [.pointer (some ⟨q, 0, none⟩), .slice (some ⟨tg, 0, none⟩) 193 tc, v] := HR2.out.imp fun U x => ho3.row (x.alloc _) hnot
          have hcell : w3.cell? ⟨r, 2, none⟩ = some v ∧ w3.frozen? ⟨r, 2, none⟩ = false := by
            obtain ⟨U, x⟩ := hrow3
            exact ⟨x.cell 2 rfl, x.free 2⟩
          obtain ⟨z3, zf3⟩ := hcell
          have hnew : ∀ g, (Value.slice va (m.list ++ [(y : Int)]).length vc).ownBlock = some g → v.ownBlock = some g ∨ w2.heap.size ≤ g := fun g hg => by
            rcases hb3 with e | e
            · exact .inl (e.symm.trans hg)
            · right
              rw [e] at hg
              simp at hg
              have := HSZ.out
              omega
          have hne2 : ∀ g, (Value.slice va (m.list ++ [(y : Int)]).length vc).ownBlock = some g → g ≠ r ∧ g ≠ tg := fun g hg => by
            rcases hnew g hg with e | e
            · exact HOWN.out g e
            · have q1 := HO2.out.size
              have q2 := HPL.out
              have q3 := HTLT.out
              exact ⟨by omega, by omega⟩
          have hs4 : Only [r] w3 (w3.setCell ⟨r, 2, none⟩ (Value.slice va (m.list ++ [(y : Int)]).length vc)) := (Only.refl [r] w3).set (.inl (by simp)) _
          have hP : OnlyP (fun k => k = r ∨ k = tg ∨ v.ownBlock = some k) w1 (w3.setCell ⟨r, 2, none⟩ (Value.slice va (m.list ++ [(y : Int)]).length vc)) := by
            have p1 : OnlyP (fun k => k = r ∨ k = tg ∨ v.ownBlock = some k) w1 (w2.alloc (.cells #[.int .i64 (y : Int)] 3)) := (HO2.out.toP (fun z hz => .inl (.inr (.inl (by simpa using hz))))).alloc _
            refine (p1.trans (ho3.toP (S := fun k => v.ownBlock = some k) (fun z hz => .inl (by
              cases e : v.ownBlock with
              | none => rw [e] at hz; simp at hz
              | some g => rw [e] at hz; simp at hz; rw [hz]))) (fun z hz => .inl (.inr (.inr hz)))).set (.inl (.inl rfl)) _
          have HFN : Hid (Fam w0 (w3.setCell ⟨r, 2, none⟩ (Value.slice va (m.list ++ [(y : Int)]).length vc)) (RL l i j q r ⟨m.M, setI m.col y 1, m.list ++ [(y : Int)]⟩)) :=
            HT.out _ tg tc _ _ _ _ ⟨hrow3.imp fun U y => y.set 2 _, ((HTT2.out.alloc _).only ho3 (fun k hk => by cases hk; exact hnot2)).only hs4 (fun k hk => by cases hk; simpa using Ne.symm HNE.out), HTL.out.1, HTL.out.2, hq3.only hs4 (fun k hk => by have := (hne2 k hk).1; simpa using this), HNE.out, hne2⟩ (.inl rfl)
              (fun g hg => (hnew g hg).imp id (fun y => Nat.le_trans HO2.out.size y)) hP
          generalize (m.list ++ [(y : Int)]).length = qn at *
          clear hq3 ho3 hb3 hnot hnot2 hrow3 hnew hne2 hs4 hP
          go_wp2_with fail
          go_end0
          exact hR.out _ _ ⟨rfl, HFN.out⟩
      · have hsh : m.shade (y : Int) = m := by unfold Mk.shade; rw [if_neg (fun h => hc (Mk.wh_iff.1 h).2.2)]
        rw [hsh] at hR
        have hcb : (m.col (y : Int) == 0) = false := by simpa using hc
        clear hsh hs h1 h2
        go_wp2_with fail
        go_end0
        exact hR.out _ _ ⟨rfl, HF1.out⟩
end
end Go.Proofs.Ythflghdaejbdkaa
namespace Go.Proofs.Ythflghdaejbdkaa
open Go.RowKit Go.Maps
set_option maxHeartbeats 6400000
set_option maxRecDepth 100000
set_option linter.unusedVariables false
section
variable {w0 w : World} {l : List Asn} {i j q r : Nat} {m : Mk}
end
end Go.Proofs.Ythflghdaejbdkaa
namespace Go.Proofs.Ythflghdaejbdkaa
open Go.RowKit Go.Maps
set_option maxHeartbeats 6400000
set_option maxRecDepth 100000
set_option linter.unusedVariables false
section
variable {w0 w : World} {l : List Asn} {i j q r : Nat} {m : Mk}
end
end Go.Proofs.Ythflghdaejbdkaa
namespace Go.Proofs.Ythflghdaejbdkaa
open Go.RowKit Go.Maps
set_option maxHeartbeats 6400000
set_option maxRecDepth 100000
set_option linter.unusedVariables false
section
variable {w0 w : World} {l : List Asn} {i j q r : Nat} {m : Mk}
end
end Go.Proofs.Ythflghdaejbdkaa
namespace Go.Proofs.Ythflghdaejbdkaa
open Go.RowKit Go.Maps
set_option maxHeartbeats 6400000
set_option maxRecDepth 100000
set_option linter.unusedVariables false
theorem mk_intsM (n : Nat) (hn : n ≤ 1000) : ∃ C : Array Value, C.toList = List.replicate n (.int .i64 0) ∧ ∀ wx : World, (Instr.makeSlice 23 (.int .i64 (n : Int)) (.int .i64 (n : Int))).run Try.prog wx = .ok (.slice (some ⟨wx.heap.size, 0, none⟩) n n) (wx.alloc (.cells C 3)) := by
  obtain ⟨i0, hi0, hz0, hz1, hz2⟩ := info_parts infoInt
  refine ⟨madeCells (Value.int .i64 0).cells (n * 1), by rw [made_ints], fun wx => ?_⟩
  rw [run_makeSlice (P := Try.prog) (w := wx) 23 3 i0 _ Try.underlying23 hi0 hz0 .i64 .i64 _ _ (by omega) (by omega) (by rw [hz1]; omega) (by rw [hz2]; omega) (by omega), hz1]
  rfl
section
variable {w0 w : World} {l : List Asn} {i j q r : Nat} {m : Mk}
theorem RL.born {M : Hp} (hi : l[i]? = some (GH q M)) : RL (l ++ [GkA r q (fun _ => 0) []]) i l.length q r (Mk.start M) = l ++ [GkA r q (fun _ => 0) []] := by
  have hil : i < l.length := (List.getElem?_eq_some_iff.1 hi).1
  unfold RL
  rw [List.set_append_left _ _ hil, show (Mk.start M).M = M from rfl, set_get hi, List.set_append_right _ _ (by omega), Nat.sub_self]
  rfl
theorem gbegin_rep (w : World) {M : Hp} (hf : Fam w0 w l) (hi : l[i]? = some (GH q M)) (a : Option Addr) (n c : Nat) (roots : List Int) (hl : roots.length = n) (hn : n ≤ 1000000) (hr0 : Read w (.slice a n c) roots)
    (hr : ∀ r w' m', Fam w0 w' (RL (l ++ [GkA r q (fun _ => 0) []]) i l.length q r m') → Read w' (.slice a n c) roots) (hM : M.OkF) :
    Calls Try.prog 49 #[.pointer (some ⟨q, 0, none⟩), .slice a n c] w (fun e w' => (M.badRoot roots ∧ e = .returned (.tuple #[.pointer none, .int .i64 3]) ∧ Fam w0 w' l) ∨ (¬ M.badRoot roots ∧ ∃ r, e = .returned (.tuple #[.pointer (some ⟨r, 0, none⟩), .int .i64 0]) ∧ Fam w0 w' (RL (l ++ [GkA r q (fun _ => 0) []]) i l.length q r ((Mk.start M).shades roots)))) := by
  refine calls_abs fun R hR => ?_
  have HF := Lib.hid hf
  have HRD := Lib.hid hr0
  have HI := Lib.hid hi
  have HR0 := Lib.hid hr
  have HL := Lib.hid hl
  have HKF := Lib.hid hM
  obtain ⟨C, hC, hmk'⟩ := mk_intsM 193 (by omega)
  have hmk : ∀ wx : World, (Instr.makeSlice 23 (.int .i64 193) (.int .i64 193)).run Try.prog wx = .ok (.slice (some ⟨wx.heap.size, 0, none⟩) 193 193) (wx.alloc (.cells C 3)) := hmk'
  have HC := Lib.hid hC
  clear hf hr0 hi hr hl hM hC hmk'
  go_enter Try.func49, Try.ntmps49
  go_wp2_with fail
  go_loopw [6] (fun iv wr => ∃ k : Nat, k ≤ n ∧ iv = .int .i64 k ∧ Only [] w wr ∧ Hid (∀ j, j < k → ¬ (gI roots j ≠ 0 ∧ (M.ob (gI roots j)).isSome = false))) (fun iv _ => n - (intOf iv).toNat)
  case atStart => exact ⟨0, by omega, rfl, Only.refl _ _, fun j hj => by omega⟩
  case round =>
    obtain ⟨k, hk, rfl, ho, HB⟩ := hrel
    have HO := Lib.hid ho
    have HFr := Lib.hid (HF.out.only0 ho)
    clear ho
    by_cases hlt : k < n
    · have hlt1 : (k : Int) < n := by omega
      have hk0 : (0 : Int) ≤ k := by omega
      have hkl : k < roots.length := by rw [HL.out]; exact hlt
      obtain ⟨b, o, rfl, hc⟩ := (HRD.out.only HO.out (by simp)).at hkl
      have HBM : Hid (gI roots k ≠ 0 ∧ (M.ob (gI roots k)).isSome = false → M.badRoot roots) := fun h => ⟨gI roots k, mem_gI.2 ⟨k, hkl, rfl⟩, h.1, by cases e : M.ob (gI roots k); rfl; rw [e] at h; simp at h⟩
      have HBN : Hid (¬ (gI roots k ≠ 0 ∧ (M.ob (gI roots k)).isSome = false) → ∀ j, j < k + 1 → ¬ (gI roots j ≠ 0 ∧ (M.ob (gI roots j)).isSome = false)) := fun hd j hj => by
        by_cases e : j = k
        · rw [e]; exact hd
        · exact HB.out j (by omega)
      obtain ⟨hk2, L, X, hp⟩ := HFr.out.gh i HI.out
      have cl := glives_rep wr hp hk2 (gI roots k)
      clear hkl hp hk2
      by_cases hx0 : gI roots k = 0
      · have HBX := Lib.hid (HBN.out (fun h => h.1 hx0))
        rw [hx0] at hc
        clear HBM HBN cl hx0
        go_wp2_with fail
        exact ⟨⟨k + 1, by omega, by go_num, HO.out, HBX.out⟩, by simp [intOf]; omega⟩
      · have hxb : (gI roots k != 0) = true := by simpa using hx0
        cases hs : (M.ob (gI roots k)).isSome with
        | true =>
          rw [hs] at cl
          have HBX := Lib.hid (HBN.out (fun h => by have := h.2; rw [hs] at this; cases this))
          clear HBM HBN hs hx0
          generalize gI roots k = x at *
          go_wp2_with fail
          refine cl.mono ?_
          rintro e w2 ⟨rfl, ho⟩
          have HO2 : Hid (Only [] w w2) := HO.out.trans ho (by simp)
          clear cl ho hc
          go_wp2_with fail
          exact ⟨⟨k + 1, by omega, by go_num, HO2.out, HBX.out⟩, by simp [intOf]; omega⟩
        | false =>
          rw [hs] at cl
          have HBX := Lib.hid (HBM.out ⟨hx0, hs⟩)
          clear HBM HBN hs hx0
          generalize gI roots k = x at *
          go_wp2_with fail
          refine cl.mono ?_
          rintro e w2 ⟨rfl, ho⟩
          have HF2 := Lib.hid (HFr.out.only0 ho)
          clear cl ho hc
          go_wp2_with fail
          exact hR.out _ _ (.inl ⟨HBX.out, rfl, HF2.out⟩)
    · obtain rfl : k = n := by omega
      have hlt1 : ¬ (k : Int) < (k : Int) := by omega
      have HNB : Hid (¬ M.badRoot roots) := fun ⟨x, h1, h2, h3⟩ => by
        obtain ⟨j, hj, rfl⟩ := mem_gI.1 h1
        exact HB.out j (by have := HL.out; omega) ⟨h2, by rw [h3]; rfl⟩
      have hsz : (wr.alloc (.cells C 3)).heap.size = wr.heap.size + 1 := by simp
      have hborn : Born wr ((wr.alloc (.cells C 3)).alloc (.cells #[.pointer (some ⟨q, 0, none⟩), .slice (some ⟨wr.heap.size, 0, none⟩) 193 193, .slice none 0 0] 141)) (GkA (wr.heap.size + 1) q (fun _ => 0) []) := by
        refine ⟨((Only.refl [] wr).alloc _).alloc _, fun k => k = wr.heap.size + 1 ∨ k = wr.heap.size ∨ (Value.slice none 0 0).ownBlock = some k, ⟨wr.heap.size, 193, .slice none 0 0, List.replicate 193 0, ⟨⟨141, ?_⟩, ?_, List.length_replicate, fun k hk => ?_, Ints.nil _ _, by omega, fun g hg => by cases hg⟩, fun k => Iff.rfl⟩, fun k hk => ?_⟩
        · have := Row.new (wr.alloc (.cells C 3)) 141 [.pointer (some ⟨q, 0, none⟩), .slice (some ⟨wr.heap.size, 0, none⟩) 193 193, .slice none 0 0]
          rw [hsz] at this
          exact this
        · have h1 : Row (wr.alloc (.cells C 3)) wr.heap.size 3 (List.replicate 193 (.int .i64 0)) := by rw [← HC.out]; exact Row.new wr 3 C.toList
          have h2 := Ints.ofRow (w := (wr.alloc (.cells C 3)).alloc (.cells #[.pointer (some ⟨q, 0, none⟩), .slice (some ⟨wr.heap.size, 0, none⟩) 193 193, .slice none 0 0] 141)) (base := 0) (l := List.replicate 193 0) (cap := 193) (Nat.zero_le _) (h1.alloc _) (by simp) (by simp) (by simp) (by simp [maxLen])
          rw [List.length_replicate] at h2
          exact h2
        · unfold gI; rw [List.getElem?_replicate, if_pos hk]; rfl
        · rcases hk with hk | hk | hk
          · omega
          · omega
          · cases hk
      have hf4 := HFr.out.add hborn
      rw [← RL.born HI.out] at hf4
      have HF4 := Lib.hid hf4
      have HK0 : Hid ((Mk.start M).Ok) := Mk.Ok.start HKF.out
      obtain ⟨r, hr⟩ : ∃ z, z = wr.heap.size + 1 := ⟨_, rfl⟩
      have HRR := Lib.hid hr
      rw [← hr] at HF4
      clear hborn hf4 hsz
      go_wp2_with fail
      rw [← hr]
      generalize ((wr.alloc (.cells C 3)).alloc (.cells #[.pointer (some ⟨q, 0, none⟩), .slice (some ⟨wr.heap.size, 0, none⟩) 193 193, .slice none 0 0] 141)) = w4 at *
      clear hr hmk
      go_loopw [8] (fun iv wr2 => ∃ k2 : Nat, k2 ≤ k ∧ iv = .int .i64 k2 ∧ Fam w0 wr2 (RL (l ++ [GkA r q (fun _ => 0) []]) i l.length q r ((Mk.start M).shades (roots.take k2)))) (fun iv _ => k - (intOf iv).toNat)
      case atStart => exact ⟨0, by omega, rfl, HF4.out⟩
      case round =>
        clear HF4
        obtain ⟨k2, hk2, rfl, hf⟩ := hrel
        have HF5 := Lib.hid hf
        clear hf
        by_cases hlt2 : k2 < k
        · have hlt3 : (k2 : Int) < k := by omega
          have hk20 : (0 : Int) ≤ k2 := by omega
          have hkl : k2 < roots.length := by rw [HL.out]; exact hlt2
          obtain ⟨b, o, rfl, hc⟩ := (HR0.out r _ _ HF5.out).at hkl
          have cs := rshade_rep _ (Two2.born HI.out) HF5.out (Mk.Ok.shades _ _ HK0.out) (gI roots k2)
          rw [← shades_take hkl] at cs
          clear hkl
          generalize gI roots k2 = x at *
          go_wp2_with fail
          refine cs.mono ?_
          rintro e w6 ⟨rfl, hf⟩
          have HF6 := Lib.hid hf
          clear cs hf hc HF5
          go_wp2_with fail
          exact ⟨⟨k2 + 1, by omega, by go_num, HF6.out⟩, by simp [intOf]; omega⟩
        · obtain rfl : k2 = k := by omega
          have hlt3 : ¬ (k2 : Int) < (k2 : Int) := by omega
          have HE : Hid (Fam w0 wr (RL (l ++ [GkA r q (fun _ => 0) []]) i l.length q r ((Mk.start M).shades roots))) := by
            have h7 := HF5.out
            rw [List.take_of_length_le (by have := HL.out; omega)] at h7
            exact h7
          go_wp2_with fail
          exact hR.out _ _ (.inr ⟨HNB.out, r, rfl, HE.out⟩)
end
end Go.Proofs.Ythflghdaejbdkaa
