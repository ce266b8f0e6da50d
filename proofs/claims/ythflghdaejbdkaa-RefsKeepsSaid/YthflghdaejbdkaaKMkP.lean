/- Lemmas of this claim. -/
import Derived.Test.YthflghdaejbdkaaKMkMap
namespace Go.Proofs.Ythflghdaejbdkaa
open Go.RowKit Go.Maps
set_option maxHeartbeats 1600000
set_option maxRecDepth 100000
set_option linter.unusedVariables false
theorem idxFunc_nil0 (w : World) (c : Value) : Calls Try.prog 75 #[.slice none 0 0, c] w (Exact w (.int .i64 (-1))) := by
  refine calls_abs fun R hR => ?_
  go_enter Try.func75, Try.ntmps75
  go_wp2_with fail
  go_loop [5, 8] (fun _ i => i = .int .i64 0) (fun _ i => 0)
  case atStart => rfl
  case round =>
    obtain rfl := hrel
    go_wp2_with fail
    exact hR.out _ _ ⟨rfl, rfl⟩
end Go.Proofs.Ythflghdaejbdkaa
namespace Go.Proofs.Ythflghdaejbdkaa
open Go.RowKit Go.Maps
set_option maxHeartbeats 6400000
set_option maxRecDepth 100000
set_option linter.unusedVariables false
theorem type_err (M : Hp) (x : Int) : (M.type x).2.2.2 = if (M.ob x).isSome then 0 else 3 := by
  unfold Hp.type
  cases M.ob x <;> rfl
theorem mnone_rep (w : World) {p hb : Nat} (h : w.cell? ⟨p, 0, none⟩ = some (.pointer (some ⟨hb, 0, none⟩))) : Calls Try.prog 51 #[.pointer (some ⟨p, 0, none⟩)] w (Exact w (.bool false)) := by
  refine calls_abs fun R hR => ?_
  go_enter Try.func51, Try.ntmps51
  go_wp2_with fail
  exact hR.out _ _ ⟨rfl, rfl⟩
theorem mused_rep (w : World) {L : Nat → Option Lb} {hb : Nat} {M : Hp} {X : HX} (h : HRep w L hb M X) (x : Int) (hx : wfI x) : Calls Try.prog 56 #[.pointer (some ⟨hb, 0, none⟩), .int .i64 x] w (Same w (.bool (M.ob x).isSome)) := by
  refine calls_abs fun R hR => ?_
  have c := type_rep w h x hx
  have he := type_err M x
  clear h hx
  generalize (M.type x).1 = a1 at *
  generalize (M.type x).2.1 = a2 at *
  generalize (M.type x).2.2.1 = a3 at *
  rw [he] at c
  clear he
  cases hs : (M.ob x).isSome with
  | true =>
    rw [hs] at c hR
    replace c : Calls Try.prog _ _ _ (Same w (.tuple #[.int .i64 a1, .int .i64 a2, .int .i64 a3, .int .i64 0])) := c
    go_enter Try.func56, Try.ntmps56
    go_wp2_with fail
    refine c.mono ?_
    rintro e _ ⟨rfl, n, rfl⟩
    clear c
    go_wp2_with fail
    exact hR.out _ _ ⟨rfl, n, rfl⟩
  | false =>
    rw [hs] at c hR
    replace c : Calls Try.prog _ _ _ (Same w (.tuple #[.int .i64 a1, .int .i64 a2, .int .i64 a3, .int .i64 3])) := c
    go_enter Try.func56, Try.ntmps56
    go_wp2_with fail
    refine c.mono ?_
    rintro e _ ⟨rfl, n, rfl⟩
    clear c
    go_wp2_with fail
    exact hR.out _ _ ⟨rfl, n, rfl⟩
theorem MapC.onlyF {w w' : World} {mb : Nat} {col : Int → Int} {F : List Nat} (h : MapC w mb col) (hg : Only F w w') (hS : mb ∉ F) : MapC w' mb col := h.only (hg.toP (S := fun k => k ∈ F) (fun x hx => .inl hx)) hS
section
variable {w0 w : World} {l : List Asn} {i j hb p : Nat} {m : Mk}
theorem ML.ph (T2 : Two2 l i j) (hf : Fam w0 w (ML l i j hb p m)) : m.M.Ok ∧ ∃ L X, HRep w L hb m.M X := hf.ph i (ML.heap T2)
theorem ML.usedC (T2 : Two2 l i j) (hf : Fam w0 w (ML l i j hb p m)) (x : Int) (hx : wfI x) : Calls Try.prog 56 #[.pointer (some ⟨hb, 0, none⟩), .int .i64 x] w (fun e w' => e = .returned (.bool (m.M.ob x).isSome) ∧ Fam w0 w' (ML l i j hb p m)) := by
  obtain ⟨hk, L, X, hg⟩ := ML.ph T2 hf
  exact (mused_rep w hg x hx).mono fun e w' ⟨h1, n, h2⟩ => ⟨h1, by rw [h2]; exact hf.drewN n⟩
theorem MkAt.cells {mb : Nat} {v : Value} {col : Int → Int} {list : List Int} (h : MkAt w p hb mb v col list) : w.cell? ⟨p, 0, none⟩ = some (.pointer (some ⟨hb, 0, none⟩)) ∧ w.cell? ⟨p, 1, none⟩ = some (.map (some mb)) ∧ w.cell? ⟨p, 2, none⟩ = some v ∧ ∀ k, w.frozen? ⟨p, k, none⟩ = false := by
  obtain ⟨U, hr⟩ := h.row
  exact ⟨hr.cell 0 rfl, hr.cell 1 rfl, hr.cell 2 rfl, fun k => hr.free k⟩
theorem hshade_rep (w : World) (T2 : Two2 l i j) (hf : Fam w0 w (ML l i j hb p m)) (hm : m.Ok) (x : Int) (hx : wfI x) : Calls Try.prog 55 #[.pointer (some ⟨p, 0, none⟩), .int .i64 x] w (fun e w' => e = .returned (.tuple #[]) ∧ Fam w0 w' (ML l i j hb p (m.shade x))) := by
  refine calls_abs fun R hR => ?_
  obtain ⟨mb, v, hg⟩ := ML.mk T2 hf
  obtain ⟨z0, _, _, _⟩ := hg.cells
  have HF := Lib.hid hf
  have HM := Lib.hid hm
  have HWX := Lib.hid hx
  by_cases hx0 : x = 0
  · have hsh : m.shade x = m := by unfold Mk.shade; rw [if_neg (fun h => (Mk.wh_iff.1 h).1 hx0)]
    rw [hsh] at hR
    subst hx0
    clear hf hm hg hsh hx
    go_enter Try.func55, Try.ntmps55
    go_wp2_with fail
    go_end0
    exact hR.out _ _ ⟨rfl, HF.out⟩
  · have hx1 : (x != 0) = true := by simpa using hx0
    have c := ML.usedC T2 hf x hx
    clear hf hm hg hx
    go_enter Try.func55, Try.ntmps55
    go_wp2_with fail
    refine c.mono ?_
    rintro e w1 ⟨rfl, hf⟩
    have HF1 := Lib.hid hf
    obtain ⟨mb, v, hg, ht⟩ := ML.mkT T2 hf
    have HT := Lib.hid ht
    have HG := Lib.hid hg
    obtain ⟨z0, z1, z2, zf⟩ := hg.cells
    clear c hf hg HF ht
    cases hs : (m.M.ob x).isSome with
    | false =>
      have hsh : m.shade x = m := by unfold Mk.shade; rw [if_neg (fun h => by have := (Mk.wh_iff.1 h).2.1; rw [hs] at this; cases this)]
      rw [hsh] at hR
      clear hsh hs
      go_wp2_with fail
      go_end0
      exact hR.out _ _ ⟨rfl, HF1.out⟩
    | true =>
      have hin := HM.out.hf.ok.inR hs
      have hlook := HG.out.map.look HWX.out
      by_cases hc : m.col x = 0
      · have hsh : m.shade x = ⟨m.M, setI m.col x 1, m.list ++ [x]⟩ := by unfold Mk.shade; rw [if_pos (Mk.wh_iff.2 ⟨hx0, hs, hc⟩)]
        rw [hsh] at hR
        rw [hc] at hlook
        obtain ⟨w2, hst, hset, hgr⟩ := HG.out.map.store hin (show wfI 1 by decide)
        have HST := Lib.hid hset
        have HO2 : Hid (Only [mb] w1 w2) := (Only.refl [mb] w1).grown hgr (fun k hk => .inl (by cases hk; simp))
        have hnep := HG.out.ne
        have HNE := Lib.hid hnep
        have z2' : w2.cell? ⟨p, 2, none⟩ = some v := HO2.out.cell z2 (by simpa using hnep)
        have z0' : w2.cell? ⟨p, 0, none⟩ = some (.pointer (some ⟨hb, 0, none⟩)) := HO2.out.cell z0 (by simpa using hnep)
        have HI2 : Hid (Ints w2 0 v m.list) := HG.out.ints.only HO2.out (fun k hk => by have := (HG.out.ne2 k hk).2; simpa using this)
        have HR2 : Hid (∃ U, Row w2 p U [.pointer (some ⟨hb, 0, none⟩), .map (some mb), v]) := HG.out.row.imp fun U x => HO2.out.row x (by simpa using hnep)
        have HLE := Lib.hid HM.out.len
        have HOWN := Lib.hid HG.out.ne2
        have hpl : p < w1.heap.size := by obtain ⟨U, hr⟩ := HG.out.row; exact hr.lt
        have HPL := Lib.hid hpl
        clear hsh hs hc hin hset hgr hnep hpl
        go_wp2_with (at_builtin; refine append_int1 rfl _ _ rfl 0 _ _ rfl (HI2.out.alloc _) w2.heap.size x rfl ?c1 ?c2 ?c3 ?c4)
        case c1 => exact (Row.new w2 _ [_]).cell 0 rfl
        case c2 => have := HLE.out; omega
        case c3 => simp
        case c4 =>
          intro v' w3 hq3 ho3 hb3
          obtain ⟨va, vc, rfl⟩ := hq3.len
          have hnot : p ∉ v.ownBlock.toList := fun hm' => by
            cases e : v.ownBlock with
            | none => rw [e] at hm'; simp at hm'
            | some g => rw [e] at hm'; simp at hm'; exact (HOWN.out g e).1 hm'.symm
          have hnot2 : mb ∉ v.ownBlock.toList := fun hm' => by
            cases e : v.ownBlock with
            | none => rw [e] at hm'; simp at hm'
            | some g => rw [e] at hm'; simp at hm'; exact (HOWN.out g e).2 hm'.symm
          have hrow3 : ∃ U, Row w3 p U [.pointer (some ⟨hb, 0, none⟩), .map (some mb), v] := HR2.out.imp fun U x => ho3.row (x.alloc _) hnot
          have hcell : w3.cell? ⟨p, 2, none⟩ = some v ∧ w3.frozen? ⟨p, 2, none⟩ = false := by
            obtain ⟨U, x⟩ := hrow3
            exact ⟨x.cell 2 rfl, x.free 2⟩
          obtain ⟨z3, zf3⟩ := hcell
          have hnew : ∀ g, (Value.slice va (m.list ++ [x]).length vc).ownBlock = some g → v.ownBlock = some g ∨ w2.heap.size ≤ g := fun g hg => by
            rcases hb3 with e | e
            · exact .inl (e.symm.trans hg)
            · right
              rw [e] at hg
              simp at hg
              omega
          have hne2 : ∀ g, (Value.slice va (m.list ++ [x]).length vc).ownBlock = some g → g ≠ p ∧ g ≠ mb := fun g hg => by
            rcases hnew g hg with e | e
            · exact HOWN.out g e
            · have q1 := HO2.out.size
              have q2 := HPL.out
              have q3 := HST.out.lt
              exact ⟨by omega, by omega⟩
          have hs4 : Only [p] w3 (w3.setCell ⟨p, 2, none⟩ (Value.slice va (m.list ++ [x]).length vc)) := (Only.refl [p] w3).set (.inl (by simp)) _
          have hP : OnlyP (fun k => k = p ∨ k = mb ∨ v.ownBlock = some k) w1 (w3.setCell ⟨p, 2, none⟩ (Value.slice va (m.list ++ [x]).length vc)) := by
            have p1 : OnlyP (fun k => k = p ∨ k = mb ∨ v.ownBlock = some k) w1 (w2.alloc (.cells #[.int .i64 x] 3)) := (HO2.out.toP (fun z hz => .inl (.inr (.inl (by simpa using hz))))).alloc _
            refine (p1.trans (ho3.toP (S := fun k => v.ownBlock = some k) (fun z hz => .inl (by
              cases e : v.ownBlock with
              | none => rw [e] at hz; simp at hz
              | some g => rw [e] at hz; simp at hz; rw [hz]))) (fun z hz => .inl (.inr (.inr hz)))).set (.inl (.inl rfl)) _
          have HFN : Hid (Fam w0 (w3.setCell ⟨p, 2, none⟩ (Value.slice va (m.list ++ [x]).length vc)) (ML l i j hb p ⟨m.M, setI m.col x 1, m.list ++ [x]⟩)) :=
            HT.out _ mb _ _ _ ⟨hrow3.imp fun U y => y.set 2 _, ((HST.out.onlyF ((Only.refl [] w2).alloc _) (by simp)).onlyF ho3 hnot2).onlyF hs4 (by simpa using Ne.symm HNE.out), hq3.only hs4 (fun k hk => by have := (hne2 k hk).1; simpa using this), HNE.out, hne2⟩ (.inl rfl)
              (fun g hg => (hnew g hg).imp id (fun y => Nat.le_trans HO2.out.size y)) hP
          generalize (m.list ++ [x]).length = qn at *
          clear hq3 ho3 hb3 hnot hnot2 hrow3 hnew hne2 hs4 hP
          go_wp2_with fail
          go_end0
          exact hR.out _ _ ⟨rfl, HFN.out⟩
      · have hsh : m.shade x = m := by unfold Mk.shade; rw [if_neg (fun h => hc (Mk.wh_iff.1 h).2.2)]
        rw [hsh] at hR
        have hcb : (m.col x == 0) = false := by simpa using hc
        clear hsh hs hin
        go_wp2_with fail
        go_end0
        exact hR.out _ _ ⟨rfl, HF1.out⟩
end
end Go.Proofs.Ythflghdaejbdkaa
namespace Go.Proofs.Ythflghdaejbdkaa
open Go.RowKit Go.Maps
set_option maxHeartbeats 6400000
set_option maxRecDepth 100000
set_option linter.unusedVariables false
theorem Read.at {w : World} {a : Option Addr} {n c : Nat} {lst : List Int} (h : Read w (.slice a n c) lst) {k : Nat} (hk : k < lst.length) : ∃ b o, a = some ⟨b, o, none⟩ ∧ w.cell? ⟨b, o + k, none⟩ = some (.int .i64 (gI lst k)) := by
  rcases h with ⟨b, o, c, e, hc⟩ | ⟨oa, c, e, h0⟩
  · cases e; exact ⟨b, o, rfl, hc k hk⟩
  · rw [h0] at hk; simp at hk
theorem shades_take {m : Mk} {lst : List Int} {k : Nat} (hk : k < lst.length) : m.shades (lst.take (k + 1)) = (m.shades (lst.take k)).shade (gI lst k) := by
  unfold Mk.shades
  rw [List.take_succ_eq_append_getElem hk, List.foldl_append]
  have : gI lst k = lst[k] := by unfold gI; rw [List.getElem?_eq_getElem hk]; rfl
  rw [this]; rfl
theorem own_mem {v : Value} {z : Nat} (h : z ∈ v.ownBlock.toList) : v.ownBlock = some z := by
  cases e : v.ownBlock with
  | none => rw [e] at h; simp at h
  | some g => rw [e] at h; simp at h; rw [h]
section
variable {w0 w : World} {l : List Asn} {i j hb p : Nat} {m : Mk}
theorem each_rep (w : World) (T2 : Two2 l i j) (hf : Fam w0 w (ML l i j hb p m)) (hm : m.Ok) (a : Option Addr) (n c : Nat) (lst : List Int) (hl : lst.length = n) (hn : n ≤ 1000000) (hr : ∀ w' m', Fam w0 w' (ML l i j hb p m') → Read w' (.slice a n c) lst) (hw : ∀ x ∈ lst, wfI x) :
    Calls Try.prog 54 #[.slice a n c, .func (.func 55) #[.pointer (some ⟨p, 0, none⟩)] #[]] w (fun e w' => e = .returned (.tuple #[]) ∧ Fam w0 w' (ML l i j hb p (m.shades lst))) := by
  refine calls_abs fun R hR => ?_
  have HF := Lib.hid hf
  have HM := Lib.hid hm
  have HRD := Lib.hid hr
  have HW := Lib.hid hw
  have HL := Lib.hid hl
  clear hf hm hr hw hl
  go_enter Try.func54, Try.ntmps54
  go_wp2_with fail
  go_loopw [8] (fun iv wr => ∃ k : Nat, k ≤ n ∧ iv = .int .i64 k ∧ Fam w0 wr (ML l i j hb p (m.shades (lst.take k)))) (fun iv _ => n - (intOf iv).toNat)
  case atStart => exact ⟨0, by omega, rfl, HF.out⟩
  case round =>
    clear HF
    obtain ⟨k, hk, rfl, hf⟩ := hrel
    have HF := Lib.hid hf
    have HK : Hid ((m.shades (lst.take k)).Ok) := Mk.Ok.shades _ _ HM.out
    clear hf
    by_cases hlt : k < n
    · have hlt1 : (k : Int) < n := by omega
      have hk0 : (0 : Int) ≤ k := by omega
      have hkl : k < lst.length := by rw [HL.out]; exact hlt
      obtain ⟨b, o, rfl, hc⟩ := (HRD.out wr _ HF.out).at hkl
      have hwx := HW.out (gI lst k) (mem_gI.2 ⟨k, hkl, rfl⟩)
      have cs := hshade_rep wr T2 HF.out HK.out (gI lst k) hwx
      have HN : Hid (m.shades (lst.take (k + 1)) = (m.shades (lst.take k)).shade (gI lst k)) := shades_take hkl
      rw [← HN.out] at cs
      clear HN hwx hkl
      generalize gI lst k = x at *
      go_wp2_with fail
      refine cs.mono ?_
      rintro e w1 ⟨rfl, hf⟩
      have HF1 := Lib.hid hf
      clear cs hf hc HF
      go_wp2_with fail
      exact ⟨⟨k + 1, by omega, by go_num, HF1.out⟩, by simp [intOf]; omega⟩
    · obtain rfl : k = n := by omega
      have hlt1 : ¬ (k : Int) < (k : Int) := by omega
      have HE : Hid (m.shades (lst.take k) = m.shades lst) := by show _ = _; rw [List.take_of_length_le (by have := HL.out; omega)]
      go_wp2_with fail
      go_end0
      exact hR.out _ _ ⟨rfl, by rw [← HE.out]; exact HF.out⟩
end
end Go.Proofs.Ythflghdaejbdkaa
namespace Go.Proofs.Ythflghdaejbdkaa
open Go.RowKit Go.Maps
set_option maxHeartbeats 6400000
set_option maxRecDepth 100000
set_option linter.unusedVariables false
section
variable {w0 w : World} {l : List Asn} {i j hb p : Nat} {m : Mk}
theorem mnext_rep (w : World) (T2 : Two2 l i j) (hf : Fam w0 w (ML l i j hb p m)) : Calls Try.prog 52 #[.pointer (some ⟨p, 0, none⟩)] w (Exact w (.tuple #[.int .i64 m.next.1, .int .i64 m.next.2])) := by
  refine calls_abs fun R hR => ?_
  obtain ⟨mb, v, hg⟩ := ML.mk T2 hf
  obtain ⟨z0, z1, z2, _⟩ := hg.cells
  have hn := mnone_rep w z0
  have hi := hg.ints
  clear hf hg
  unfold Mk.next at hR
  cases e : m.list with
  | nil =>
    rw [e] at hi hR
    obtain ⟨a, c, rfl⟩ := hi.len
    clear hi
    replace z2 : w.cell? ⟨p, 2, none⟩ = some (.slice a 0 c) := z2
    go_enter Try.func52, Try.ntmps52
    go_wp2_with fail
    refine hn.mono ?_
    rintro e _ ⟨rfl, rfl⟩
    go_wp2_with fail
    exact hR.out _ _ ⟨rfl, rfl⟩
  | cons x t =>
    rw [e] at hi hR
    obtain ⟨a, c, rfl⟩ := hi.len
    obtain ⟨b, o, rfl, hc⟩ := hi.read.at (k := 0) (by simp)
    rw [Nat.add_zero] at hc
    replace hc : w.cell? ⟨b, o, none⟩ = some (.int .i64 x) := hc
    replace z2 : w.cell? ⟨p, 2, none⟩ = some (.slice (some ⟨b, o, none⟩) (t.length + 1) c) := z2
    generalize t.length = n at *
    clear hi
    have hn1 : ((n : Int) + 1 == 0) = false := by rw [beq_eq_false_iff_ne]; omega
    have hn2 : (0 : Int) < (n : Int) + 1 := by omega
    go_enter Try.func52, Try.ntmps52
    go_wp2_with fail
    refine hn.mono ?_
    rintro e _ ⟨rfl, rfl⟩
    go_wp2_with fail
    exact hR.out _ _ ⟨rfl, rfl⟩
theorem mdone_rep (w : World) (T2 : Two2 l i j) (hf : Fam w0 w (ML l i j hb p m)) : Calls Try.prog 27 #[.pointer (some ⟨p, 0, none⟩)] w (Exact w (.bool (decide (m.list = [])))) := by
  refine calls_abs fun R hR => ?_
  obtain ⟨mb, v, hg⟩ := ML.mk T2 hf
  obtain ⟨z0, z1, z2, _⟩ := hg.cells
  have hn := mnone_rep w z0
  have hi := hg.ints
  clear hf hg
  cases e : m.list with
  | nil =>
    rw [e] at hi hR
    obtain ⟨a, c, rfl⟩ := hi.len
    clear hi
    replace z2 : w.cell? ⟨p, 2, none⟩ = some (.slice a 0 c) := z2
    go_enter Try.func27, Try.ntmps27
    go_wp2_with fail
    refine hn.mono ?_
    rintro e _ ⟨rfl, rfl⟩
    go_wp2_with fail
    exact hR.out _ _ ⟨rfl, rfl⟩
  | cons x t =>
    rw [e] at hi hR
    obtain ⟨a, c, rfl⟩ := hi.len
    clear hi
    replace z2 : w.cell? ⟨p, 2, none⟩ = some (.slice a (t.length + 1) c) := z2
    replace hR : Hid (∀ e w', Exact w (.bool false) e w' → R e w') := hR
    generalize t.length = n at *
    have hn1 : ((n : Int) + 1 == 0) = false := by rw [beq_eq_false_iff_ne]; omega
    go_enter Try.func27, Try.ntmps27
    go_wp2_with fail
    refine hn.mono ?_
    rintro e _ ⟨rfl, rfl⟩
    go_wp2_with fail
    exact hR.out _ _ ⟨rfl, rfl⟩
theorem mheap_rep (w : World) (T2 : Two2 l i j) (hf : Fam w0 w (ML l i j hb p m)) : Calls Try.prog 31 #[.pointer (some ⟨p, 0, none⟩)] w (Exact w (.pointer (some ⟨hb, 0, none⟩))) := by
  refine calls_abs fun R hR => ?_
  obtain ⟨mb, v, hg⟩ := ML.mk T2 hf
  obtain ⟨z0, z1, z2, _⟩ := hg.cells
  have hn := mnone_rep w z0
  clear hf hg
  go_enter Try.func31, Try.ntmps31
  go_wp2_with fail
  refine hn.mono ?_
  rintro e _ ⟨rfl, rfl⟩
  go_wp2_with fail
  exact hR.out _ _ ⟨rfl, rfl⟩
theorem mcolor_rep (w : World) (T2 : Two2 l i j) (hf : Fam w0 w (ML l i j hb p m)) (x : Int) (hx : wfI x) : Calls Try.prog 30 #[.pointer (some ⟨p, 0, none⟩), .int .i64 x] w (Same w (.tuple #[.int .i64 (m.color x).1, .int .i64 (m.color x).2])) := by
  refine calls_abs fun R hR => ?_
  obtain ⟨mb, v, hg⟩ := ML.mk T2 hf
  obtain ⟨z0, z1, z2, _⟩ := hg.cells
  have hn := mnone_rep w z0
  obtain ⟨hk, L, X, hp⟩ := ML.ph T2 hf
  have hu := mused_rep w hp x hx
  have HLK : Hid (∀ n, (Instr.lookup 115 (.map (some mb)) (.int .i64 x) false).run Try.prog (w.drewN n) = .ok (.int .i64 (m.col x)) (w.drewN n)) := fun n => (hg.map.onlyF ((Only.refl [] w).drewN n) (by simp)).look hx
  have HZ1 : Hid (∀ n, (w.drewN n).cell? ⟨p, 1, none⟩ = some (.map (some mb))) := fun n => z1
  unfold Mk.color at hR
  clear hf hg hp hk
  cases hs : (m.M.ob x).isSome with
  | true =>
    rw [hs] at hu hR
    go_enter Try.func30, Try.ntmps30
    go_wp2_with fail
    refine hn.mono ?_
    rintro e _ ⟨rfl, rfl⟩
    go_wp2_with fail
    refine hu.mono ?_
    rintro e _ ⟨rfl, n, rfl⟩
    have h1 := HLK.out n
    have h2 := HZ1.out n
    clear hu
    go_wp2_with fail
    exact hR.out _ _ ⟨rfl, n, rfl⟩
  | false =>
    rw [hs] at hu hR
    go_enter Try.func30, Try.ntmps30
    go_wp2_with fail
    refine hn.mono ?_
    rintro e _ ⟨rfl, rfl⟩
    go_wp2_with fail
    refine hu.mono ?_
    rintro e _ ⟨rfl, n, rfl⟩
    clear hu
    go_wp2_with fail
    exact hR.out _ _ ⟨rfl, n, rfl⟩
theorem mshade_rep (w : World) (T2 : Two2 l i j) (hf : Fam w0 w (ML l i j hb p m)) (hm : m.Ok) (x : Int) (hx : wfI x) : Calls Try.prog 59 #[.pointer (some ⟨p, 0, none⟩), .int .i64 x] w (fun e w' => e = .returned (.int .i64 (m.shadeE x)) ∧ Fam w0 w' (ML l i j hb p (m.shade x))) := by
  refine calls_abs fun R hR => ?_
  obtain ⟨mb, v, hg⟩ := ML.mk T2 hf
  obtain ⟨z0, z1, z2, _⟩ := hg.cells
  have hn := mnone_rep w z0
  have HF := Lib.hid hf
  have HM := Lib.hid hm
  have HWX := Lib.hid hx
  by_cases hx0 : x = 0
  · have he : m.shadeE x = 0 := by unfold Mk.shadeE; rw [if_neg (fun h => h.1 hx0)]
    rw [he] at hR
    have cs := hshade_rep w T2 hf hm x hx
    clear hf hg hm hx he
    subst hx0
    go_enter Try.func59, Try.ntmps59
    go_wp2_with fail
    refine hn.mono ?_
    rintro e _ ⟨rfl, rfl⟩
    go_wp2_with fail
    refine cs.mono ?_
    rintro e w1 ⟨rfl, hf⟩
    have HF1 := Lib.hid hf
    clear hf cs
    go_wp2_with fail
    exact hR.out _ _ ⟨rfl, HF1.out⟩
  · have hx1 : (x != 0) = true := by simpa using hx0
    have hu := ML.usedC T2 hf x hx
    cases hs : (m.M.ob x).isSome with
    | true =>
      have he : m.shadeE x = 0 := by unfold Mk.shadeE; rw [if_neg (fun h => by have := h.2; rw [hs] at this; cases this)]
      rw [he] at hR
      rw [hs] at hu
      clear hf hg hm hx he
      go_enter Try.func59, Try.ntmps59
      go_wp2_with fail
      refine hn.mono ?_
      rintro e _ ⟨rfl, rfl⟩
      go_wp2_with fail
      refine hu.mono ?_
      rintro e w1 ⟨rfl, hf⟩
      have cs := hshade_rep w1 T2 hf HM.out x HWX.out
      clear hf hu
      go_wp2_with fail
      refine cs.mono ?_
      rintro e w2 ⟨rfl, hf⟩
      have HF1 := Lib.hid hf
      clear hf cs
      go_wp2_with fail
      exact hR.out _ _ ⟨rfl, HF1.out⟩
    | false =>
      have he : m.shadeE x = 3 := by unfold Mk.shadeE; rw [if_pos ⟨hx0, hs⟩]
      have hsh : m.shade x = m := by unfold Mk.shade; rw [if_neg (fun h => by have := (Mk.wh_iff.1 h).2.1; rw [hs] at this; cases this)]
      rw [he, hsh] at hR
      rw [hs] at hu
      clear hf hg hm hx he hsh
      go_enter Try.func59, Try.ntmps59
      go_wp2_with fail
      refine hn.mono ?_
      rintro e _ ⟨rfl, rfl⟩
      go_wp2_with fail
      refine hu.mono ?_
      rintro e w1 ⟨rfl, hf⟩
      have HF1 := Lib.hid hf
      clear hf hu
      go_wp2_with fail
      exact hR.out _ _ ⟨rfl, HF1.out⟩
end
end Go.Proofs.Ythflghdaejbdkaa
namespace Go.Proofs.Ythflghdaejbdkaa
open Go.RowKit Go.Maps
set_option maxHeartbeats 6400000
set_option maxRecDepth 100000
set_option linter.unusedVariables false
theorem clone_intsO (w : World) (b of n c : Nat) (l : List Int) (hl : l.length = n) (hn : n ≤ 17592186044416) (hc : ∀ i, i < n → w.cell? ⟨b, of + i, none⟩ = some (.int .i64 (gI l i))) :
    Calls Try.prog 35 #[.slice (some ⟨b, of, none⟩) n c] w fun e w' => ∃ v, e = .returned v ∧ Ints w' w.heap.size v l ∧ Only [] w w' ∧ v ≠ .slice none 0 0 := by
  have hq := fun (wx : World) => Lib.run_eql_slice_nil (P := Try.prog) wx 23 3 (some ⟨b, of, none⟩) n c 0 0 Try.underlying23
  have HL := Lib.hid hl
  have HC := Lib.hid hc
  clear hl hc
  refine calls_abs fun R hR => ?_
  go_enter Try.func35, Try.ntmps35
  go_wp2_with (at_builtin; refine append_ints rfl _ _ rfl w.heap.size _ _ rfl (Ints.made w) ⟨b, of, none⟩ n c l rfl ?_ ?_ ?_ ?_ ?_)
  · exact HL.out
  · intro j u hu
    have hj : j < n := by have := (List.getElem?_eq_some_iff.1 hu).1; have := HL.out; omega
    have h1 := HC.out j hj
    rw [show (⟨b, of, none⟩ : Addr).add j = ⟨b, of + j, none⟩ by unfold Addr.add; split <;> simp_all]
    rw [World.cell?_alloc_past _ _ _ (World.block_lt_of_cell? w _ h1), h1, gI, hu]
    rfl
  · simp; omega
  · simp
  · intro v w1 hv ho hn hblk
    have HN : Hid (v ≠ .slice none 0 0) := by intro e; simp [e] at hn
    clear hn
    go_wp2_with fail
    exact hR.out _ _ ⟨v, rfl, hv, ((Only.refl _ _).alloc _).trans ho (fun x hx => .inr (by simp [Value.ownBlock] at hx; omega)), HN.out⟩
theorem Mk.Ok.rest {m : Mk} (h : m.Ok) {x : Int} {t : List Int} (e : m.list = x :: t) : (⟨m.M, setI m.col x 2, t⟩ : Mk).Ok ∧ (⟨m.M, setI m.col x 2, t⟩ : Mk).shades (m.M.refs x).1 = m.stepAt x := by
  have h1 : m.list.drop 1 = t := by rw [e]; rfl
  have h2 := stepAt_shape e h.nd
  rw [h1] at h2
  refine ⟨by rw [h2]; exact h.black (h.usedIn (by rw [e]; simp)), by unfold Mk.stepAt; rw [h1]⟩
theorem ML.app {l : List Asn} {i j hb p : Nat} {m : Mk} (h : Two2 l i j) (A : Asn) : ML (l ++ [A]) i j hb p m = ML l i j hb p m ++ [A] := by
  unfold ML
  rw [List.set_append_left _ _ h.hi, List.set_append_left _ _ (by rw [List.length_set]; exact h.hj)]
theorem Two2.app {l : List Asn} {i j : Nat} (h : Two2 l i j) (A : Asn) : Two2 (l ++ [A]) i j := ⟨by have := h.hi; simp; omega, by have := h.hj; simp; omega, h.ne⟩
theorem ML.at {l : List Asn} {i j hb p : Nat} {m : Mk} {A : Asn} (h : Two2 l i j) : (ML (l ++ [A]) i j hb p m)[l.length]? = some A := by
  rw [ML.app h]
  have : (ML l i j hb p m).length = l.length := by unfold ML; simp
  rw [← this]; simp
theorem refs_wf {M : Hp} (hk : M.Ok) {x y : Int} (hy : y ∈ (M.refs x).1) : wfI y := by
  obtain ⟨_, h⟩ := refs_pos hk hy
  exact hk.wfH h
theorem refs_len {M : Hp} (hk : M.Ok) (x : Int) : (M.refs x).1.length ≤ 48 := by
  unfold Hp.refs
  cases e : M.ob x with
  | none => simp
  | some o =>
    have h1 := o.refsN_len o.slots.length
    have h2 := (hk.th x o e).le
    show (o.refsN o.slots.length).length ≤ 48
    omega
section
variable {w0 w : World} {l : List Asn} {i j hb p : Nat} {m : Mk}
theorem mstep_rep (w : World) (T2 : Two2 l i j) (hf : Fam w0 w (ML l i j hb p m)) (hm : m.Ok) : Calls Try.prog 28 #[.pointer (some ⟨p, 0, none⟩)] w (fun e w' => e = .returned (.tuple #[.int .i64 m.step.1, .int .i64 m.step.2.1]) ∧ Fam w0 w' (ML l i j hb p m.step.2.2)) := by
  refine calls_abs fun R hR => ?_
  have cn := mnext_rep w T2 hf
  have hnx : m.next = (m.step.1, m.step.2.1) := by unfold Mk.next Mk.step; cases m.list <;> rfl
  rw [hnx] at cn
  cases e : m.list with
  | nil =>
    have hs : m.step = (0, 3, m) := by unfold Mk.step; rw [e]
    rw [hs] at cn hR
    have HF := Lib.hid hf
    clear hf hm hnx hs e
    go_enter Try.func28, Try.ntmps28
    go_wp2_with fail
    refine cn.mono ?_
    rintro e _ ⟨rfl, rfl⟩
    go_wp2_with fail
    exact hR.out _ _ ⟨rfl, HF.out⟩
  | cons x t =>
    have hs : m.step = (x, 0, m.stepAt x) := by unfold Mk.step; rw [e]
    rw [hs] at cn hR
    obtain ⟨mb, v, hg, ht⟩ := ML.mkT T2 hf
    have HT := Lib.hid ht
    have HG := Lib.hid hg
    have HF := Lib.hid hf
    have HM := Lib.hid hm
    have HE := Lib.hid e
    obtain ⟨z0, z1, z2, zf⟩ := hg.cells
    have hi := hg.ints
    rw [e] at hi
    have HI := Lib.hid hi
    obtain ⟨a, c, rfl⟩ := hi.len
    obtain ⟨b, o, rfl, hc⟩ := hi.read.at (k := 0) (by simp)
    replace z2 : w.cell? ⟨p, 2, none⟩ = some (.slice (some ⟨b, o, none⟩) (t.length + 1) c) := z2
    have hcap : t.length + 1 ≤ c := by
      rcases hi.form with ⟨h1, _⟩ | ⟨g, cap, h1, _, _, h3, _⟩
      · cases h1
      · simp only [Value.slice.injEq] at h1
        obtain ⟨_, _, rfl⟩ := h1
        exact h3
    have CL : Hid (∀ o' cc, (o' = o + 1 ∨ t.length = 0) → Calls Try.prog 35 #[.slice (some ⟨b, o', none⟩) t.length cc] w (fun e w' => ∃ v, e = .returned v ∧ Ints w' w.heap.size v t ∧ Only [] w w')) := fun o' cc ho => by
      refine (clone_intsO w b o' t.length cc t rfl (by have := hm.len; rw [e] at this; simp at this; omega) (fun k hk => ?_)).mono (fun e w' ⟨v, h1, h2, h3, _⟩ => ⟨v, h1, h2, h3⟩)
      rcases ho with rfl | h0
      · obtain ⟨b2, o2, e2, h4⟩ := HI.out.read.at (k := k + 1) (by simp; omega)
        cases e2
        rw [show o + 1 + k = o + (k + 1) by omega, h4]
        simp [gI]
      · omega
    obtain ⟨hok1, hst1⟩ := hm.rest e
    have HK1 := Lib.hid hok1
    have HST1 := Lib.hid hst1
    have hxin := hm.inR (x := x) (by rw [e]; simp)
    have HXIN := Lib.hid hxin
    have hwx : wfI x := wfI_mk (by omega)
    have HWX := Lib.hid hwx
    have HPL : Hid (p < w.heap.size) := by obtain ⟨U, hr⟩ := hg.row; exact hr.lt
    have HROW0 : Hid (∃ U, Row w p U [.pointer (some ⟨hb, 0, none⟩), .map (some mb), .slice (some ⟨b, o, none⟩) (t.length + 1) c]) := hg.row
    have HNE2 : Hid (b ≠ p ∧ b ≠ mb) := hg.ne2 b rfl
    have HT2 : Hid (∀ (w' : World) (v' : Value) (c : Int → Int) (t : List Int), MkAt w' p hb mb v' c t → (∀ g, v'.ownBlock = some g → w.heap.size ≤ g) → OnlyP (fun k => k = p ∨ k = mb ∨ some b = some k) w w' → Fam w0 w' (ML l i j hb p ⟨m.M, c, t⟩)) := fun w' v' c t h1 h2 h3 => ht w' mb v' c t h1 (.inl rfl) (fun g hg => .inr (h2 g hg)) h3
    have HMAP := Lib.hid hg.map
    have HNE := Lib.hid hg.ne
    clear hf hm hnx hs e hg ht hi hc hok1 hst1 hxin hwx HG HT
    generalize t.length = n at *
    go_enter Try.func28, Try.ntmps28
    go_wp2_with fail
    refine cn.mono ?_
    rintro e _ ⟨rfl, rfl⟩
    go_wp2_with fail
    all_goals (
      refine (CL.out _ _ (by first | exact .inl rfl | (right; omega))).mono ?_
      rintro e w1 ⟨v1, rfl, hi1, ho1⟩
      have HI1 := Lib.hid hi1
      have HO1 := Lib.hid ho1
      have hrow1 : ∃ U, Row w1 p U [.pointer (some ⟨hb, 0, none⟩), .map (some mb), .slice (some ⟨b, o, none⟩) (n + 1) c] := HROW0.out.imp fun U x => ho1.row x (by simp)
      have HROW1 := Lib.hid hrow1
      have hz : w1.cell? ⟨p, 2, none⟩ = some (.slice (some ⟨b, o, none⟩) (n + 1) c) ∧ w1.frozen? ⟨p, 2, none⟩ = false ∧ w1.cell? ⟨p, 0, none⟩ = some (.pointer (some ⟨hb, 0, none⟩)) ∧ w1.cell? ⟨p, 1, none⟩ = some (.map (some mb)) := by
        obtain ⟨U, x⟩ := hrow1
        exact ⟨x.cell 2 rfl, x.free 2, x.cell 0 rfl, x.cell 1 rfl⟩
      obtain ⟨y2, yf, y0, y1⟩ := hz
      have HV1 : Hid (∀ g, v1.ownBlock = some g → w.heap.size ≤ g ∧ g < w1.heap.size) := fun g hg => hi1.own g hg
      have hs2 : Only [p] w1 (w1.setCell ⟨p, 2, none⟩ v1) := (Only.refl [p] w1).set (.inl (by simp)) _
      have hrow2 : ∃ U, Row (w1.setCell ⟨p, 2, none⟩ v1) p U [.pointer (some ⟨hb, 0, none⟩), .map (some mb), v1] := hrow1.imp fun U y => y.set 2 _
      have hm2 : MapC (w1.setCell ⟨p, 2, none⟩ v1) mb m.col := (HMAP.out.onlyF ho1 (by simp)).onlyF hs2 (by simpa using Ne.symm HNE.out)
      have hi2 : Ints (w1.setCell ⟨p, 2, none⟩ v1) 0 v1 t := (hi1.base (Nat.zero_le _)).only hs2 (fun k hk => by have := HV1.out k hk; have := HPL.out; simp; omega)
      obtain ⟨w3, hst3, hset3, hgr3⟩ := hm2.store HXIN.out (v := 2) (by decide)
      have hs3 : Only [mb] (w1.setCell ⟨p, 2, none⟩ v1) w3 := (Only.refl [mb] _).grown hgr3 (fun k hk => .inl (by cases hk; simp))
      have hml : mb < w.heap.size := HMAP.out.lt
      have hat3 : MkAt w3 p hb mb v1 (setI m.col x 2) t := ⟨hrow2.imp fun U y => hs3.row y (by simpa using HNE.out), hset3, hi2.only hs3 (fun k hk => by have := HV1.out k hk; simp; omega), HNE.out, fun g hg => by have := HV1.out g hg; have := HPL.out; exact ⟨by omega, by omega⟩⟩
      have hP : OnlyP (fun k => k = p ∨ k = mb ∨ some b = some k) w w3 := ((ho1.toP0 (S := fun k => k = p ∨ k = mb ∨ some b = some k)).trans (hs2.toP (S := fun k => k = p) (fun z hz => .inl (by simpa using hz))) (fun z hz => .inl (.inl hz))).trans (hs3.toP (S := fun k => k = mb) (fun z hz => .inl (by simpa using hz))) (fun z hz => .inl (.inr (.inl hz)))
      have hf3 := HT2.out w3 v1 _ _ hat3 (fun g hg => (HV1.out g hg).1) hP
      have HF3 := Lib.hid hf3
      obtain ⟨q0, q1, q2, qf⟩ := hat3.cells
      obtain ⟨hk3, L3, X3, hp3⟩ := ML.ph T2 hf3
      have cr := refs_rep w3 hp3 hk3 x HWX.out
      have z0' : (w1.setCell ⟨p, 2, none⟩ v1).cell? ⟨p, 1, none⟩ = some (.map (some mb)) := by
        obtain ⟨U, x⟩ := hrow2
        exact x.cell 1 rfl
      obtain ⟨va, vc, rfl⟩ := hi1.len
      clear hrow1 hs2 hrow2 hm2 hi2 hset3 hgr3 hs3 hml hat3 hP hf3 hp3 hk3 hi1 ho1
      generalize t.length = n1 at *
      go_wp2_with fail
      refine cr.mono ?_
      rintro e w4 ⟨vr, rfl, hi4, ho4⟩
      have HF4 : Hid (Fam w0 w4 (ML (l ++ [IntsA vr (m.M.refs x).1]) i j hb p ⟨m.M, setI m.col x 2, t⟩)) := by
        show Fam _ _ _
        rw [ML.app T2]
        exact HF3.out.addInts ho4 hi4
      obtain ⟨ra, rc, rfl⟩ := hi4.len
      have ce := each_rep w4 (T2.app _) HF4.out HK1.out ra _ rc (m.M.refs x).1 rfl (by have := refs_len HM.out.hf.ok x; omega) (fun w' m' h7 => (h7.ints l.length (ML.at T2)).read) (fun y hy => refs_wf HM.out.hf.ok hy)
      replace ce : Calls Try.prog 54 #[.slice ra (m.M.refs x).1.length rc, .func (.func 55) #[.pointer (some ⟨p, 0, none⟩)] #[]] w4 (fun e w' => e = .returned (.tuple #[]) ∧ Fam w0 w' (ML l i j hb p (m.stepAt x))) := ce.mono (fun e w' ⟨h1, h2⟩ => ⟨h1, by
        rw [HST1.out, ML.app T2] at h2
        exact h2.pop⟩)
      clear cr hi4 ho4 HF4
      go_wp2_with fail
      refine ce.mono ?_
      rintro e w5 ⟨rfl, hf5⟩
      have HF5 := Lib.hid hf5
      clear ce hf5
      go_wp2_with fail
      exact hR.out _ _ ⟨rfl, HF5.out⟩)
end
end Go.Proofs.Ythflghdaejbdkaa
namespace Go.Proofs.Ythflghdaejbdkaa
open Go.RowKit Go.Maps
set_option maxHeartbeats 6400000
set_option maxRecDepth 100000
set_option linter.unusedVariables false
section
variable {w0 w : World} {l : List Asn} {i j hb p : Nat} {m : Mk}
theorem mrun_rep (w : World) (T2 : Two2 l i j) (hf : Fam w0 w (ML l i j hb p m)) (hm : m.Ok) : Calls Try.prog 6 #[.pointer (some ⟨p, 0, none⟩)] w (fun e w' => e = .returned (.int .i64 (m.runs : Int)) ∧ Fam w0 w' (ML l i j hb p m.run)) := by
  refine calls_abs fun R hR => ?_
  have HF := Lib.hid hf
  have HM := Lib.hid hm
  have hl192 := Mk.left_le (m := m)
  clear hf hm
  go_enter Try.func6, Try.ntmps6
  go_wp2_with fail
  go_loopw [3] (fun iv wr => ∃ k : Nat, iv = .int .i64 k ∧ Fam w0 wr (ML l i j hb p (m.steps k)) ∧ Hid (∀ j, j < k → (m.steps j).list ≠ [])) (fun iv _ => m.left - (intOf iv).toNat)
  case atStart => exact ⟨0, rfl, HF.out, fun j hj => by omega⟩
  case round =>
    clear HF
    obtain ⟨k, rfl, hf, HB⟩ := hrel
    have HF := Lib.hid hf
    have HK := Lib.hid (HM.out.steps k).1
    have cd := mdone_rep wr T2 hf
    have hkl := Mk.left_steps HM.out k HB.out
    clear hf
    by_cases he : (m.steps k).list = []
    · have hrn := Mk.runs_eq HM.out HB.out he
      have HRN : Hid (m.run = m.steps k) := by show _ = _; unfold Mk.run; rw [hrn]
      have hd : decide ((m.steps k).list = []) = true := decide_eq_true he
      rw [hd] at cd
      rw [← hrn] at hR
      clear hrn hd he hkl
      go_wp2_with fail
      refine cd.mono ?_
      rintro e _ ⟨rfl, rfl⟩
      go_wp2_with fail
      exact hR.out _ _ ⟨rfl, by rw [HRN.out]; exact HF.out⟩
    · have hd : decide ((m.steps k).list = []) = false := decide_eq_false he
      rw [hd] at cd
      have cs := mstep_rep wr T2 HF.out HK.out
      have hkl2 := Mk.left_steps HM.out (k + 1) (fun j hj => by
        by_cases e : j = k
        · rw [e]; exact he
        · exact HB.out j (by omega))
      have HBN : Hid (∀ j, j < k + 1 → (m.steps j).list ≠ []) := fun j hj => by
        by_cases e : j = k
        · rw [e]; exact he
        · exact HB.out j (by omega)
      replace cs : Calls Try.prog 28 #[.pointer (some ⟨p, 0, none⟩)] wr (fun e w' => ∃ a b, e = .returned (.tuple #[.int .i64 a, .int .i64 b]) ∧ Fam w0 w' (ML l i j hb p (m.steps (k + 1)))) := cs.mono (fun e w' ⟨h1, h2⟩ => ⟨_, _, h1, h2⟩)
      clear hd he
      generalize (m.steps (k + 1)).left = y1 at *
      generalize (m.steps k).left = y2 at *
      generalize m.left = y3 at *
      go_wp2_with fail
      refine cd.mono ?_
      rintro e _ ⟨rfl, rfl⟩
      go_wp2_with fail
      refine cs.mono ?_
      rintro e w1 ⟨a, b, rfl, hf⟩
      have HF1 := Lib.hid hf
      clear cs cd hf HF
      go_wp2_with fail
      exact ⟨⟨k + 1, by go_num, HF1.out, HBN⟩, by simp [intOf]; omega⟩
end
end Go.Proofs.Ythflghdaejbdkaa
namespace Go.Proofs.Ythflghdaejbdkaa
open Go.RowKit Go.Maps
set_option maxHeartbeats 6400000
set_option maxRecDepth 100000
set_option linter.unusedVariables false
section
variable {w0 w : World} {l : List Asn} {i j hb p : Nat} {m : Mk}
theorem begin1_any (w : World) (cb : Nat) {L : Nat → Option Lb} {hb : Nat} {M : Hp} {X : HX} (h : HRep w L hb M X) (x : Int) (hx : wfI x) (hc : w.cell? ⟨cb, 0, none⟩ = some (.pointer (some ⟨hb, 0, none⟩))) : Calls Try.prog 62 #[.int .i64 x, .pointer (some ⟨cb, 0, none⟩)] w (Same w (.bool (decide (x ≠ 0 ∧ (M.ob x).isSome = false)))) := by
  refine calls_abs fun R hR => ?_
  have hu := mused_rep w h x hx
  clear h hx
  by_cases hx0 : x = 0
  · have hd : decide (x ≠ 0 ∧ (M.ob x).isSome = false) = false := decide_eq_false (fun h => h.1 hx0)
    rw [hd] at hR
    subst hx0
    clear hd hu
    go_enter Try.func62, Try.ntmps62
    go_wp2_with fail
    exact hR.out _ _ ⟨rfl, 0, rfl⟩
  · have hx1 : (x != 0) = true := by simpa using hx0
    cases hs : (M.ob x).isSome with
    | true =>
      have hd : decide (x ≠ 0 ∧ (M.ob x).isSome = false) = false := decide_eq_false (fun h => by have := h.2; rw [hs] at this; cases this)
      rw [hd] at hR
      rw [hs] at hu
      clear hd hs
      go_enter Try.func62, Try.ntmps62
      go_wp2_with fail
      refine hu.mono ?_
      rintro e _ ⟨rfl, n, rfl⟩
      go_wp2_with fail
      exact hR.out _ _ ⟨rfl, n, rfl⟩
    | false =>
      have hd : decide (x ≠ 0 ∧ (M.ob x).isSome = false) = true := decide_eq_true ⟨hx0, hs⟩
      rw [hd] at hR
      rw [hs] at hu
      clear hd hs
      go_enter Try.func62, Try.ntmps62
      go_wp2_with fail
      refine hu.mono ?_
      rintro e _ ⟨rfl, n, rfl⟩
      go_wp2_with fail
      exact hR.out _ _ ⟨rfl, n, rfl⟩
theorem idxBegin_any (w : World) (cb : Nat) {L : Nat → Option Lb} {hb : Nat} {M : Hp} {X : HX} (h : HRep w L hb M X) (a : Option Addr) (n c : Nat) (lst : List Int) (hl : lst.length = n) (hn : n ≤ 1000000) (hr : Read w (.slice a n c) lst) (hw : ∀ x ∈ lst, wfI x) (hc : w.cell? ⟨cb, 0, none⟩ = some (.pointer (some ⟨hb, 0, none⟩))) :
    Calls Try.prog 75 #[.slice a n c, .func (.func 62) #[] #[.pointer (some ⟨cb, 0, none⟩)]] w fun e w' => ∃ r : Int, e = .returned (.int .i64 r) ∧ (0 ≤ r ↔ M.badRoot lst) ∧ Drew w w' := by
  refine calls_abs fun R hR => ?_
  have HH := Lib.hid h
  have HRD := Lib.hid hr
  have HW := Lib.hid hw
  have HL := Lib.hid hl
  have HC := Lib.hid hc
  clear h hr hw hl hc
  go_enter Try.func75, Try.ntmps75
  go_wp2_with fail
  go_loopw [8] (fun iv wr => ∃ k q : Nat, k ≤ n ∧ iv = .int .i64 k ∧ wr = w.drewN q ∧ Hid (∀ j, j < k → ¬ (gI lst j ≠ 0 ∧ (M.ob (gI lst j)).isSome = false))) (fun iv _ => n - (intOf iv).toNat)
  case atStart => exact ⟨0, 0, by omega, rfl, rfl, fun j hj => by omega⟩
  case round =>
    obtain ⟨k, q, hk, rfl, rfl, HB⟩ := hrel
    by_cases hlt : k < n
    · have hlt1 : (k : Int) < n := by omega
      have hk0 : (0 : Int) ≤ k := by omega
      have hkl : k < lst.length := by rw [HL.out]; exact hlt
      obtain ⟨b, o, rfl, hc⟩ := (HRD.out.only ((Only.refl [] w).drewN q) (by simp)).at hkl
      have hwx := HW.out (gI lst k) (mem_gI.2 ⟨k, hkl, rfl⟩)
      have cs := begin1_any (w.drewN q) cb (HH.out.drewN q) (gI lst k) hwx HC.out
      have HBM : Hid (gI lst k ≠ 0 ∧ (M.ob (gI lst k)).isSome = false → M.badRoot lst) := fun h => ⟨gI lst k, mem_gI.2 ⟨k, hkl, rfl⟩, h.1, by cases e : M.ob (gI lst k); rfl; rw [e] at h; simp at h⟩
      clear hwx hkl
      by_cases hd : gI lst k ≠ 0 ∧ (M.ob (gI lst k)).isSome = false
      · rw [decide_eq_true hd] at cs
        have HBR := Lib.hid (HBM.out hd)
        clear hd
        generalize gI lst k = x at *
        go_wp2_with fail
        refine cs.mono ?_
        rintro e _ ⟨rfl, q2, rfl⟩
        go_wp2_with fail
        exact hR.out _ _ ⟨k, rfl, ⟨fun _ => HBR.out, fun _ => by omega⟩, Drew.of w (q + q2)⟩
      · rw [decide_eq_false hd] at cs
        have HBN : Hid (∀ j, j < k + 1 → ¬ (gI lst j ≠ 0 ∧ (M.ob (gI lst j)).isSome = false)) := fun j hj => by
          by_cases e : j = k
          · rw [e]; exact hd
          · exact HB.out j (by omega)
        clear hd HBM
        generalize gI lst k = x at hc cs
        go_wp2_with fail
        refine cs.mono ?_
        rintro e _ ⟨rfl, q2, rfl⟩
        obtain ⟨q3, hq3⟩ := (Drew.of w q).more q2
        rw [hq3]
        clear cs hc hq3
        go_wp2_with fail
        exact ⟨⟨k + 1, q3, by omega, by go_num, rfl, HBN⟩, by simp [intOf]; omega⟩
    · obtain rfl : k = n := by omega
      have hlt1 : ¬ (k : Int) < (k : Int) := by omega
      have HNB : Hid (¬ M.badRoot lst) := fun ⟨x, h1, h2, h3⟩ => by
        obtain ⟨j, hj, rfl⟩ := mem_gI.1 h1
        exact HB.out j (by have := HL.out; omega) ⟨h2, by rw [h3]; rfl⟩
      go_wp2_with fail
      exact hR.out _ _ ⟨-1, rfl, ⟨fun h => by omega, fun h => absurd h HNB.out⟩, Drew.of w q⟩
theorem cntBegin_any (w : World) (cb : Nat) {L : Nat → Option Lb} {hb : Nat} {M : Hp} {X : HX} (h : HRep w L hb M X) (a : Option Addr) (n c : Nat) (lst : List Int) (hl : lst.length = n) (hn : n ≤ 1000000) (hr : Read w (.slice a n c) lst) (hw : ∀ x ∈ lst, wfI x) (hc : w.cell? ⟨cb, 0, none⟩ = some (.pointer (some ⟨hb, 0, none⟩))) :
    Calls Try.prog 61 #[.slice a n c, .func (.func 62) #[] #[.pointer (some ⟨cb, 0, none⟩)]] w fun e w' => ∃ r : Bool, e = .returned (.bool r) ∧ (r = true ↔ M.badRoot lst) ∧ Drew w w' := by
  refine calls_abs fun R hR => ?_
  have c1 := idxBegin_any w cb h a n c lst hl hn hr hw hc
  clear h hr hw hl hc
  go_enter Try.func61, Try.ntmps61
  go_wp2_with fail
  refine c1.mono ?_
  rintro e w1 ⟨r, rfl, h1, h2⟩
  have H1 := Lib.hid h1
  have H2 := Lib.hid h2
  clear h1 h2 c1
  by_cases hr0 : 0 ≤ r
  · have hb1 : decide (0 ≤ r) = true := decide_eq_true hr0
    go_wp2_with fail
    exact hR.out _ _ ⟨true, by first | rfl | simp [hr0], ⟨fun _ => H1.out.1 hr0, fun _ => rfl⟩, H2.out⟩
  · have hb1 : decide (0 ≤ r) = false := decide_eq_false hr0
    go_wp2_with fail
    exact hR.out _ _ ⟨false, by first | rfl | simp [hr0], ⟨fun h => (by cases h), fun h => by have := H1.out.2 h; omega⟩, H2.out⟩
theorem fst_zero {M : Hp} (hk : M.Ok) : M.ob 0 = none := by
  cases e : M.ob 0 with
  | none => rfl
  | some o => have := hk.hr 0 o e; omega
theorem set_get {l : List Asn} {i : Nat} {A : Asn} (h : l[i]? = some A) : l.set i A = l := lset_same h
theorem ML.born {M : Hp} (hi : l[i]? = some (PH hb M)) : ML (l ++ [MkA p hb (fun _ => 0) []]) i l.length hb p (Mk.start M) = l ++ [MkA p hb (fun _ => 0) []] := by
  have hil : i < l.length := (List.getElem?_eq_some_iff.1 hi).1
  unfold ML
  rw [List.set_append_left _ _ hil, show (Mk.start M).M = M from rfl, set_get hi, List.set_append_right _ _ (by omega), Nat.sub_self]
  rfl
theorem Two2.born {A B : Asn} (hi : l[i]? = some A) : Two2 (l ++ [B]) i l.length := by
  have hil : i < l.length := (List.getElem?_eq_some_iff.1 hi).1
  exact ⟨by simp; omega, by simp, by omega⟩
theorem mbegin_rep (w : World) {M : Hp} (hf : Fam w0 w l) (hi : l[i]? = some (PH hb M)) (a : Option Addr) (n c : Nat) (roots : List Int) (hl : roots.length = n) (hn : n ≤ 1000000) (hw : ∀ x ∈ roots, wfI x) (hr0 : Read w (.slice a n c) roots)
    (hr : ∀ p w' m', Fam w0 w' (ML (l ++ [MkA p hb (fun _ => 0) []]) i l.length hb p m') → Read w' (.slice a n c) roots) :
    Calls Try.prog 36 #[.pointer (some ⟨hb, 0, none⟩), .slice a n c] w (fun e w' => (M.badRoot roots ∧ e = .returned (.tuple #[.pointer none, .int .i64 3]) ∧ Fam w0 w' l) ∨ (¬ M.badRoot roots ∧ ∃ p, e = .returned (.tuple #[.pointer (some ⟨p, 0, none⟩), .int .i64 0]) ∧ Fam w0 w' (ML (l ++ [MkA p hb (fun _ => 0) []]) i l.length hb p ((Mk.start M).shades roots)))) := by
  refine calls_abs fun R hR => ?_
  have HF := Lib.hid hf
  obtain ⟨hk, L, X, hp⟩ := hf.ph i hi
  have HKF := Lib.hid (hf.phF i hi)
  have cb := (Row.new w 31 [.pointer (some ⟨hb, 0, none⟩)]).cell 0 rfl
  have ho1 : Only [] w (w.alloc (.cells #[.pointer (some ⟨hb, 0, none⟩)] 31)) := (Only.refl [] w).alloc _
  have HP1 : Hid (HRep (w.alloc (.cells #[.pointer (some ⟨hb, 0, none⟩)] 31)) L hb M X) := hp.only0 ho1
  have HF1 : Hid (Fam w0 (w.alloc (.cells #[.pointer (some ⟨hb, 0, none⟩)] 31)) l) := hf.only0 ho1
  have HRD := Lib.hid (hr0.only ho1 (by simp))
  have c1 := type_rep _ HP1.out 0 (by decide)
  have ht : M.type 0 = (0, 0, 0, 3) := by unfold Hp.type; rw [fst_zero hk]
  rw [ht] at c1
  have HW := Lib.hid hw
  have HI := Lib.hid hi
  have HR0 := Lib.hid hr
  have HL := Lib.hid hl
  have HCB := Lib.hid cb
  clear hf hk hp ho1 hr0 ht hw hi hr hl
  go_enter Try.func36, Try.ntmps36
  go_wp2_with fail
  generalize w.alloc (.cells #[.pointer (some ⟨hb, 0, none⟩)] 31) = w1 at *
  refine c1.mono ?_
  rintro e _ ⟨rfl, q, rfl⟩
  have c2 := cntBegin_any (w1.drewN q) w.heap.size (HP1.out.drewN q) a n c roots HL.out hn (HRD.out.only ((Only.refl [] w1).drewN q) (by simp)) HW.out HCB.out
  have HF2 : Hid (Fam w0 (w1.drewN q) l) := HF1.out.drewN q
  have HCB2 : Hid ((w1.drewN q).cell? ⟨w.heap.size, 0, none⟩ = some (.pointer (some ⟨hb, 0, none⟩))) := HCB.out
  clear c1 HP1 HF1 HRD HF cb HCB
  generalize w1.drewN q = w2 at *
  have cb := HCB2.out
  go_wp2_with fail
  refine c2.mono ?_
  rintro e w3 ⟨r, rfl, hbr, hdr⟩
  have HF3 := Lib.hid (HF2.out.only0 (hdr.only []))
  have HBR := Lib.hid hbr
  have cb3 : w3.cell? ⟨w.heap.size, 0, none⟩ = some (.pointer (some ⟨hb, 0, none⟩)) := (hdr.only []).cell HCB2.out (by simp)
  clear c2 HF2 hbr hdr HCB2 cb
  cases r with
  | true =>
    have HB := Lib.hid (HBR.out.1 rfl)
    go_wp2_with fail
    exact hR.out _ _ (.inl ⟨HB.out, rfl, HF3.out⟩)
  | false =>
    have HB : Hid (¬ M.badRoot roots) := fun h => by have := HBR.out.2 h; cases this
    have hsz : (w3.alloc (.map #[] 0)).heap.size = w3.heap.size + 1 := by simp
    have hborn : Born w3 ((w3.alloc (.map #[] 0)).alloc (.cells #[.pointer (some ⟨hb, 0, none⟩), .map (some w3.heap.size), .slice none 0 0] 117)) (MkA (w3.heap.size + 1) hb (fun _ => 0) []) := by
      refine ⟨((Only.refl [] w3).alloc _).alloc _, fun k => k = w3.heap.size + 1 ∨ k = w3.heap.size ∨ (Value.slice none 0 0).ownBlock = some k, ⟨w3.heap.size, .slice none 0 0, ⟨⟨117, ?_⟩, (MapC.made w3).onlyF ((Only.refl [] _).alloc _) (by simp), Ints.nil _ _, by omega, fun g hg => by cases hg⟩, fun k => Iff.rfl⟩, fun k hk => ?_⟩
      · have := Row.new (w3.alloc (.map #[] 0)) 117 [.pointer (some ⟨hb, 0, none⟩), .map (some w3.heap.size), .slice none 0 0]
        rw [hsz] at this
        exact this
      · rcases hk with hk | hk | hk
        · omega
        · omega
        · cases hk
    have hf4 := HF3.out.add hborn
    rw [← ML.born HI.out] at hf4
    have ce := each_rep _ (Two2.born HI.out) hf4 (Mk.Ok.start HKF.out) a n c roots HL.out hn (fun w' m' h7 => HR0.out _ w' m' h7) HW.out
    have hmm : (Instr.makeMap 115 none).run Try.prog w3 = .ok (.map (some w3.heap.size)) (w3.alloc (.map #[] 0)) := by kernel_rfl
    clear hborn hf4 hsz
    go_wp2_with fail
    refine ce.mono ?_
    rintro e w5 ⟨rfl, hf5⟩
    have HF5 := Lib.hid hf5
    clear ce hf5
    go_wp2_with fail
    exact hR.out _ _ (.inr ⟨HB.out, w3.heap.size + 1, rfl, HF5.out⟩)
end
end Go.Proofs.Ythflghdaejbdkaa
