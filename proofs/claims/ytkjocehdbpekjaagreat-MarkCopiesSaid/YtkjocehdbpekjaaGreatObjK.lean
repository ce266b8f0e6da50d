/- Contracts of package object: Alike's function. Contracts of package object: Alike. Contracts of package object: Alike, whole. -/
import Derived.Test.YtkjocehdbpekjaaGreatObjG
namespace Go.Proofs.YtkjocehdbpekjaaGreat
open Go.RowKit Go.Maps
set_option maxHeartbeats 3200000
set_option maxRecDepth 100000
set_option linter.unusedVariables false
/-- Two things show the same. -/
def likeT (o o2 : Th) : Bool := decide (o.kind = o2.kind) && decide (o.cls = o2.cls) && decide (o.rlist = o2.rlist) && decide (o.slots = o2.slots)
section
variable {L L2 : Nat → Option Lb} {hb hb2 : Nat} {M M2 : Hp} {X X2 : HX}
theorem alike1_any (w : World) (h : HRep w L hb M X) (hk : M.Ok) (h2 : HRep w L2 hb2 M2 X2) (hk2 : M2.Ok) {x x2 : Int} {o o2 : Th} (ho : M.ob x = some o) (ho2 : M2.ob x2 = some o2) (p1 p2 : Nat)
    (e1 : w.cell? ⟨p1, 0, none⟩ = some (.pointer (some ⟨hb, 0, none⟩))) (e2 : w.cell? ⟨p2, 0, none⟩ = some (.pointer (some ⟨hb2, 0, none⟩))) :
    Calls Tryz.prog 119 #[.pointer (some ⟨X.blk x, 0, none⟩), .pointer (some ⟨X2.blk x2, 0, none⟩), .pointer (some ⟨p1, 0, none⟩), .pointer (some ⟨p2, 0, none⟩)] w (fun e w' => e = .returned (.bool (likeT o o2)) ∧ Only [] w w') := by
  refine calls_abs fun R hR => ?_
  have t1 := h.th x o ho
  have t2 := h2.th x2 o2 ho2
  obtain ⟨c10, c11, c12, c13, c14⟩ := t1.cells
  obtain ⟨c20, c21, c22, c23, c24⟩ := t2.cells
  have le1 := (hk.th x o ho).le
  have le2 := (hk2.th x2 o2 ho2).le
  have l1 : o.rlist.length ≤ 1000000 := by have := (hk.th x o ho).rl; unfold Th.rlist; split <;> simp; omega
  have l2 : o2.rlist.length ≤ 1000000 := by have := (hk2.th x2 o2 ho2).rl; unfold Th.rlist; split <;> simp; omega
  have heb : ∀ wx, Only [] w wx → Calls Tryz.prog 120 #[X.rv x, X2.rv x2] wx (fun e w' => e = .returned (.bool (decide (o.rlist = o2.rlist))) ∧ Drew wx w') := fun wx hox =>
    equal_bls wx _ _ _ _ (t1.rb.read.only hox (by simp)) (t2.rb.read.only hox (by simp)) l1 l2
  have HSL1 : Hid (∀ wx, Only [] w wx → Calls Tryz.prog 122 #[.pointer (some ⟨hb, 0, none⟩), .pointer (some ⟨X.blk x, 0, none⟩)] wx (RetL wx o.slots)) := fun wx hox => slotsT_any wx (h.only0 hox) hk ho
  have HSL2 : Hid (∀ wx, Only [] w wx → Calls Tryz.prog 122 #[.pointer (some ⟨hb2, 0, none⟩), .pointer (some ⟨X2.blk x2, 0, none⟩)] wx (RetL wx o2.slots)) := fun wx hox => slotsT_any wx (h2.only0 hox) hk2 ho2
  obtain ⟨a1, b1, hv1⟩ := t1.rb.len
  obtain ⟨a2, b2, hv2⟩ := t2.rb.len
  rw [hv1] at c13 heb
  rw [hv2] at c23 heb
  have HLE : Hid (o.slots.length ≤ 48 ∧ o2.slots.length ≤ 48) := ⟨le1, le2⟩
  obtain ⟨n1, hn1⟩ : ∃ z, z = o.rlist.length := ⟨_, rfl⟩
  obtain ⟨n2, hn2⟩ : ∃ z, z = o2.rlist.length := ⟨_, rfl⟩
  rw [← hn1] at c13 heb
  rw [← hn2] at c23 heb
  generalize X.blk x = k1 at *
  generalize X2.blk x2 = k2 at *
  clear h h2 t1 t2 hv1 hv2 c14 c24 hk hk2 ho ho2 l1 l2 hn1 hn2 le1 le2
  have hl : Hid (likeT o o2 = (decide (o.kind = o2.kind) && decide (o.cls = o2.cls) && decide (o.rlist = o2.rlist) && decide (o.slots = o2.slots))) := rfl
  by_cases q1 : o.kind = o2.kind
  · rw [q1] at c10
    by_cases q2 : o.cls = o2.cls
    · rw [q2] at c11
      by_cases q3 : o.slots.length = o2.slots.length
      · rw [q3] at c12
        have hl2 : Hid (likeT o o2 = (decide (o.rlist = o2.rlist) && decide (o.slots = o2.slots))) := by show _ = _; rw [hl.out, q1, q2]; simp
        obtain ⟨kd, hkd⟩ : ∃ z, z = o2.kind := ⟨_, rfl⟩
        obtain ⟨cl, hcl⟩ : ∃ z, z = o2.cls := ⟨_, rfl⟩
        obtain ⟨ln, hln⟩ : ∃ z, z = o2.slots.length := ⟨_, rfl⟩
        rw [← hkd] at c10 c20
        rw [← hcl] at c11 c21
        rw [← hln] at c12 c22
        clear q1 q2 q3 hkd hcl hln hl
        cases hq : decide (o.rlist = o2.rlist)
        · rw [hq] at heb
          have HL : Hid (likeT o o2 = false) := by show _ = _; rw [hl2.out, hq]; rfl
          have heq : ∀ n, Calls Tryz.prog 120 #[.slice a1 n1 b1, .slice a2 n2 b2] (w.drewN n) fun e w'' => e = .returned (.bool false) ∧ ∃ m, w'' = w.drewN m := fun n => Calls.quiet_of (heb _ ((Only.refl [] w).drewN n))
          clear heb hq hl2
          go_enter Tryz.func119, Tryz.ntmps119
          go_wp2_with fail
          go_quiet ((go_at_call 120; with_reducible exact heq _))
          go_wp2_with fail
          exact hR.out _ _ ⟨by rw [HL.out]; rfl, (Only.refl [] w).drewN _⟩
        · rw [hq] at heb
          have HL : Hid (likeT o o2 = decide (o.slots = o2.slots)) := by show _ = _; rw [hl2.out, hq]; rfl
          have HEB := Lib.hid heb
          have HEI : Hid (∀ wx v v2, Ints wx 0 v o.slots → Ints wx 0 v2 o2.slots → Calls Tryz.prog 121 #[v, v2] wx (fun e w' => e = .returned (.bool (likeT o o2)) ∧ Drew wx w')) := fun wx v v2 i1 i2 => by
            rw [HL.out]
            exact equal_lists wx v v2 _ _ i1.read i2.read (by have := HLE.out.1; omega) (by have := HLE.out.2; omega)
          have QD : Hid (Only [] w w.drew) := only_d1 w
          have d10 : w.drew.cell? ⟨k1, 0, none⟩ = _ := c10
          have d11 : w.drew.cell? ⟨k1, 1, none⟩ = _ := c11
          have d12 : w.drew.cell? ⟨k1, 2, none⟩ = _ := c12
          have d13 : w.drew.cell? ⟨k1, 3, none⟩ = _ := c13
          have d20 : w.drew.cell? ⟨k2, 0, none⟩ = _ := c20
          have d21 : w.drew.cell? ⟨k2, 1, none⟩ = _ := c21
          have d22 : w.drew.cell? ⟨k2, 2, none⟩ = _ := c22
          have d23 : w.drew.cell? ⟨k2, 3, none⟩ = _ := c23
          have de1 : w.drew.cell? ⟨p1, 0, none⟩ = _ := e1
          have de2 : w.drew.cell? ⟨p2, 0, none⟩ = _ := e2
          generalize likeT o o2 = res at *
          clear heb hq hl2 HL c10 c11 c12 c13 c20 c21 c22 c23 e1 e2
          go_enter Tryz.func119, Tryz.ntmps119
          go_wp2_with fail
          go_region_held3 (fun w' => (w'.cell? ⟨k1, 0, none⟩ = some (.int .i64 kd) ∧ w'.cell? ⟨k1, 1, none⟩ = some (.int .i64 cl) ∧ w'.cell? ⟨k1, 2, none⟩ = some (.int .i64 ln) ∧ w'.cell? ⟨k1, 3, none⟩ = some (.slice a1 n1 b1)) ∧ (w'.cell? ⟨k2, 0, none⟩ = some (.int .i64 kd) ∧ w'.cell? ⟨k2, 1, none⟩ = some (.int .i64 cl) ∧ w'.cell? ⟨k2, 2, none⟩ = some (.int .i64 ln) ∧ w'.cell? ⟨k2, 3, none⟩ = some (.slice a2 n2 b2)) ∧ w'.cell? ⟨p1, 0, none⟩ = some (.pointer (some ⟨hb, 0, none⟩)) ∧ w'.cell? ⟨p2, 0, none⟩ = some (.pointer (some ⟨hb2, 0, none⟩)))
            (first
              | (exact ⟨⟨d10, d11, d12, d13⟩, ⟨d20, d21, d22, d23⟩, de1, de2⟩)
              | (exact ⟨⟨oo.cellN d10, oo.cellN d11, oo.cellN d12, oo.cellN d13⟩, ⟨oo.cellN d20, oo.cellN d21, oo.cellN d22, oo.cellN d23⟩, oo.cellN de1, oo.cellN de2⟩))
            (first
              | (go_at_call 120; refine (HEB.out _ QD.out).mono ?_; rintro e w3 ⟨rfl, hd3⟩; have oo : Only [] w.drew w3 := hd3.only [])
              | (go_at_call_of 122 k1; refine (HSL1.out _ (QD.out.trans oo (by simp))).mono ?_; rintro e w4 ⟨v4, rfl, i4, o4⟩; obtain ⟨va4, vc4, hv4⟩ := i4.len; obtain ⟨n4, hn4⟩ : ∃ z, z = o.slots.length := ⟨_, rfl⟩; rw [← hn4] at hv4; subst hv4; clear hn4; replace oo := oo.trans o4 (by simp))
              | (go_at_call_of 122 k2; refine (HSL2.out _ (QD.out.trans oo (by simp))).mono ?_; rintro e w5 ⟨v5, rfl, i5, o5⟩; obtain ⟨va5, vc5, hv5⟩ := i5.len; obtain ⟨n5, hn5⟩ : ∃ z, z = o2.slots.length := ⟨_, rfl⟩; rw [← hn5] at hv5; subst hv5; clear hn5; replace oo := oo.trans o5 (by simp))
              | (go_at_call 121; refine (HEI.out _ _ _ ((i4.base (Nat.zero_le _)).only o5 (by simp)) (i5.base (Nat.zero_le _))).mono ?_; rintro e w6 ⟨rfl, hd6⟩; replace oo := oo.trans (hd6.only []) (by simp)))
          go_wp2_with fail
          exact hR.out _ _ ⟨rfl, QD.out.trans oo (by simp)⟩
      · have HL : Hid (likeT o o2 = false) := by
          show _ = _
          rw [hl.out, decide_eq_false (show ¬ o.slots = o2.slots from fun e => q3 (by rw [e]))]
          simp
        have q3' : ¬ (o.slots.length : Int) = (o2.slots.length : Int) := by omega
        generalize (o.slots.length : Int) = ln1 at *
        generalize (o2.slots.length : Int) = ln2 at *
        have hq : (ln1 == ln2) = false := by simpa using q3'
        generalize o2.kind = kd at *
        generalize o2.cls = cl at *
        clear q1 q2 q3 q3' hl heb e1 e2
        go_enter Tryz.func119, Tryz.ntmps119
        go_wp2_with fail
        go_quiet (fail)
        go_wp2_with fail
        exact hR.out _ _ ⟨by rw [HL.out]; rfl, (Only.refl [] w).drewN _⟩
    · have HL : Hid (likeT o o2 = false) := by
        show _ = _
        rw [hl.out, decide_eq_false q2]
        simp
      have hq : (o.cls == o2.cls) = false := by simpa using q2
      generalize (o.slots.length : Int) = ln1 at *
      generalize (o2.slots.length : Int) = ln2 at *
      generalize o2.kind = kd at *
      generalize o.cls = cl1 at *
      generalize o2.cls = cl at *
      clear q1 q2 hl heb e1 e2
      go_enter Tryz.func119, Tryz.ntmps119
      go_wp2_with fail
      go_quiet (fail)
      go_wp2_with fail
      exact hR.out _ _ ⟨by rw [HL.out]; rfl, (Only.refl [] w).drewN _⟩
  · have HL : Hid (likeT o o2 = false) := by
      show _ = _
      rw [hl.out, decide_eq_false q1]
      simp
    have hq : (o.kind == o2.kind) = false := by simpa using q1
    generalize (o.slots.length : Int) = ln1 at *
    generalize (o2.slots.length : Int) = ln2 at *
    generalize o.kind = kd1 at *
    generalize o2.kind = kd at *
    generalize o.cls = cl1 at *
    generalize o2.cls = cl at *
    clear q1 hl heb e1 e2
    go_enter Tryz.func119, Tryz.ntmps119
    go_wp2_with fail
    go_quiet (fail)
    go_wp2_with fail
    exact hR.out _ _ ⟨by rw [HL.out]; rfl, (Only.refl [] w).drewN _⟩
end
end Go.Proofs.YtkjocehdbpekjaaGreat
namespace Go.Proofs.YtkjocehdbpekjaaGreat
open Go.RowKit Go.Maps
set_option maxHeartbeats 3200000
set_option maxRecDepth 100000
set_option linter.unusedVariables false
theorem equalFunc_any (w : World) (p1 p2 m1 m2 n1 n2 : Nat) (f1 f2 : Int → Option Nat) (g : Int → Bool) (h1 : MapAt w m1 n1 f1) (h2 : MapAt w m2 n2 f2)
    (heq : ∀ k b1 b2 w', Only [] w w' → f1 k = some b1 → f2 k = some b2 → Calls Tryz.prog 119 #[.pointer (some ⟨b1, 0, none⟩), .pointer (some ⟨b2, 0, none⟩), .pointer (some ⟨p1, 0, none⟩), .pointer (some ⟨p2, 0, none⟩)] w' (fun e w'' => e = .returned (.bool (g k)) ∧ Only [] w' w'')) :
    Calls Tryz.prog 118 #[.map (some m1), .map (some m2), .func (.func 119) #[] #[.pointer (some ⟨p1, 0, none⟩), .pointer (some ⟨p2, 0, none⟩)]] w fun e w' =>
      ∃ r, e = .returned (.bool r) ∧ (r = true ↔ EqM f1 f2 g) ∧ Only [] w w' := by
  refine calls_abs fun R hR => ?_
  have HM2 := Lib.hid h2
  obtain ⟨D1, own1, dat1⟩ := h1
  obtain ⟨D2, own2, dat2⟩ := h2
  have d1 : DatIs D1 f1 := dat1
  have d2 : DatIs D2 f2 := dat2
  have HEQ := Lib.hid heq
  have HD1 := Lib.hid d1
  have HD2 := Lib.hid d2
  have O1 := Lib.hid own1
  have O2 := Lib.hid own2
  clear dat1 dat2 d1 d2 heq own1 own2
  by_cases hs : Maps.size D1 = Maps.size D2
  · have HS := Lib.hid hs
    go_enter Tryz.func118, Tryz.ntmps118
    go_wp2_with (first
      | (at_len; refine wpList_len_own _ rfl (.tmp 11) 127 rfl 3 125 Tryz.underlying127 ptrElem m1 n1 D1 rfl O1.out ?_)
      | (at_len; refine wpList_len_own _ rfl (.tmp 13) 127 rfl 3 125 Tryz.underlying127 ptrElem m2 n2 D2 rfl O2.out ?_)
      | (at_range; refine wpList_range_own _ rfl _ 127 rfl 3 125 keyedI Tryz.underlying127 ptrElem m1 n1 D1 rfl O1.out ?_; intro w0 hrg0 hg0 hs0))
    go_frame
    clear hs
    have Q0 : Only [] w w0 := (Only.refl [] w).grown hg0 (fun k hk => by cases hk)
    go_loopw [7] (fun _ wr => ∃ left cnt, wr.ranges Tryz.prog 3 ptrElem m1 w.heap.size n1 D1 left cnt ∧ Hid (∀ k, wfI k → (f1 k).isSome = true → left (.int .i64 k) = false → (f2 k).isSome = true ∧ g k = true) ∧ Only [] w wr) (fun _ wr => wr.rangeLeft m1 w.heap.size)
    case atStart =>
      refine ⟨_, _, hrg0, fun k hk h3 h4 => ?_, Q0⟩
      rw [(HD1.out k hk).1, h3] at h4
      cases h4
    case round =>
      clear hrg0 hg0 hs0 Q0
      obtain ⟨left, cnt, hrg, HF, hO⟩ := hrel
      have HRG := Lib.hid hrg
      have HO := Lib.hid hO
      clear hrg hO
      go_wp2_with (at_next; refine wpList_next_things rfl _ rfl m1 w.heap.size n1 D1 left cnt _ HD1.out rfl HRG.out ?_ ?_)
      · intro _ hl0
        have HL0 := Lib.hid hl0
        clear hl0
        go_wp2_with fail
        exact hR.out _ _ ⟨true, rfl, ⟨fun _ => EqM.of O1.out O2.out HD1.out HD2.out HS.out (fun k hk e => HF.out k hk e (HL0.out _)), fun _ => rfl⟩, HO.out⟩
      · intro k c w1 cnt1 hwk hlk hfk hrg1 hlt hg1 hs1 hen
        have QO1 : Hid (Only [] w w1) := HO.out.grown hg1 (fun j hj => by cases hj; exact .inr (Nat.le_refl _))
        have hlook := (HM2.out.only (QO1.out.toP0 (S := fun _ => False)) (fun x => x)).look_ok hwk
        have hmeas : cnt1 < wr.rangeLeft m1 w.heap.size := by rw [HRG.out.left_eq]; exact hlt
        have HR1 := Lib.hid hrg1
        have HFK := Lib.hid hfk
        have HLK := Lib.hid hlk
        have HWK : Hid (wfI k) := hwk
        have hstep : Hid (∀ j, wfI j → (f1 j).isSome = true → (left (.int .i64 j) && !(Lit.int .i64 j).sameKey (.int .i64 k)) = false → (f2 k).isSome = true → g k = true → (f2 j).isSome = true ∧ g j = true) := fun j hj e1 e2 e3 e4 => by
          by_cases e : j = k
          · subst e; exact ⟨e3, e4⟩
          · refine HF.out j hj e1 ?_
            rw [sameI j k hwk] at e2
            simp [e] at e2
            exact e2
        clear hrg1 hlk hfk hlt hg1 hs1
        cases hf2 : f2 k with
        | none =>
          rw [hf2] at hlook
          replace hlook : (Instr.lookup 127 (.map (some m2)) (.int .i64 k) true).run Tryz.prog w1 = .ok (.tuple #[.pointer none, .bool false]) w1 := hlook
          have HF2 := Lib.hid hf2
          clear hf2 hstep
          go_wp2_with fail
          exact hR.out _ _ ⟨false, rfl, ⟨fun h => (by cases h), fun h => absurd h (EqM.no1 HWK.out (by rw [HFK.out]; rfl) HF2.out)⟩, QO1.out⟩
        | some b2 =>
          rw [hf2] at hlook
          replace hlook : (Instr.lookup 127 (.map (some m2)) (.int .i64 k) true).run Tryz.prog w1 = .ok (.tuple #[.pointer (some ⟨b2, 0, none⟩), .bool true]) w1 := hlook
          have hc := HEQ.out k c b2 w1 QO1.out HFK.out hf2
          have HF2 := Lib.hid hf2
          clear hf2
          cases hg : g k
          · rw [hg] at hc
            have HG := Lib.hid hg
            clear hg hstep
            go_wp2_with fail
            refine hc.mono ?_
            rintro e w2 ⟨rfl, ho2⟩
            have QO2 := Lib.hid (QO1.out.trans ho2 (by simp))
            clear ho2 hc hlook
            go_wp2_with fail
            exact hR.out _ _ ⟨false, rfl, ⟨fun h => (by cases h), fun h => absurd h (EqM.no2 HWK.out (by rw [HFK.out]; rfl) HG.out)⟩, QO2.out⟩
          · rw [hg] at hc
            have HG := Lib.hid hg
            clear hg
            go_wp2_with fail
            refine hc.mono ?_
            rintro e w2 ⟨rfl, ho2⟩
            have QO2 := Lib.hid (QO1.out.trans ho2 (by simp))
            have HR2 := Lib.hid (ranges_only HR1.out (ho2.toP0 (S := fun _ => False)) (fun x => x) (fun x => x))
            clear ho2 hc hlook
            go_wp2_with fail
            exact ⟨⟨_, cnt1, HR2.out, fun j hj e1 e2 => hstep.out j hj e1 e2 (by rw [HF2.out]; rfl) HG.out, QO2.out⟩, by rw [HR2.out.left_eq]; exact hmeas⟩
  · have HNS := Lib.hid hs
    go_enter Tryz.func118, Tryz.ntmps118
    go_wp2_with (first
      | (at_len; refine wpList_len_own _ rfl (.tmp 11) 127 rfl 3 125 Tryz.underlying127 ptrElem m1 n1 D1 rfl O1.out ?_)
      | (at_len; refine wpList_len_own _ rfl (.tmp 13) 127 rfl 3 125 Tryz.underlying127 ptrElem m2 n2 D2 rfl O2.out ?_))
    exact hR.out _ _ ⟨false, rfl, ⟨fun h => (by cases h), fun h => absurd (h.size O1.out O2.out HD1.out HD2.out) HNS.out⟩, Only.refl _ _⟩

/-- Two heaps show the same things. -/
def AlikeM (M M2 : Hp) : Prop := ∀ k, wfI k → (M.ob k).isSome = (M2.ob k).isSome ∧ ∀ o o2, M.ob k = some o → M2.ob k = some o2 → likeT o o2 = true
/-- .. at one handle. -/
def likeAt (M M2 : Hp) (k : Int) : Bool := match M.ob k, M2.ob k with | some o, some o2 => likeT o o2 | _, _ => true
section
variable {L L2 : Nat → Option Lb} {hb hb2 : Nat} {M M2 : Hp} {X X2 : HX}
theorem alike_map (w : World) (h : HRep w L hb M X) (hk : M.Ok) (h2 : HRep w L2 hb2 M2 X2) (hk2 : M2.Ok) (p1 p2 : Nat)
    (e1 : w.cell? ⟨p1, 0, none⟩ = some (.pointer (some ⟨hb, 0, none⟩))) (e2 : w.cell? ⟨p2, 0, none⟩ = some (.pointer (some ⟨hb2, 0, none⟩))) :
    Calls Tryz.prog 118 #[.map (some X.mb), .map (some X2.mb), .func (.func 119) #[] #[.pointer (some ⟨p1, 0, none⟩), .pointer (some ⟨p2, 0, none⟩)]] w fun e w' =>
      ∃ r, e = .returned (.bool r) ∧ (r = true ↔ AlikeM M M2) ∧ Only [] w w' := by
  refine (equalFunc_any w p1 p2 X.mb X2.mb 192 192 _ _ (likeAt M M2) h.mp h2.mp (fun k b1 b2 w' ho f1 f2 => ?_)).mono ?_
  · cases o1 : M.ob k with
    | none => rw [o1] at f1; cases f1
    | some u1 =>
      cases o2 : M2.ob k with
      | none => rw [o2] at f2; cases f2
      | some u2 =>
        rw [o1] at f1
        rw [o2] at f2
        simp at f1 f2
        subst f1 f2
        have := alike1_any w' (h.only0 ho) hk (h2.only0 ho) hk2 o1 o2 p1 p2 (ho.cellN e1) (ho.cellN e2)
        rwa [show likeT u1 u2 = likeAt M M2 k by unfold likeAt; rw [o1, o2]] at this
  · rintro e w' ⟨r, rfl, hr, ho'⟩
    refine ⟨r, rfl, ?_, ho'⟩
    rw [hr]
    constructor
    · intro hq k hk
      obtain ⟨q1, q2⟩ := hq k hk
      simp at q1 q2
      refine ⟨q1, fun o o2 ho ho2 => ?_⟩
      have := q2 (by rw [ho]; rfl)
      unfold likeAt at this
      rwa [ho, ho2] at this
    · intro hq k hk
      obtain ⟨q1, q2⟩ := hq k hk
      refine ⟨by simpa using q1, fun e => ?_⟩
      unfold likeAt
      cases ho : M.ob k with
      | none => rfl
      | some o =>
        cases ho2 : M2.ob k with
        | none => rfl
        | some o2 => exact q2 o o2 ho ho2
end
end Go.Proofs.YtkjocehdbpekjaaGreat
namespace Go.Proofs.YtkjocehdbpekjaaGreat
open Go.RowKit Go.Maps
set_option maxHeartbeats 3200000
set_option maxRecDepth 100000
set_option linter.unusedVariables false
theorem HNope.only {w w' : World} {v : Value} (h : HNope w v) (ho : Only [] w w') : HNope w' v := by
  rcases h with h | ⟨b, h1, h2⟩
  · exact .inl h
  · exact .inr ⟨b, h1, ho.cellN h2⟩
theorem two_box (w : World) (v v2 : Value) : ((w.alloc (.cells #[v] 35)).alloc (.cells #[v2] 35)).cell? ⟨w.heap.size, 0, none⟩ = some v ∧ ((w.alloc (.cells #[v] 35)).alloc (.cells #[v2] 35)).cell? ⟨w.heap.size + 1, 0, none⟩ = some v2 ∧ Only [] w ((w.alloc (.cells #[v] 35)).alloc (.cells #[v2] 35)) := by
  refine ⟨?_, ?_, ((Only.refl [] w).alloc _).alloc _⟩
  · exact ((Row.new w 35 [v]).alloc _).cell 0 rfl
  · have := Row.new (w.alloc (.cells #[v] 35)) 35 [v2]
    rw [World.size_alloc] at this
    exact this.cell 0 rfl
/-- One of the two is nothing. -/
theorem alike_none (w : World) (a a2 : Option Addr) (n1 n2 : Bool) (h1 : ∀ wx, Only [] w wx → Calls Tryz.prog 85 #[.pointer a] wx (Exact wx (.bool n1))) (h2 : ∀ wx, Only [] w wx → Calls Tryz.prog 85 #[.pointer a2] wx (Exact wx (.bool n2))) (hn : (n1 || n2) = true) :
    Calls Tryz.prog 55 #[.pointer a, .pointer a2] w (fun e w' => e = .returned (.bool (n1 && n2)) ∧ Only [] w w') := by
  refine calls_abs fun R hR => ?_
  obtain ⟨b1, b2, ho⟩ := two_box w (.pointer a) (.pointer a2)
  have c1 := h1 _ ho
  have c2 := h2 _ ho
  have HO := Lib.hid ho
  clear h1 h2 ho
  go_enter Tryz.func55, Tryz.ntmps55
  go_wp2_with fail
  generalize ((w.alloc (.cells #[.pointer a] 35)).alloc (.cells #[.pointer a2] 35)) = wx at *
  refine c1.mono ?_
  rintro e _ ⟨rfl, rfl⟩
  cases n1
  · obtain rfl : n2 = true := by simpa using hn
    clear hn
    go_wp2_with fail
    refine c2.mono ?_
    rintro e _ ⟨rfl, rfl⟩
    go_wp2_with fail
    refine c1.mono ?_
    rintro e _ ⟨rfl, rfl⟩
    go_wp2_with fail
    exact hR.out _ _ ⟨rfl, HO.out⟩
  · clear hn
    go_wp2_with fail
    refine c1.mono ?_
    rintro e _ ⟨rfl, rfl⟩
    go_wp2_with fail
    refine c2.mono ?_
    rintro e _ ⟨rfl, rfl⟩
    go_wp2_with fail
    exact hR.out _ _ ⟨rfl, HO.out⟩
section
variable {L L2 : Nat → Option Lb} {hb hb2 : Nat} {M M2 : Hp} {X X2 : HX}
theorem alike_rep (w : World) (h : HRep w L hb M X) (hk : M.Ok) (h2 : HRep w L2 hb2 M2 X2) (hk2 : M2.Ok) :
    Calls Tryz.prog 55 #[.pointer (some ⟨hb, 0, none⟩), .pointer (some ⟨hb2, 0, none⟩)] w fun e w' =>
      ∃ r, e = .returned (.bool r) ∧ (r = true ↔ AlikeM M M2) ∧ Only [] w w' := by
  refine calls_abs fun R hR => ?_
  obtain ⟨b1, b2, ho⟩ := two_box w (.pointer (some ⟨hb, 0, none⟩)) (.pointer (some ⟨hb2, 0, none⟩))
  have c1 := hnone_rep _ (h.only0 ho)
  have c2 := hnone_rep _ (h2.only0 ho)
  have hmf : ∀ (fn : Fn) (first cap : Array Value) (w : World), (Instr.makeFunc fn first cap).run Tryz.prog w = .ok (.func fn first cap) w := fun _ _ _ _ => rfl
  have HO := Lib.hid ho
  have H := Lib.hid h
  have H2 := Lib.hid h2
  have HK := Lib.hid hk
  have HK2 := Lib.hid hk2
  clear ho h h2 hk hk2
  go_enter Tryz.func55, Tryz.ntmps55
  go_wp2_with fail
  generalize ((w.alloc (.cells #[.pointer (some ⟨hb, 0, none⟩)] 35)).alloc (.cells #[.pointer (some ⟨hb2, 0, none⟩)] 35)) = wx at *
  generalize w.heap.size + 1 = p2 at *
  generalize w.heap.size = p1 at *
  refine c1.mono ?_
  rintro e _ ⟨rfl, rfl⟩
  clear c1
  go_wp2_with fail
  refine c2.mono ?_
  rintro e _ ⟨rfl, rfl⟩
  clear c2
  go_wp2_with fail
  have hx := H.out.only0 HO.out
  have hx2 := H2.out.only0 HO.out
  have d1 : wx.drew.cell? ⟨p1, 0, none⟩ = _ := b1
  have d2 : wx.drew.cell? ⟨p2, 0, none⟩ = _ := b2
  have d3 : wx.drew.cell? ⟨hb, 1, none⟩ = _ := hx.cells.2.1
  have d4 : wx.drew.cell? ⟨hb2, 1, none⟩ = _ := hx2.cells.2.1
  have HM := Lib.hid (alike_map wx.drew (hx.drew) HK.out (hx2.drew) HK2.out p1 p2 d1 d2)
  have QD : Hid (Only [] w wx.drew) := HO.out.drew
  clear hx hx2 b1 b2 H H2
  generalize X.mb = mb1 at *
  generalize X2.mb = mb2 at *
  go_region_held3 (fun w' => w'.cell? ⟨p1, 0, none⟩ = some (.pointer (some ⟨hb, 0, none⟩)) ∧ w'.cell? ⟨p2, 0, none⟩ = some (.pointer (some ⟨hb2, 0, none⟩)) ∧ w'.cell? ⟨hb, 1, none⟩ = some (.map (some mb1)) ∧ w'.cell? ⟨hb2, 1, none⟩ = some (.map (some mb2)))
    (first
      | (exact ⟨d1, d2, d3, d4⟩)
      | (exact ⟨ho4.cellN d1, ho4.cellN d2, ho4.cellN d3, ho4.cellN d4⟩))
    (first
      | (go_at_call 118; refine HM.out.mono ?_; rintro e w4 ⟨r, rfl, hr, ho4⟩))
  go_wp2_with fail
  exact hR.out _ _ ⟨r, rfl, hr, QD.out.trans ho4 (by simp)⟩
end
end Go.Proofs.YtkjocehdbpekjaaGreat
