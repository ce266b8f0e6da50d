/- Lemmas of this claim. -/
import Derived.Test.YthflghdaejbdkaaGreatXfCyMt
namespace Go.Proofs.YthflghdaejbdkaaGreat
open Go.RowKit Go.Maps
set_option maxHeartbeats 12800000
set_option maxRecDepth 100000
set_option linter.unusedVariables false
theorem run_any (w : World) (pages rate : Int) (la : Option Addr) (ln lc : Nat) (f : Nat → Nat → Int) (ra : Option Addr) (rn rc : Nat) (g : Nat → Int) (hd : Recs 4 w la ln f) (hw : Nums w ra rn g) :
    Calls Tryz.prog 33 #[.int .i64 pages, .int .i64 rate, .slice la ln lc, .slice ra rn rc] w (Ran w (Rated pages rate) (Pm.after f (min ln 60))) := by
  by_cases hb : Rated pages rate
  · exact run_bad w pages rate hb _ (.slice none 0 0) (.slice none 0 0) la ra ln lc rn rc
  · have hb2 := hb
    unfold Rated at hb2
    obtain ⟨n, rfl⟩ : ∃ n : Nat, pages = (n : Int) := ⟨pages.toNat, by omega⟩
    exact run_good w n rate (by omega) (by omega) (by omega) la ln lc f ra rn rc g hd hw
end Go.Proofs.YthflghdaejbdkaaGreat
namespace Go.Proofs.YthflghdaejbdkaaGreat
open Go.RowKit Go.Maps
set_option maxHeartbeats 12800000
set_option maxRecDepth 100000
set_option linter.unusedVariables false
section
variable {wa wb w : World} {l l2 : List Asn} {ma mb : Nat} {da db : Md} {x y : MdX}
theorem Mdl.slotRow (h : Fam wa w (Mdl ma da x ++ l)) {j : Nat} (hj : j < da.slots.length) : ∃ sg scap va vc, x.sv = .slice (some ⟨sg, 0, none⟩) da.slots.length scap ∧ w.cell? ⟨sg, j, none⟩ = some (.slice va (da.sl j).length vc) ∧ Read w (.slice va (da.sl j).length vc) (da.sl j) := by
  obtain ⟨v, hv, hi⟩ := Mdl.slots h hj
  obtain ⟨va, vc, rfl⟩ := hi.len
  obtain ⟨sg, scap, h1, _, h2, _⟩ := Va.at (Mdl.vs h) hv
  exact ⟨sg, scap, va, vc, by rw [h1, (Mdl.lens h).1], h2, hi.read⟩
theorem same_any (w : World) (hfa : Fam wa w (Mdl ma da x ++ l)) (hfb : Fam wb w (Mdl mb db y ++ l2)) (hp : da.pm = db.pm) (h9 : da.slots.length ≤ 900) (h30 : da.keeps.length ≤ 30) (h48 : ∀ i, (da.sl i).length ≤ 48) :
    Calls Tryz.prog 34 #[.pointer (some ⟨ma, 0, none⟩), .pointer (some ⟨mb, 0, none⟩)] w (fun e w' => e = .returned (.bool true) ∧ Only [] w w') := by
  refine calls_abs fun R hR => ?_
  have es : da.slots = db.slots := congrArg Pm.slots hp
  have ek : da.keeps.map (fun p => p.2) = db.keeps.map (fun p => p.2) := congrArg Pm.ids hp
  have esl : ∀ i, db.sl i = da.sl i := fun i => by unfold Md.sl; rw [es]
  have ekl : db.keeps.length = da.keeps.length := by have := congrArg List.length ek; simpa using this.symm
  obtain ⟨sa, sc, hsv⟩ := orow_len (Mdl.vs hfa)
  obtain ⟨sa2, sc2, hsv2⟩ := orow_len (Mdl.vs hfb)
  obtain ⟨ka, kc, hkv⟩ := orow_len (Mdl.ke hfa)
  obtain ⟨ka2, kc2, hkv2⟩ := orow_len (Mdl.ke hfb)
  obtain ⟨c0, _, c2, _, _⟩ := Mdl.cells hfa
  obtain ⟨b0, _, b2, _, _⟩ := Mdl.cells hfb
  obtain ⟨n, hn⟩ : ∃ z, z = da.slots.length := ⟨_, rfl⟩
  obtain ⟨kn, hkn⟩ : ∃ z, z = da.keeps.length := ⟨_, rfl⟩
  rw [hsv, (Mdl.lens hfa).1, ← hn] at c0
  rw [hsv2, (Mdl.lens hfb).1, ← es, ← hn] at b0
  rw [hkv, ← hkn] at c2
  rw [hkv2, ekl, ← hkn] at b2
  have hn9 : n ≤ 900 := by omega
  have hk30 : kn ≤ 30 := by omega
  have HR1 : Hid (∀ i, i < n → ∃ sg va vc sg2 va2 vc2, sa = some ⟨sg, 0, none⟩ ∧ sa2 = some ⟨sg2, 0, none⟩ ∧ w.cell? ⟨sg, i, none⟩ = some (.slice va (da.sl i).length vc) ∧ w.cell? ⟨sg2, i, none⟩ = some (.slice va2 (da.sl i).length vc2) ∧ Read w (.slice va (da.sl i).length vc) (da.sl i) ∧ Read w (.slice va2 (da.sl i).length vc2) (da.sl i)) := fun i hi => by
    obtain ⟨sg, s1, va, vc, e1, e2, e3⟩ := Mdl.slotRow hfa (j := i) (by omega)
    obtain ⟨sg2, s2, va2, vc2, f1, f2, f3⟩ := Mdl.slotRow hfb (j := i) (by rw [← es]; omega)
    rw [hsv] at e1
    rw [hsv2] at f1
    rw [esl] at f2 f3
    simp only [Value.slice.injEq] at e1 f1
    exact ⟨sg, va, vc, sg2, va2, vc2, e1.1, f1.1, e2, f2, e3, f3⟩
  have HR2 : Hid (∀ i, i < kn → ∃ kg kg2, ka = some ⟨kg, 0, none⟩ ∧ ka2 = some ⟨kg2, 0, none⟩ ∧ ∃ z : Nat, w.cell? ⟨kg, i * 2 + 1, none⟩ = some (.int .i64 (z : Int)) ∧ w.cell? ⟨kg2, i * 2 + 1, none⟩ = some (.int .i64 (z : Int))) := fun i hi => by
    obtain ⟨p, hp1⟩ : ∃ p, da.keeps[i]? = some p := ⟨_, List.getElem?_eq_getElem (by omega)⟩
    obtain ⟨q, hq1⟩ : ∃ q, db.keeps[i]? = some q := ⟨_, List.getElem?_eq_getElem (by omega)⟩
    have epq : p.2 = q.2 := by
      have := congrArg (fun l : List Nat => l[i]?) ek
      simp only [List.getElem?_map, hp1, hq1, Option.map_some, Option.some.injEq] at this
      exact this
    obtain ⟨kg, k1, e1, _, e3⟩ := Mdl.keptAt hfa hp1
    obtain ⟨kg2, k2, f1, _, f3⟩ := Mdl.keptAt hfb hq1
    rw [hkv] at e1
    rw [hkv2] at f1
    simp only [Value.slice.injEq] at e1 f1
    exact ⟨kg, kg2, e1.1, f1.1, p.2, e3, by rw [epq]; exact f3⟩
  have H48 := Lib.hid h48
  have HC : Hid (∀ wx, Only [] w wx → wx.cell? ⟨ma, 0, none⟩ = some (.slice sa n sc) ∧ wx.cell? ⟨ma, 2, none⟩ = some (.slice ka kn kc) ∧ wx.cell? ⟨mb, 0, none⟩ = some (.slice sa2 n sc2) ∧ wx.cell? ⟨mb, 2, none⟩ = some (.slice ka2 kn kc2)) := fun wx ho => ⟨ho.cell0 c0, ho.cell0 c2, ho.cell0 b0, ho.cell0 b2⟩
  clear hfa hfb hp es ek esl ekl hsv hsv2 hkv hkv2 hn hkn h9 h30 h48
  go_enter Tryz.func34, Tryz.ntmps34
  go_upto_region 1 with fail
  go_quiet (fail)
  have HO1 : Hid (Only [] w (w.drewN nq)) := (Only.refl _ _).drewN nq
  clear c0 c2 b0 b2
  go_upto_region 3 with fail
  generalize w.drewN nq = w1 at *
  go_wp2_with fail
  go_loopw [5] (fun iv wx => ∃ i : Nat, iv = .int .i64 i ∧ i ≤ n ∧ Only [] w wx) (fun iv _ => n - (intOf iv).toNat)
  case atStart => exact ⟨0, rfl, Nat.zero_le _, HO1.out⟩
  case round =>
    clear HO1
    obtain ⟨i, rfl, hi, ho⟩ := hrel
    have HO := Lib.hid ho
    obtain ⟨c0, c2, b0, b2⟩ := HC.out _ ho
    clear ho
    by_cases hlt : i < n
    · have hlt1 : (i : Int) < (n : Int) := by omega
      have hi0 : (0 : Int) ≤ (i : Int) := by omega
      obtain ⟨sg, va, vc, sg2, va2, vc2, rfl, rfl, e1, e2, e3, e4⟩ := HR1.out i hlt
      have e1' := HO.out.cell0 e1
      have e2' := HO.out.cell0 e2
      have hl := H48.out i
      have ci := cints_same wr.drew (.slice va (da.sl i).length vc) (.slice va2 (da.sl i).length vc2) (da.sl i) (e3.onlyR HO.out.drew) (e4.onlyR HO.out.drew) (by omega)
      clear e1 e2 e3 e4
      generalize (da.sl i).length = m at *
      go_upto_region 6 with fail
      go_still_tail 14, (by kernel_rfl)
      change wpList _ _ _ _ _ wr.drew
      have HO2 : Hid (Only [] w wr.drew) := HO.out.drew
      generalize wr.drew = w2 at *
      go_wp2_with fail
      refine ci.mono ?_
      rintro e w3 ⟨rfl, ho3⟩
      have HO3 : Hid (Only [] w w3) := HO2.out.trans ho3 (by simp)
      clear ci ho3 HO2 c0 c2 b0 b2 e1' e2'
      go_wp2_with fail
      exact ⟨⟨i + 1, by go_num, by omega, HO3.out⟩, by simp [intOf]; omega⟩
    · obtain rfl : i = n := by omega
      have hlt1 : ¬ (i : Int) < (i : Int) := by omega
      go_wp2_with fail
      go_loopw [6] (fun iv wx => ∃ j : Nat, iv = .int .i64 j ∧ j ≤ kn ∧ Only [] w wx) (fun iv _ => kn - (intOf iv).toNat)
      case atStart => exact ⟨0, rfl, Nat.zero_le _, HO.out⟩
      case round =>
        clear HO c0 c2 b0 b2
        obtain ⟨j, rfl, hj, ho⟩ := hrel
        have HO2 := Lib.hid ho
        obtain ⟨c0, c2, b0, b2⟩ := HC.out _ ho
        clear ho
        by_cases hlt3 : j < kn
        · have hlt4 : (j : Int) < (kn : Int) := by omega
          have hj0 : (0 : Int) ≤ (j : Int) := by omega
          obtain ⟨kg, kg2, rfl, rfl, z, e1, e2⟩ := HR2.out j hlt3
          have e1' := HO2.out.cell0 e1
          have e2' := HO2.out.cell0 e2
          clear e1 e2
          go_upto_region 11 with fail
          go_quiet (fail)
          have HO3 := Lib.hid (HO2.out.drewN nq)
          go_wp2_with fail
          exact ⟨⟨j + 1, by go_num, by omega, HO3.out⟩, by simp [intOf]; omega⟩
        · have hlt4 : ¬ (j : Int) < (kn : Int) := by omega
          go_wp2_with fail
          exact hR.out _ _ ⟨rfl, HO2.out⟩
end
end Go.Proofs.YthflghdaejbdkaaGreat
namespace Go.Proofs.YthflghdaejbdkaaGreat
open Go.RowKit Go.Maps
set_option maxHeartbeats 12800000
set_option maxRecDepth 100000
set_option linter.unusedVariables false
theorem Recs.onlyH {k : Nat} {w w' : World} {a : Option Addr} {n : Nat} {f : Nat → Nat → Int} (h : Recs k w a n f) (ho : Only [] w w') : Recs k w' a n f := by
  refine ⟨h.1, ?_⟩
  rcases h.2 with h2 | ⟨b, o, e, hc⟩
  · exact .inl h2
  · exact .inr ⟨b, o, e, fun i hi j hj => ⟨ho.cell0 (hc i hi j hj).1, (hc i hi j hj).2⟩⟩
theorem Nums.onlyH {w w' : World} {a : Option Addr} {n : Nat} {f : Nat → Int} (h : Nums w a n f) (ho : Only [] w w') : Nums w' a n f := by
  refine ⟨h.1, ?_⟩
  rcases h.2 with h2 | ⟨b, o, e, hc⟩
  · exact .inl h2
  · exact .inr ⟨b, o, e, fun i hi => ⟨ho.cell0 (hc i hi).1, (hc i hi).2⟩⟩
theorem pm_both {da db : Md} {pa pb : Prop} {p : Pm} (ha : pa → da = Md.none) (ha2 : ¬ pa → da.lost = false → da.pm = p) (hb : pb → db = Md.none) (hb2 : ¬ pb → db.lost = false → db.pm = p) (hab : pa ↔ pb) (la : da.lost = false) (lb : db.lost = false) : da.pm = db.pm := by
  by_cases h : pa
  · rw [ha h, hb (hab.1 h)]
  · rw [ha2 h la, hb2 (fun e => h (hab.2 e)) lb]
theorem MdA.lost {w0 w : World} {mb : Nat} {d : Md} (h : Fam w0 w [MdA mb d]) : w.cell? ⟨mb, 3, none⟩ = some (.bool d.lost) := by
  obtain ⟨x, hx⟩ := MdA.open h (i := 0) rfl
  exact (Mdl.cells hx).2.2.2.1
theorem walk_CycleHidden (pages r0 r1 : Int) (la : Option Addr) (ln lc : Nat) (f : Nat → Nat → Int) (ra : Option Addr) (rn rc : Nat) (g : Nat → Int) (oa : Option Addr) (on oc : Nat) (h : Nat → Int) (w : World) (wp : wfI pages) (wr0 : (Lit.int .i64 r0).wf = true) (wr1 : (Lit.int .i64 r1).wf = true) (hd : Recs 4 w la ln f) (hw : Nums w ra rn g) (ho : Nums w oa on h) :
    Calls Tryz.prog 6 #[.int .i64 pages, .agg #[.int .i64 r0, .int .i64 r1], .slice la ln lc, .slice ra rn rc, .slice oa on oc] w fun e w' => e = .returned (.bool true) ∧ Below w.heap.size w w' := by
  refine calls_abs fun R hR => ?_
  have HRA : Hid (∀ wx, Only [] w wx → Calls Tryz.prog 33 #[.int .i64 pages, .int .i64 r0, .slice la ln lc, .slice ra rn rc] wx (Ran wx (Rated pages r0) (Pm.after f (min ln 60)))) := fun wx hx => run_any wx pages r0 la ln lc f ra rn rc g (Recs.onlyH hd hx) (Nums.onlyH hw hx)
  have HRB : Hid (∀ wx, Only [] w wx → Calls Tryz.prog 33 #[.int .i64 pages, .int .i64 r1, .slice la ln lc, .slice oa on oc] wx (Ran wx (Rated pages r1) (Pm.after f (min ln 60)))) := fun wx hx => run_any wx pages r1 la ln lc f oa on oc h (Recs.onlyH hd hx) (Nums.onlyH ho hx)
  have HRC : Hid (∀ wx, Only [] w wx → Calls Tryz.prog 33 #[.int .i64 pages, .int .i64 0, .slice la ln lc, .slice none 0 0] wx (Ran wx (Rated pages 0) (Pm.after f (min ln 60)))) := fun wx hx => run_any wx pages 0 la ln lc f none 0 0 (fun _ => 0) (Recs.onlyH hd hx) ⟨by omega, .inl rfl⟩
  have HO0 : Hid (Only [] w (w.alloc (.cells #[.int .i64 r0, .int .i64 r1] 64))) := (Only.refl _ _).alloc _
  have q0 := (Row.new w 64 [.int .i64 r0, .int .i64 r1]).cell 0 rfl
  have q1 := (Row.new w 64 [.int .i64 r0, .int .i64 r1]).cell 1 rfl
  have HFIN : Hid (∀ wx, Only [] w wx → Below w.heap.size w wx) := fun wx h => h.bel
  clear hd hw ho wp wr0 wr1
  go_enter Tryz.func6, Tryz.ntmps6
  go_upto_region 1 with fail
  generalize (w.alloc (.cells #[.int .i64 r0, .int .i64 r1] 64)) = w1 at *
  generalize w.heap.size = wo at *
  have ca := HRA.out _ HO0.out
  go_wp2_with fail
  refine ca.mono ?_
  rintro e w2 ⟨ma, da, rfl, hfa, a1, a2, a3⟩
  have FA := Lib.hid hfa
  have A1 := Lib.hid a1
  have A2 := Lib.hid a2
  have A3 := Lib.hid a3
  have HO2 : Hid (Only [] w w2) := HO0.out.trans hfa.only (by simp)
  have q0' := hfa.only.cell0 q0
  have q1' := hfa.only.cell0 q1
  have cb := HRB.out _ HO2.out
  clear ca hfa a1 a2 a3 HRA q0 q1
  go_wp2_with fail
  refine cb.mono ?_
  rintro e w3 ⟨mb, db, rfl, hfb, a1, a2, a3⟩
  have FB := Lib.hid hfb
  have B1 := Lib.hid a1
  have B2 := Lib.hid a2
  have HO3 : Hid (Only [] w w3) := HO2.out.trans hfb.only (by simp)
  have q0 := hfb.only.cell0 q0'
  have q1 := hfb.only.cell0 q1'
  have cc := HRC.out _ HO3.out
  have HOb := Lib.hid hfb.only
  clear cb hfb a1 a2 a3 HRB q0' q1'
  go_wp2_with fail
  refine cc.mono ?_
  rintro e w4 ⟨mc, dc, rfl, hfc, a1, a2, a3⟩
  have FC := Lib.hid hfc
  have C1 := Lib.hid a1
  have C2 := Lib.hid a2
  have HO4 : Hid (Only [] w w4) := HO3.out.trans hfc.only (by simp)
  have FA4 : Hid (Fam w1 w4 [MdA ma da]) := FA.out.only0 (HOb.out.trans hfc.only (by simp))
  have FB4 : Hid (Fam w2 w4 [MdA mb db]) := FB.out.only0 hfc.only
  have z0 := hfc.only.cell0 q0
  have z1 := hfc.only.cell0 q1
  have la4 := MdA.lost FA4.out
  have lb4 := MdA.lost FB4.out
  have lc4 := MdA.lost hfc
  have cs := csane_any w4
  clear cc hfc a1 a2 a3 HRC q0 q1 FA FB HOb
  generalize hla : da.lost = lA at *
  generalize hlb : db.lost = lB at *
  generalize hlc : dc.lost = lC at *
  have HLA := Lib.hid hla
  have HLB := Lib.hid hlb
  have HLC := Lib.hid hlc
  clear hla hlb hlc
  by_cases hbad : lA = true ∨ lB = true ∨ lC = true ∨ r0 < 0 ∨ 100 < r0 ∨ r1 < 0 ∨ 100 < r1
  · have HT : Hid (∀ w5, Only [] w4 w5 → Below wo w w5) := fun w5 h => HFIN.out _ (HO4.out.trans h (by simp))
    clear HFIN A1 A2 A3 B1 B2 C1 C2 FA4 FB4 FC HO2 HO3 HO4 HO0 HLA HLB HLC
    go_upto_region 6 with fail
    go_cut [98] (fun s wx => s = .bool true ∧ wx = w4)
    case first =>
      cases lA with
      | true =>
        clear hbad
        go_wp2_with fail
        go_meet
        exact ⟨rfl, rfl⟩
      | false =>
      cases lB with
      | true =>
        clear hbad
        go_wp2_with fail
        go_meet
        exact ⟨rfl, rfl⟩
      | false =>
      cases lC with
      | true =>
        clear hbad
        go_wp2_with fail
        go_meet
        exact ⟨rfl, rfl⟩
      | false =>
      by_cases h1 : r0 < 0
      · clear hbad
        go_wp2_with fail
        go_meet
        exact ⟨rfl, rfl⟩
      by_cases h2 : 100 < r0
      · clear hbad
        go_wp2_with fail
        go_meet
        exact ⟨rfl, rfl⟩
      by_cases h3 : r1 < 0
      · clear hbad
        go_wp2_with fail
        go_meet
        exact ⟨rfl, rfl⟩
      have h4 : 100 < r1 := by
        rcases hbad with e | e | e | e | e | e | e
        · cases e
        · cases e
        · cases e
        all_goals omega
      clear hbad
      go_wp2_with fail
      go_meet
      exact ⟨rfl, rfl⟩
    case rest =>
      obtain ⟨rfl, hwc⟩ := hcut
      have hwc2 := hwc.symm
      subst hwc2
      clear hwc
      go_wp2_with fail
      refine cs.mono ?_
      rintro e w5 ⟨rfl, ho5⟩
      have HE := Lib.hid (HT.out _ ho5)
      clear cs ho5
      go_wp2_with fail
      exact hR.out _ _ ⟨rfl, HE.out⟩
  · obtain ⟨rfl, rfl, rfl⟩ : lA = false ∧ lB = false ∧ lC = false := by
      refine ⟨?_, ?_, ?_⟩
      · cases lA with
        | true => exact absurd (.inl rfl) hbad
        | false => rfl
      · cases lB with
        | true => exact absurd (.inr (.inl rfl)) hbad
        | false => rfl
      · cases lC with
        | true => exact absurd (.inr (.inr (.inl rfl))) hbad
        | false => rfl
    have h1 : ¬ r0 < 0 := fun e => hbad (.inr (.inr (.inr (.inl e))))
    have h2 : ¬ 100 < r0 := fun e => hbad (.inr (.inr (.inr (.inr (.inl e)))))
    have h3 : ¬ r1 < 0 := fun e => hbad (.inr (.inr (.inr (.inr (.inr (.inl e))))))
    have h4 : ¬ 100 < r1 := fun e => hbad (.inr (.inr (.inr (.inr (.inr (.inr e))))))
    have HAB : Hid (da.pm = db.pm) := pm_both A1.out (fun e _ => A2.out e rfl) B1.out (fun e _ => B2.out e rfl) (by unfold Rated; omega) HLA.out HLB.out
    have HAC : Hid (da.pm = dc.pm) := pm_both A1.out (fun e _ => A2.out e rfl) C1.out (fun e _ => C2.out e rfl) (by unfold Rated; omega) HLA.out HLC.out
    obtain ⟨x, hx⟩ := MdA.open FA4.out (i := 0) rfl
    obtain ⟨y, hy⟩ := MdA.open FB4.out (i := 0) rfl
    obtain ⟨z, hz⟩ := MdA.open FC.out (i := 0) rfl
    have HX := Lib.hid hx
    have HZ := Lib.hid hz
    have c1 := same_any w4 hx hy HAB.out A3.out.1 A3.out.2.1 A3.out.2.2
    clear hbad hx hy hz cs
    go_wp2_with fail
    refine c1.mono ?_
    rintro e w5 ⟨rfl, ho5⟩
    have c2 := same_any w5 (HX.out.only0 ho5) (HZ.out.only0 ho5) HAC.out A3.out.1 A3.out.2.1 A3.out.2.2
    have HO5 : Hid (Only [] w w5) := HO4.out.trans ho5 (by simp)
    clear c1 ho5 z0 z1 la4 lb4 lc4
    go_wp2_with fail
    refine c2.mono ?_
    rintro e w6 ⟨rfl, ho6⟩
    have HO6 : Hid (Only [] w w6) := HO5.out.trans ho6 (by simp)
    have cs := csane_any w6
    clear c2 ho6
    go_wp2_with fail
    refine cs.mono ?_
    rintro e w7 ⟨rfl, ho7⟩
    have HE : Hid (Below wo w w7) := HFIN.out _ (HO6.out.trans ho7 (by simp))
    clear cs ho7
    go_wp2_with fail
    exact hR.out _ _ ⟨rfl, HE.out⟩
end Go.Proofs.YthflghdaejbdkaaGreat
