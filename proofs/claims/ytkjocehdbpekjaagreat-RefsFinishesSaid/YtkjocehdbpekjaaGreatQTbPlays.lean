/- Lemmas of this claim. -/
import Derived.Test.YtkjocehdbpekjaaGreatQTbPl
namespace Go.Proofs.YtkjocehdbpekjaaGreat
open Go.RowKit Go.Maps
set_option maxHeartbeats 12800000
set_option maxRecDepth 100000
set_option linter.unusedVariables false
theorem G7.tbat {bo hb q p r tb ub : Nat} {m1 m2 : Mk} {t1 t2 : Tb} {tl : List Asn} {w0 w : World} (h : Fam w0 w (G7 bo hb q p r tb ub m1 m2 t1 t2 tl)) : ∃ ev qv mo, TbAt w tb ev qv mo t1 t1.ents.length := PL.tb (G7.TP bo hb q p r tb ub m1 m2 t1 t2 tl) (m := m1) (hb := hb) (p := p) h
theorem G7.trat {bo hb q p r tb ub : Nat} {m1 m2 : Mk} {t1 t2 : Tb} {tl : List Asn} {w0 w : World} (h : Fam w0 w (G7 bo hb q p r tb ub m1 m2 t1 t2 tl)) : ∃ ev qv wv nx wl, TrAt w ub ev qv wv nx wl t2 := QL.tr (G7.TR bo hb q p r tb ub m1 m2 t1 t2 tl) (m := m2) (q := q) (r := r) h
theorem Mk.white_len (m : Mk) : m.white.length ≤ 192 := by
  have h1 := List.length_filter_le (fun x => decide (m.col x = 0)) m.M.handles
  have h2 : m.M.handles.length ≤ 192 := Hp.handlesN_len m.M 192
  unfold Mk.white; omega
theorem lshown_any (w : World) {w0 : World} {bo hb q p r tb ub : Nat} {m : Mk} {t : Tb} {tl : List Asn} (hf : Fam w0 w (G7 bo hb q p r tb ub m m t t tl)) (hm : m.Ok) (hg : t.Good m) : Calls Tryz.prog 56 #[.pointer (some ⟨bo, 0, none⟩)] w (fun e w' => e = .returned (.bool true) ∧ Only [] w w') := by
  refine calls_abs fun R hR => ?_
  have HB : Hid (∀ wx, Only [] w wx → wx.cell? ⟨bo, 2, none⟩ = some (.pointer (some ⟨p, 0, none⟩)) ∧ wx.cell? ⟨bo, 3, none⟩ = some (.pointer (some ⟨r, 0, none⟩)) ∧ wx.cell? ⟨bo, 4, none⟩ = some (.pointer (some ⟨tb, 0, none⟩)) ∧ wx.cell? ⟨bo, 5, none⟩ = some (.pointer (some ⟨ub, 0, none⟩))) := fun wx ho => by
    have h := G7.row (hf.only0 ho)
    exact ⟨h.cell 2 rfl, h.cell 3 rfl, h.cell 4 rfl, h.cell 5 rfl⟩
  obtain ⟨ev, qv, mo, ht⟩ := G7.tbat hf
  obtain ⟨ev2, qv2, wv, nx, wl, hq⟩ := G7.trat hf
  have hq20 := hg.b.q20
  have hl20 := hg.b.le
  have hlen := hm.len
  have hwl := Mk.white_len m
  have HCL1 : Hid (∀ wx, Only [] w wx → Calls Tryz.prog 21 #[.pointer (some ⟨tb, 0, none⟩)] wx (Exact wx (.int .i64 (t.ents.length : Int)))) := fun wx ho => tlen_rep wx (ht.only0 ho)
  have HCL2 : Hid (∀ wx, Only [] w wx → Calls Tryz.prog 32 #[.pointer (some ⟨ub, 0, none⟩)] wx (Exact wx (.int .i64 (t.ents.length : Int)))) := fun wx ho => rtlen_rep wx (hq.only0 ho)
  have HCP1 : Hid (∀ wx, Only [] w wx → Calls Tryz.prog 20 #[.pointer (some ⟨tb, 0, none⟩)] wx (Exact wx (.int .i64 (t.ph : Int)))) := fun wx ho => tphase_rep wx (ht.only0 ho)
  have HCP2 : Hid (∀ wx, Only [] w wx → Calls Tryz.prog 26 #[.pointer (some ⟨ub, 0, none⟩)] wx (Exact wx (.int .i64 (t.ph : Int)))) := fun wx ho => rtphase_rep wx (hq.only0 ho)
  have HCQ1 : Hid (∀ wx, Only [] w wx → Calls Tryz.prog 22 #[.pointer (some ⟨tb, 0, none⟩)] wx (RetL wx t.q)) := fun wx ho => tqueue_rep wx (ht.only0 ho) (by omega)
  have HCQ2 : Hid (∀ wx, Only [] w wx → Calls Tryz.prog 36 #[.pointer (some ⟨ub, 0, none⟩)] wx (RetL wx t.q)) := fun wx ho => rtqueue_rep wx (hq.only0 ho) (by omega)
  have HCW1 : Hid (∀ wx, Only [] w wx → Calls Tryz.prog 57 #[.pointer (some ⟨p, 0, none⟩)] wx (RetL wx m.white)) := fun wx ho => mwhite_rep wx (G7.TP bo hb q p r tb ub m m t t tl).two (hf.only0 ho)
  have HCW2 : Hid (∀ wx, Only [] w wx → Calls Tryz.prog 113 #[.pointer (some ⟨r, 0, none⟩)] wx (RetL wx m.white)) := fun wx ho => gwhite_rep wx (G7.TR bo hb q p r tb ub m m t t tl).two (hf.only0 ho)
  have HCG1 : Hid (∀ wx, Only [] w wx → Calls Tryz.prog 41 #[.pointer (some ⟨p, 0, none⟩)] wx (RetL wx m.list)) := fun wx ho => mgray_rep wx (G7.TP bo hb q p r tb ub m m t t tl).two (hf.only0 ho) (by omega)
  have HCG2 : Hid (∀ wx, Only [] w wx → Calls Tryz.prog 112 #[.pointer (some ⟨r, 0, none⟩)] wx (RetL wx m.list)) := fun wx ho => ggray_rep wx (G7.TR bo hb q p r tb ub m m t t tl).two (hf.only0 ho) (by omega)
  have HCT1 : Hid (∀ wx n, Only [] w wx → Calls Tryz.prog 15 #[.pointer (some ⟨tb, 0, none⟩), .int .i64 n] wx (fun e w' => e = .returned (.tuple #[.int .i64 (t.target n).1, .int .i64 (t.target n).2]) ∧ Only [] wx w')) := fun wx n ho => ttarget_rep wx (ht.only0 ho) n
  have HCT2 : Hid (∀ wx n, Only [] w wx → Calls Tryz.prog 123 #[.pointer (some ⟨ub, 0, none⟩), .int .i64 n] wx (Exact wx (.tuple #[.int .i64 (t.target n).1, .int .i64 (t.target n).2]))) := fun wx n ho => rttarget_rep wx (hq.only0 ho) n
  have HCK1 : Hid (∀ wx n, Only [] w wx → Calls Tryz.prog 124 #[.pointer (some ⟨tb, 0, none⟩), .int .i64 n] wx (fun e w' => e = .returned (.tuple #[.int .i64 (t.kind n).1, .int .i64 (t.kind n).2]) ∧ Only [] wx w')) := fun wx n ho => tkind_rep wx (ht.only0 ho) n
  have HCK2 : Hid (∀ wx n, Only [] w wx → Calls Tryz.prog 125 #[.pointer (some ⟨ub, 0, none⟩), .int .i64 n] wx (Exact wx (.tuple #[.int .i64 (t.kind n).1, .int .i64 (t.kind n).2]))) := fun wx n ho => rtkind_rep wx (hq.only0 ho) n
  have HQ20 := Lib.hid hq20
  have HLL := Lib.hid hlen
  have HWL := Lib.hid hwl
  obtain ⟨b2, b3, b4, b5⟩ := HB.out w (Only.refl _ _)
  clear hf hm hg ht hq hq20 hlen hwl
  generalize t.target = ftg at *
  generalize t.kind = fkd at *
  generalize t.ents.length = len at *
  generalize t.ph = ph at *
  generalize t.q = tq at *
  generalize m.white = mwh at *
  generalize m.list = mli at *
  go_enter Tryz.func56, Tryz.ntmps56
  go_upto_region 1 with fail
  simp only [List.append_eq, List.cons_append, List.nil_append]
  have HO0 : Hid (Only [] w w.drew) := (Only.refl [] w).drew
  go_region_held3 (fun w' => w'.cell? ⟨bo, 2, none⟩ = some (.pointer (some ⟨p, 0, none⟩)) ∧ w'.cell? ⟨bo, 3, none⟩ = some (.pointer (some ⟨r, 0, none⟩)) ∧ w'.cell? ⟨bo, 4, none⟩ = some (.pointer (some ⟨tb, 0, none⟩)) ∧ w'.cell? ⟨bo, 5, none⟩ = some (.pointer (some ⟨ub, 0, none⟩)))
    (first | (exact ⟨b2, b3, b4, b5⟩) | (exact HB.out _ HO9.out) | (exact HB.out _ HO8.out) | (exact HB.out _ HO7.out) | (exact HB.out _ HO6.out) | (exact HB.out _ HO5.out) | (exact HB.out _ HO4.out) | (exact HB.out _ HO3.out) | (exact HB.out _ HO2.out) | (exact HB.out _ HO1.out))
    (first
      | (go_at_call 21; refine (HCL1.out _ HO0.out).mono ?_; rintro e _ ⟨rfl, rfl⟩)
      | (go_at_call 32; refine (HCL2.out _ HO0.out).mono ?_; rintro e _ ⟨rfl, rfl⟩)
      | (go_at_call 20; refine (HCP1.out _ HO0.out).mono ?_; rintro e _ ⟨rfl, rfl⟩)
      | (go_at_call 26; refine (HCP2.out _ HO0.out).mono ?_; rintro e _ ⟨rfl, rfl⟩)
      | (go_at_call 22; refine (HCQ1.out _ HO0.out).mono ?_; rintro e w1 ⟨v1, rfl, hi1, ho1⟩; have HI1 := Lib.hid hi1; have HO1 := Lib.hid (HO0.out.trans ho1 (by simp)); clear hi1; have hp1 := Lib.hid ho1; clear ho1)
      | (go_at_call 36; refine (HCQ2.out _ HO1.out).mono ?_; rintro e w2 ⟨v2, rfl, hi2, ho2⟩; have HI2 := Lib.hid hi2; have HO2 := Lib.hid (HO1.out.trans ho2 (by simp)); clear hi2; have hp2 := Lib.hid ho2; clear ho2)
      | (go_at_call_of 34 v1; refine (rints_same w2 v1 v2 tq (HI1.out.only hp2.out (by simp)).read HI2.out.read (by have := HQ20.out; omega)).mono ?_; rintro e w3 ⟨rfl, hd3⟩; have HO3 := Lib.hid (HO2.out.trans (hd3.only []) (by simp)); clear hd3)
      | (go_at_call 57; refine (HCW1.out _ HO3.out).mono ?_; rintro e w4 ⟨v4, rfl, hi4, ho4⟩; have HI4 := Lib.hid hi4; have HO4 := Lib.hid (HO3.out.trans ho4 (by simp)); clear hi4; have hp4 := Lib.hid ho4; clear ho4)
      | (go_at_call 113; refine (HCW2.out _ HO4.out).mono ?_; rintro e w5 ⟨v5, rfl, hi5, ho5⟩; have HI5 := Lib.hid hi5; have HO5 := Lib.hid (HO4.out.trans ho5 (by simp)); clear hi5; have hp5 := Lib.hid ho5; clear ho5)
      | (go_at_call_of 34 v4; refine (rints_same w5 v4 v5 mwh (HI4.out.only hp5.out (by simp)).read HI5.out.read (by have := HWL.out; omega)).mono ?_; rintro e w6 ⟨rfl, hd6⟩; have HO6 := Lib.hid (HO5.out.trans (hd6.only []) (by simp)); clear hd6)
      | (go_at_call 41; refine (HCG1.out _ HO6.out).mono ?_; rintro e w7 ⟨v7, rfl, hi7, ho7⟩; have HI7 := Lib.hid hi7; have HO7 := Lib.hid (HO6.out.trans ho7 (by simp)); clear hi7; have hp7 := Lib.hid ho7; clear ho7)
      | (go_at_call 112; refine (HCG2.out _ HO7.out).mono ?_; rintro e w8 ⟨v8, rfl, hi8, ho8⟩; have HI8 := Lib.hid hi8; have HO8 := Lib.hid (HO7.out.trans ho8 (by simp)); clear hi8; have hp8 := Lib.hid ho8; clear ho8)
      | (go_at_call_of 34 v7; refine (rints_same w8 v7 v8 mli (HI7.out.only hp8.out (by simp)).read HI8.out.read (by have := HLL.out; omega)).mono ?_; rintro e w9 ⟨rfl, hd9⟩; have HO9 := Lib.hid (HO8.out.trans (hd9.only []) (by simp)); clear hd9))
  go_wp2_with fail
  go_loopw [3] (fun iv wr => ∃ k : Nat, k ≤ len + 2 ∧ iv = .int .i64 ((k : Int) - 1) ∧ Only [] w wr) (fun iv _ => len + 2 - (intOf iv + 1).toNat)
  case atStart => exact ⟨0, by omega, rfl, HO9.out⟩
  case round => as_aux_lemma =>
    clear b2 b3 b4 b5
    obtain ⟨k, hk, rfl, ho⟩ := hrel
    have HO := Lib.hid ho
    obtain ⟨_, _, b4, b5⟩ := HB.out _ ho
    have cl := HCL2.out _ ho
    clear ho
    by_cases hlt : k < len + 2
    · have hlt1 : (k : Int) - 1 ≤ (len : Int) := by omega
      have c1 := HCT1.out wr ((k : Int) - 1) HO.out
      generalize hv : ftg ((k : Int) - 1) = tg at *
      generalize hv2 : fkd ((k : Int) - 1) = kd at *
      have HV := Lib.hid hv
      have HV2 := Lib.hid hv2
      clear hv hv2
      obtain ⟨g1, g2⟩ := tg
      obtain ⟨k1, k2⟩ := kd
      go_wp2_with fail
      refine cl.mono ?_
      rintro e _ ⟨rfl, rfl⟩
      clear cl
      go_wp2_with fail
      refine c1.mono ?_
      rintro e w2 ⟨rfl, ho2⟩
      have HO2 : Hid (Only [] w w2) := HO.out.trans ho2 (by simp)
      obtain ⟨_, _, b4, b5⟩ := HB.out _ HO2.out
      have c2 := HCT2.out w2 ((k : Int) - 1) HO2.out
      rw [HV.out] at c2
      clear c1 ho2
      go_wp2_with fail
      refine c2.mono ?_
      rintro e _ ⟨rfl, rfl⟩
      have c3 := HCK1.out w2 ((k : Int) - 1) HO2.out
      rw [HV2.out] at c3
      clear c2
      go_wp2_with fail
      refine c3.mono ?_
      rintro e w3 ⟨rfl, ho3⟩
      have HO3 : Hid (Only [] w w3) := HO2.out.trans ho3 (by simp)
      obtain ⟨_, _, b4, b5⟩ := HB.out _ HO3.out
      have c4 := HCK2.out w3 ((k : Int) - 1) HO3.out
      rw [HV2.out] at c4
      clear c3 ho3
      go_wp2_with fail
      refine c4.mono ?_
      rintro e _ ⟨rfl, rfl⟩
      clear c4
      go_wp2_with fail
      exact ⟨⟨k + 1, by omega, by go_num, HO3.out⟩, by simp [intOf]; omega⟩
    · obtain rfl : k = len + 2 := by omega
      have hlt1 : ¬ (((len + 2 : Nat) : Int) - 1 ≤ (len : Int)) := by omega
      go_wp2_with fail
      refine cl.mono ?_
      rintro e _ ⟨rfl, rfl⟩
      clear cl
      go_wp2_with fail
      exact hR.out _ _ ⟨rfl, HO.out⟩
end Go.Proofs.YtkjocehdbpekjaaGreat
namespace Go.Proofs.YtkjocehdbpekjaaGreat
open Go.RowKit Go.Maps
set_option maxHeartbeats 12800000
set_option maxRecDepth 100000
set_option linter.unusedVariables false
theorem scr_of {w : World} {la : Option Addr} {ln : Nat} {f : Nat → Nat → Int} {ra : Option Addr} {rn rc : Nat} {g : Nat → Int} (h1 : Recs 2 w la ln f) (h2 : Numk w ra rn rc g) : Scr w la ln f ra rn rc (listF rn g) :=
  ⟨h1, by simp [listF], h2.2, numsWf h2.1, numsRead h2.1⟩
theorem walk_RefsPlays (la : Option Addr) (ln lc : Nat) (f : Nat → Nat → Int) (ra : Option Addr) (rn rc : Nat) (g : Nat → Int) (oa : Option Addr) (on oc : Nat) (fo : Nat → Nat → Int) (w : World) (hl : Recs 2 w la ln f) (hr : Numk w ra rn rc g) (ho : Recs 4 w oa on fo) :
    Calls Tryz.prog 11 #[.agg #[.slice la ln lc, .slice ra rn rc], .slice oa on oc] w fun e w' => e = .returned (.bool true) ∧ Below w.heap.size w w' := by
  refine calls_abs fun R hR => ?_
  have ho1 : Only [] w (w.alloc (.cells #[.slice la ln lc, .slice ra rn rc] 25)) := (Only.refl [] w).alloc _
  have HRW : Hid (Row (w.alloc (.cells #[.slice la ln lc, .slice ra rn rc] 25)) w.heap.size 25 [.slice la ln lc, .slice ra rn rc]) := Row.new w _ _
  have HO1 := Lib.hid ho1
  have HS := Lib.hid ((scr_of hl hr).only ho1)
  have HD := Lib.hid (Recs.only ho ho1)
  have HFIN : Hid (∀ w', Only [] w w' → Below w.heap.size w w') := fun w' h => h.bel
  clear hl hr ho ho1
  go_enter Tryz.func11, Tryz.ntmps11
  go_upto_region 1 with fail
  generalize w.alloc (.cells #[.slice la ln lc, .slice ra rn rc] 25) = w1 at *
  generalize w.heap.size = ws at *
  have c1 := lplay_any w1 la ln lc f ra rn rc (listF rn g) HS.out oa on oc fo HD.out
  go_wp2_with (refine wpList_load_agg rfl 25 _ rfl ws 0 rfl [.slice la ln lc, .slice ra rn rc] _ Tryz.underlying25 rfl sizeSt (row2_cells HRW.out) ?_)
  refine c1.mono ?_
  rintro e w2 ⟨bo, hb, q, p, r, tb, ub, m, t, rfl, hm, hg, hf⟩
  have HO2 : Hid (Only [] w w2) := HO1.out.trans hf.only (by simp)
  have c2 := lshown_any w2 hf hm hg
  clear c1 hf hm hg
  go_wp2_with fail
  refine c2.mono ?_
  rintro e w3 ⟨rfl, ho3⟩
  have HO3 : Hid (Only [] w w3) := HO2.out.trans ho3 (by simp)
  have c3 := ssane_any w3
  clear c2 ho3 HO2
  go_wp2_with fail
  refine c3.mono ?_
  rintro e w4 ⟨rfl, ho4⟩
  have HE : Hid (Below ws w w4) := HFIN.out _ (HO3.out.trans ho4 (by simp))
  clear c3 ho4 HO3
  go_wp2_with fail
  exact hR.out _ _ ⟨rfl, HE.out⟩
theorem Tb.take_at {t : Tb} {i : Nat} (hi : i < t.q.length) : (⟨t.ents, t.q.drop i, t.ph, t.nx, t.fd⟩ : Tb).take = (gI t.q i, 0, ⟨t.ents, t.q.drop (i + 1), t.ph, t.nx, t.fd⟩) := by
  unfold Tb.take
  show (match t.q.drop i with | [] => _ | x :: r => _) = _
  rw [List.drop_eq_getElem_cons hi]
  simp [gI, List.getElem?_eq_getElem hi]
theorem walk_RefsTakes (la : Option Addr) (ln lc : Nat) (f : Nat → Nat → Int) (ra : Option Addr) (rn rc : Nat) (g : Nat → Int) (oa : Option Addr) (on oc : Nat) (fo : Nat → Nat → Int) (w : World) (hl : Recs 2 w la ln f) (hr : Numk w ra rn rc g) (ho : Recs 4 w oa on fo) :
    Calls Tryz.prog 5 #[.agg #[.slice la ln lc, .slice ra rn rc], .slice oa on oc] w fun e w' => e = .returned (.bool true) ∧ Below w.heap.size w w' := by
  refine calls_abs fun R hR => ?_
  have ho1 : Only [] w (w.alloc (.cells #[.slice la ln lc, .slice ra rn rc] 25)) := (Only.refl [] w).alloc _
  have HRW : Hid (Row (w.alloc (.cells #[.slice la ln lc, .slice ra rn rc] 25)) w.heap.size 25 [.slice la ln lc, .slice ra rn rc]) := Row.new w _ _
  have HO1 := Lib.hid ho1
  have HS := Lib.hid ((scr_of hl hr).only ho1)
  have HD := Lib.hid (Recs.only ho ho1)
  have HFIN : Hid (∀ w', Only [] w w' → Below w.heap.size w w') := fun w' h => h.bel
  clear hl hr ho ho1
  go_enter Tryz.func5, Tryz.ntmps5
  go_upto_region 1 with fail
  generalize w.alloc (.cells #[.slice la ln lc, .slice ra rn rc] 25) = w1 at *
  generalize w.heap.size = ws at *
  have c1 := lplay_any w1 la ln lc f ra rn rc (listF rn g) HS.out oa on oc fo HD.out
  go_wp2_with (refine wpList_load_agg rfl 25 _ rfl ws 0 rfl [.slice la ln lc, .slice ra rn rc] _ Tryz.underlying25 rfl sizeSt (row2_cells HRW.out) ?_)
  refine c1.mono ?_
  rintro e w2 ⟨bo, hb, q, p, r, tb, ub, m, t, rfl, hm, hg, hf⟩
  have HF := Lib.hid hf
  have HQ20 := Lib.hid hg.b.q20
  obtain ⟨_, _, _, ht⟩ := G7.tbat hf
  have c2 := tqueue_rep w2 ht (by have := HQ20.out; omega)
  have b4 := (G7.row hf).cell 4 rfl
  clear c1 hf hm hg ht
  go_wp2_with fail
  refine c2.mono ?_
  rintro e w3 ⟨v, rfl, hi, ho⟩
  have HF3 : Hid (Fam w1 w3 (G7 bo hb q p r tb ub m m t t [IntsA v t.q])) := HF.out.addInts ho hi
  obtain ⟨va, vc, rfl⟩ := hi.len
  obtain ⟨n, hn⟩ : ∃ z, z = t.q.length := ⟨_, rfl⟩
  have HN := Lib.hid hn
  rw [← hn] at HF3 HQ20 ⊢
  clear c2 hi ho HF hn b4
  have HF3' : Hid (Fam w1 w3 (G7 bo hb q p r tb ub m m ⟨t.ents, t.q.drop 0, t.ph, t.nx, t.fd⟩ t [IntsA (.slice va n vc) t.q])) := HF3.out
  go_wp2_with fail
  go_loopw [8] (fun iv wr => ∃ i : Nat, i ≤ n ∧ iv = .int .i64 i ∧ Fam w1 wr (G7 bo hb q p r tb ub m m ⟨t.ents, t.q.drop i, t.ph, t.nx, t.fd⟩ t [IntsA (.slice va n vc) t.q])) (fun iv _ => n - (intOf iv).toNat)
  case atStart => exact ⟨0, by omega, rfl, HF3'.out⟩
  case round => as_aux_lemma =>
    clear HF3 HF3'
    obtain ⟨i, hin, rfl, hf⟩ := hrel
    have HF := Lib.hid hf
    have b4 := (G7.row hf).cell 4 rfl
    clear hf
    have c1 := ttakeT wr HF.out (by show (t.q.drop i).length ≤ 1000000; rw [List.length_drop]; have := HQ20.out; have := HN.out; omega)
    by_cases hlt : i < n
    · as_aux_lemma =>
      have hlt1 : (i : Int) < (n : Int) := by omega
      have h20 : n ≤ 20 := HQ20.out
      have hi0 : (0 : Int) ≤ (i : Int) := by omega
      have hiq : i < t.q.length := by rw [← HN.out]; exact hlt
      rw [Tb.take_at hiq] at c1
      obtain ⟨vb, vo, rfl, _⟩ := (HF.out.ints 7 rfl).read.at hiq
      have HRD : Hid (∀ wx tx, Fam w1 wx (G7 bo hb q p r tb ub m m tx t [IntsA (.slice (some ⟨vb, vo, none⟩) n vc) t.q]) → wx.cell? ⟨vb, vo + i, none⟩ = some (.int .i64 (gI t.q i))) := fun wx tx h => by
        obtain ⟨b2, o2, e2, h2⟩ := (h.ints 7 rfl).read.at hiq
        cases e2
        exact h2
      clear hiq HF
      generalize gI t.q i = x at *
      go_wp2_with fail
      refine c1.mono ?_
      rintro e w4 ⟨rfl, hf⟩
      have hc := HRD.out w4 _ hf
      have HF4 : Hid (Fam w1 w4 (G7 bo hb q p r tb ub m m ⟨t.ents, t.q.drop (i + 1), t.ph, t.nx, t.fd⟩ t [IntsA (.slice (some ⟨vb, vo, none⟩) n vc) t.q])) := hf
      clear c1 hf HRD b4
      go_wp2_with fail
      exact ⟨⟨i + 1, by omega, by go_num, HF4.out⟩, by simp [intOf]; omega⟩
    · as_aux_lemma =>
      obtain rfl : i = n := by omega
      have hlt1 : ¬ (i : Int) < (i : Int) := by omega
      have hdr : t.q.drop i = [] := List.drop_eq_nil_of_le (by rw [← HN.out]; exact Nat.le_refl _)
      have htk : (⟨t.ents, t.q.drop i, t.ph, t.nx, t.fd⟩ : Tb).take = (0, 3, ⟨t.ents, [], t.ph, t.nx, t.fd⟩) := by rw [hdr]; rfl
      rw [htk] at c1
      clear htk hdr HF
      go_wp2_with fail
      refine c1.mono ?_
      rintro e w4 ⟨rfl, hf⟩
      have HF4 : Hid (Fam w1 w4 (G7 bo hb q p r tb ub m m ⟨t.ents, [], t.ph, t.nx, t.fd⟩ t [IntsA (.slice va i vc) t.q])) := hf
      obtain ⟨_, _, _, _, _, hq⟩ := G7.trat HF4.out
      have b5 := (G7.row HF4.out).cell 5 rfl
      have c2 := rtqueue_rep w4 hq (by have := HQ20.out; have := HN.out; omega)
      clear c1 hf hq b4
      go_wp2_with fail
      refine c2.mono ?_
      rintro e w5 ⟨v5, rfl, hi5, ho5⟩
      have HF5 := Lib.hid (HF4.out.only0 ho5)
      have c3 := rints_same w5 (.slice va i vc) v5 t.q (HF5.out.ints 7 rfl).read hi5.read (by have := HQ20.out; have := HN.out; omega)
      clear c2 hi5 ho5 HF4 b5
      go_wp2_with fail
      refine c3.mono ?_
      rintro e w6 ⟨rfl, hd⟩
      have HF6 := Lib.hid (HF5.out.only0 (hd.only []))
      obtain ⟨_, _, _, ht⟩ := G7.tbat HF6.out
      have b4 := (G7.row HF6.out).cell 4 rfl
      have c4 := tqueue_rep w6 ht (by show (0 : Nat) ≤ 1000000; omega)
      clear c3 hd HF5 ht
      go_wp2_with fail
      refine c4.mono ?_
      rintro e w7 ⟨v7, rfl, hi7, ho7⟩
      obtain ⟨a7, c7, rfl⟩ := hi7.len
      have HO7 : Hid (Only [] w w7) := HO1.out.trans (HF6.out.only0 ho7).only (by simp)
      have c5 := ssane_any w7
      clear c4 hi7 ho7 HF6 b4
      go_wp2_with fail
      refine c5.mono ?_
      rintro e w8 ⟨rfl, ho8⟩
      have HE : Hid (Below ws w w8) := HFIN.out _ (HO7.out.trans ho8 (by simp))
      clear c5 ho8 HO7
      go_wp2_with fail
      exact hR.out _ _ ⟨rfl, HE.out⟩
end Go.Proofs.YtkjocehdbpekjaaGreat
