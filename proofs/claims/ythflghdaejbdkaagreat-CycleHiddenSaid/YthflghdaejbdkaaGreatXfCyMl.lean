/- Lemmas of this claim. -/
import Derived.Test.YthflghdaejbdkaaGreatXfCyMg
import Derived.StillTailTactics
import Derived.Deep.DeepCutAuto
namespace Go.Proofs.YthflghdaejbdkaaGreat
open Go.RowKit Go.Maps
set_option maxHeartbeats 12800000
set_option maxRecDepth 100000
set_option linter.unusedVariables false
section
variable {w0 w : World} {mb cb N : Nat} {d : Md} {x : MdX} {K : Nat → Prop} {φ : Nat → Int} {c : Co}
theorem store_call {tl : List Asn} (hc : c.Okc) (h s v : Int) (hh : wfI h) (hv : wfI v) : ∀ wx, Fam w0 wx (Mdl mb d x ++ (CoA cb c :: tl)) → Calls Tryz.prog 52 #[.pointer (some ⟨cb, 0, none⟩), .int .i64 h, .int .i64 s, .int .i64 v] wx (fun e w' => e = .returned (.int .i64 (c.store h s v).1) ∧ Fam w0 w' (Mdl mb d x ++ (CoA cb (c.store h s v).2 :: tl))) :=
  fun wx hf => cstore_rep wx hf (i := 6) rfl hc h s v hh hv
theorem Acted.of {lo : Bool} {p : Pm} {tl : List Asn} {d' : Md} {c' : Co} {x' : MdX} {K' : Nat → Prop} {φ' : Nat → Int} (hf : Fam w0 w (Mdl mb d' x' ++ (CoA cb c' :: tl))) (hs : St N d' K' φ' c') (hp : d'.lost = false → lo = false ∧ d'.pm = p) : Acted w0 mb cb N lo p (.returned (.bool true)) w :=
  ⟨rfl, d', c', x', K', φ', hf.selC (fun k => k) (fun k Y hk => by
    have hk2 := (List.getElem?_eq_some_iff.1 hk).1
    have h7 : (Mdl mb d' x' ++ [CoA cb c']).length = 7 := rfl
    match k, (show k < 7 by omega) with
    | 0, _ => exact hk
    | 1, _ => exact hk
    | 2, _ => exact hk
    | 3, _ => exact hk
    | 4, _ => exact hk
    | 5, _ => exact hk
    | 6, _ => exact hk) (fun j k _ _ h => h), hs, hp⟩
theorem store_none (w : World) (hf : Fam w0 w (Mdl mb d x ++ [CoA cb c])) (hN : N ≤ 1000) (h : St N d K φ c) (dd a b y : Int) (wa : wfI a) (wb : wfI b) (hp : d.pm.place a b = none) :
    Calls Tryz.prog 169 #[.pointer (some ⟨mb, 0, none⟩), .pointer (some ⟨cb, 0, none⟩), .agg #[.int .i64 dd, .int .i64 a, .int .i64 b, .int .i64 y]] w (Acted w0 mb cb N d.lost (d.pm.store a b y)) := by
  refine calls_abs fun R hR => ?_
  have hpm : d.pm.store a b y = d.pm := by unfold Pm.store; rw [hp]
  rw [hpm] at hR
  have HPL : Hid (∀ wx, Only [] w wx → Calls Tryz.prog 221 #[.pointer (some ⟨mb, 0, none⟩), .int .i64 a, .int .i64 b] wx (PlR d a b wx)) := fun wx ho => place_any wx (hf.only0 ho) (by have := h.kl; omega) (fun p hp => (h.sf.rg _ (h.sf.kp p hp).1).2) (fun i => by have := h.ln i; omega) a b wa wb
  have HE : Hid (∀ wx, Only [] w wx → R (.returned (.bool true)) wx) := fun wx ho => hR.out _ _ (Acted.of (hf.only0 ho) h (fun e => ⟨e, rfl⟩))
  have HO : Hid (Only [] w (w.alloc (.cells #[.int .i64 dd, .int .i64 a, .int .i64 b, .int .i64 y] 80))) := (Only.refl _ _).alloc _
  have r1 := (Row.new w 80 [.int .i64 dd, .int .i64 a, .int .i64 b, .int .i64 y]).cell 1 rfl
  have r2 := (Row.new w 80 [.int .i64 dd, .int .i64 a, .int .i64 b, .int .i64 y]).cell 2 rfl
  clear hf h wa wb hpm hR
  go_enter Tryz.func169, Tryz.ntmps169
  go_upto_region 1 with fail
  generalize (w.alloc (.cells #[.int .i64 dd, .int .i64 a, .int .i64 b, .int .i64 y] 80)) = w1 at *
  go_wp2_with fail
  refine (HPL.out _ HO.out).mono ?_
  rintro e w2 ⟨ho2, he⟩
  rw [hp] at he
  subst he
  have HO2 : Hid (Only [] w w2) := HO.out.trans ho2 (by simp)
  clear ho2 HO HPL r1 r2 hp
  go_wp2_with fail
  exact HE.out _ (HO2.out.alloc _)
theorem store_some (w : World) (hf : Fam w0 w (Mdl mb d x ++ [CoA cb c])) (hN : N ≤ 1000) (h : St N d K φ c) (dd a b y : Int) (wa : wfI a) (wb : wfI b) {k s : Nat} (hp : d.pm.place a b = some (k, s)) :
    Calls Tryz.prog 169 #[.pointer (some ⟨mb, 0, none⟩), .pointer (some ⟨cb, 0, none⟩), .agg #[.int .i64 dd, .int .i64 a, .int .i64 b, .int .i64 y]] w (Acted w0 mb cb N d.lost (d.pm.store a b y)) := by
  refine calls_abs fun R hR => ?_
  have hpm := pm_stored (d := d) (y := y) hp
  obtain ⟨hk, hs⟩ := place_some hp
  rw [pm_len] at hk
  obtain ⟨hke, hK⟩ := h.sf.at hk
  obtain ⟨id, hid⟩ : ∃ z, z = d.pm.idAt k := ⟨_, rfl⟩
  rw [← hid] at hke hK hs hpm
  have hs : s < (d.sl id).length := hs
  have hidl := (h.sf.rg id hK).2
  have hrs : s < (d.rf id).length := by rw [h.sf.rl]; exact hs
  have hrl : id < d.refs.length := by rw [h.sf.len]; exact hidl
  have hwP : wfI (φ id) := by
    have := h.ok.k.hf.ok.inR (h.sf.sv id hK).us
    exact wfI_mk (by omega)
  have HPL : Hid (∀ wx, Only [] w wx → Calls Tryz.prog 221 #[.pointer (some ⟨mb, 0, none⟩), .int .i64 a, .int .i64 b] wx (PlR d a b wx)) := fun wx ho => place_any wx (hf.only0 ho) (by have := h.kl; omega) (fun p hp => (h.sf.rg _ (h.sf.kp p hp).1).2) (fun i => by have := h.ln i; omega) a b wa wb
  have HOK := Lib.hid h
  have HK := Lib.hid hK
  have HS := Lib.hid hs
  have HP := Lib.hid hp
  have HKE := Lib.hid hke
  have HF := Lib.hid hf
  have HW := Lib.hid hwP
  have HPM := Lib.hid hpm
  have HIL := Lib.hid hidl
  obtain ⟨m, hm⟩ : ∃ z, z = (d.sl id).length := ⟨_, rfl⟩
  have hm6 := h.ln id
  rw [← hm] at hs hm6
  obtain ⟨sg, scap, g, cap, es, ej, cs1, cs2, fs2⟩ := Mdl.slotAt hf hidl (s := s) (by rw [← hm]; exact hs)
  rw [← hm] at ej cs1
  obtain ⟨rg, rcap, fg, fcap, er, cr1, cr2⟩ := Mdl.flagAt hf hrl hrs
  rw [h.sf.rl, ← hm] at cr1
  rw [h.sf.len] at er
  have hcs := Mdl.cells hf
  rw [es, er] at hcs
  obtain ⟨c0, c1, c2, _, _⟩ := hcs
  obtain ⟨ka, kc, hkv⟩ := orow_len (Mdl.ke hf)
  have HKV := Lib.hid hkv
  clear hkv
  have hsl := h.sl
  have HEJ := Lib.hid ej
  obtain ⟨sn, hsn⟩ : ∃ z, z = d.slots.length := ⟨_, rfl⟩
  rw [← hsn] at c0 c1 hidl hsl
  have HC : Hid (∀ wx, Only [] w wx → wx.cell? ⟨mb, 0, none⟩ = some (.slice (some ⟨sg, 0, none⟩) sn scap) ∧ wx.cell? ⟨mb, 1, none⟩ = some (.slice (some ⟨rg, 0, none⟩) sn rcap) ∧ wx.cell? ⟨sg, id, none⟩ = some (.slice (some ⟨g, 0, none⟩) m cap) ∧ wx.cell? ⟨rg, id, none⟩ = some (.slice (some ⟨fg, 0, none⟩) m fcap) ∧ wx.cell? ⟨fg, s, none⟩ = some (.bool (gB (d.rf id) s)) ∧ wx.cell? ⟨g, s, none⟩ = some (.int .i64 (gI (d.sl id) s)) ∧ wx.frozen? ⟨g, s, none⟩ = false) := fun wx ho => ⟨ho.cell0 c0, ho.cell0 c1, ho.cell0 cs1, ho.cell0 cr1, ho.cell0 cr2, ho.cell0 cs2, ho.frozen0 cs2 fs2⟩
  have HM := Lib.hid hm
  have HSN := Lib.hid hsn
  have HO : Hid (Only [] w (w.alloc (.cells #[.int .i64 dd, .int .i64 a, .int .i64 b, .int .i64 y] 80))) := (Only.refl _ _).alloc _
  have F1 : Hid (Fam w0 (w.alloc (.cells #[.int .i64 dd, .int .i64 a, .int .i64 b, .int .i64 y] 80)) (Mdl mb d x ++ [CoA cb c, RowA w.heap.size 80 [.int .i64 dd, .int .i64 a, .int .i64 b, .int .i64 y]])) := hf.addRow 80 [.int .i64 dd, .int .i64 a, .int .i64 b, .int .i64 y]
  obtain ⟨wo, hwo⟩ : ∃ z, z = w.heap.size := ⟨_, rfl⟩
  rw [← hwo] at F1
  have r1 := (F1.out.row 7 rfl).cell 1 rfl
  have r2 := (F1.out.row 7 rfl).cell 2 rfl
  have HWO := Lib.hid hwo
  have HKF : Hid (gB (d.rf id) s = false → (c.store (φ id) (s : Int) (y.tmod 1000000)).1 = 0 ∧ St N (d.store id s (y.tmod 1000000)) K φ (c.store (φ id) (s : Int) (y.tmod 1000000)).2) := fun e => by
    have hy := mill y
    exact h.put hK HS.out (by unfold Fits; rw [e, if_neg (by decide)]) (fun _ => by unfold isWordI; exact decide_eq_true (by omega))
  have HKZ : Hid (gB (d.rf id) s = true → (c.store (φ id) (s : Int) 0).1 = 0 ∧ St N (d.store id s 0) K φ (c.store (φ id) (s : Int) 0).2) := fun e =>
    h.put hK HS.out (by unfold Fits; rw [e, if_pos rfl]; exact .inl ⟨rfl, rfl⟩) (fun e2 => by rw [e] at e2; cases e2)
  have HKJ : Hid (gB (d.rf id) s = true → ∀ q, q < d.keeps.length → (c.store (φ id) (s : Int) (φ (d.pm.idAt q))).1 = 0 ∧ St N (d.store id s (d.pm.idAt q)) K φ (c.store (φ id) (s : Int) (φ (d.pm.idAt q))).2) := fun e q hq =>
    h.put hK HS.out (by unfold Fits; rw [e, if_pos rfl]; exact .inr ⟨_, rfl, (h.sf.at hq).2, rfl⟩) (fun e2 => by rw [e] at e2; cases e2)
  have HKQ : Hid (∀ q, q < d.keeps.length → d.keeps[q]? = some (φ (d.pm.idAt q), d.pm.idAt q) ∧ wfI (φ (d.pm.idAt q))) := fun q hq => ⟨(h.sf.at hq).1, by
    have := h.ok.k.hf.ok.inR (h.sf.sv _ (h.sf.at hq).2).us
    exact wfI_mk (by omega)⟩
  have hkl := h.kl
  clear hf h wa wb hpm hp hke hK hrs hrl hwP hm es er ej cs1 cs2 fs2 cr1 cr2 c0 c1 c2 hsn hwo hid
  generalize hPd : φ id = P at *
  go_enter Tryz.func169, Tryz.ntmps169
  go_upto_region 1 with fail
  rw [← HWO.out]
  generalize (w.alloc (.cells #[.int .i64 dd, .int .i64 a, .int .i64 b, .int .i64 y] 80)) = w1 at *
  go_wp2_with fail
  refine (HPL.out _ HO.out).mono ?_
  rintro e w2 ⟨ho2, he⟩
  rw [HP.out] at he
  obtain ⟨p, hpk, rfl⟩ := he
  rw [HKE.out] at hpk
  cases hpk
  have F3 : Hid (Fam w0 (w2.alloc (.cells #[.int .i64 P, .int .i64 (id : Int)] 140)) (Mdl mb d x ++ [CoA cb c, RowA wo 80 [.int .i64 dd, .int .i64 a, .int .i64 b, .int .i64 y], RowA w2.heap.size 140 [.int .i64 P, .int .i64 (id : Int)]])) := (F1.out.only0 ho2).addRow 140 [.int .i64 P, .int .i64 (id : Int)]
  have HO3 : Hid (Only [] w (w2.alloc (.cells #[.int .i64 P, .int .i64 (id : Int)] 140))) := (HO.out.trans ho2 (by simp)).alloc _
  obtain ⟨xb, hxb⟩ : ∃ z, z = w2.heap.size := ⟨_, rfl⟩
  rw [← hxb] at F3
  have HXB := Lib.hid hxb
  clear hxb ho2 F1 HO HPL r1 r2 HP HKE
  go_upto_region 4 with fail
  rw [← HXB.out]
  generalize (w2.alloc (.cells #[.int .i64 P, .int .i64 (id : Int)] 140)) = w3 at *
  clear HXB
  obtain ⟨c0, c1, cs1, cr1, cr2, cs2, fs2⟩ := HC.out w3 HO3.out
  have y0 := (F3.out.row 8 rfl).cell 0 rfl
  have y1 := (F3.out.row 8 rfl).cell 1 rfl
  have o3 := (F3.out.row 7 rfl).cell 3 rfl
  have hi0 : (0 : Int) ≤ (id : Int) := by omega
  have hi1 : (id : Int) < (sn : Int) := by omega
  have hs0 : (0 : Int) ≤ (s : Int) := by omega
  have hs1 : (s : Int) < (m : Int) := by omega
  have HS4 : Hid (∀ w', Only [] w3 w' → w'.cell? ⟨mb, 1, none⟩ = some (.slice (some ⟨rg, 0, none⟩) sn rcap) ∧ w'.cell? ⟨xb, 1, none⟩ = some (.int .i64 (id : Int)) ∧ w'.cell? ⟨rg, id, none⟩ = some (.slice (some ⟨fg, 0, none⟩) m fcap) ∧ w'.cell? ⟨fg, s, none⟩ = some (.bool (gB (d.rf id) s))) := fun w' ho => ⟨ho.cell0 c1, ho.cell0 y1, ho.cell0 cr1, ho.cell0 cr2⟩
  generalize hgb : gB (d.rf id) s = bb at *
  cases bb with
  | false =>
    obtain ⟨hst, hSt⟩ := HKF.out rfl
    have hpm := HPM.out
    rw [if_pos rfl] at hpm
    rw [hpm] at hR
    have hml := mill y
    obtain ⟨v, hv⟩ : ∃ v, v = y.tmod 1000000 := ⟨_, rfl⟩
    rw [← hv] at hst hSt hR hml
    have HST := Lib.hid hSt
    have HWV : Hid (wfI v) := wfI_mk (by omega)
    replace hv := hv.symm
    clear hpm hSt HKF HKZ HKJ HKQ HPM
    go_region_held3 (fun w' => w'.cell? ⟨mb, 1, none⟩ = some (.slice (some ⟨rg, 0, none⟩) sn rcap) ∧ w'.cell? ⟨xb, 1, none⟩ = some (.int .i64 (id : Int)) ∧ w'.cell? ⟨rg, id, none⟩ = some (.slice (some ⟨fg, 0, none⟩) m fcap) ∧ w'.cell? ⟨fg, s, none⟩ = some (.bool false))
      (first | (exact HS4.out _ (Only.refl _ _)) | (exact HS4.out _ (Only.refl _ _).drew))
      (fail)
    have F4 : Hid (Fam w0 w3.drew (Mdl mb d x ++ [CoA cb c, RowA wo 80 [.int .i64 dd, .int .i64 a, .int .i64 b, .int .i64 y], RowA xb 140 [.int .i64 P, .int .i64 (id : Int)]])) := F3.out.drew
    have HO4 : Hid (Only [] w w3.drew) := HO3.out.drew
    clear F3 HO3 HS4 c0 c1 cs1 cr1 cr2 cs2 fs2 y0 y1 o3
    generalize w3.drew = w4 at *
    obtain ⟨c0, c1, cs1, _, _, _, _⟩ := HC.out w4 HO4.out
    have y1 := (F4.out.row 8 rfl).cell 1 rfl
    have o3 := (F4.out.row 7 rfl).cell 3 rfl
    go_upto_region 6 with fail
    go_still_tail 11, (by kernel_rfl)
    change wpList _ _ _ _ _ w4.drew
    have F5 : Hid (Fam w0 w4.drew (Mdl mb d x ++ [CoA cb c, RowA wo 80 [.int .i64 dd, .int .i64 a, .int .i64 b, .int .i64 y], RowA xb 140 [.int .i64 P, .int .i64 (id : Int)]])) := F4.out.drew
    have HO5 : Hid (Only [] w w4.drew) := HO4.out.drew
    clear F4 HO4 c0 c1 cs1 y1 o3
    generalize w4.drew = w5 at *
    obtain ⟨_, _, _, _, _, g0, g1⟩ := HC.out w5 HO5.out
    have F6 : Hid (Fam w0 (w5.setCell ⟨g, s, none⟩ (.int .i64 v)) (Mdl mb (d.store id s v) x ++ [CoA cb c, RowA wo 80 [.int .i64 dd, .int .i64 a, .int .i64 b, .int .i64 y], RowA xb 140 [.int .i64 P, .int .i64 (id : Int)]])) := Mdl.put F5.out HEJ.out s v
    clear F5 HO5 HC
    go_upto_region 7 with fail
    generalize (w5.setCell ⟨g, s, none⟩ (.int .i64 v)) = w6 at *
    clear hv
    have y0 := (F6.out.row 8 rfl).cell 0 rfl
    have cst := store_call HOK.out.ok.k P (s : Int) v HW.out HWV.out w6 F6.out
    rw [hst] at cst
    clear F6 hst
    go_wp2_with fail
    refine cst.mono ?_
    rintro e w7 ⟨rfl, f7⟩
    have F7 := Lib.hid f7
    clear cst f7 y0
    go_wp2_with fail
    exact hR.out _ _ (Acted.of F7.out HST.out (fun e => ⟨e, rfl⟩))
  | true =>
    have hpm := HPM.out
    rw [if_neg (by decide)] at hpm
    clear HKF HPM
    go_region_held3 (fun w' => w'.cell? ⟨mb, 1, none⟩ = some (.slice (some ⟨rg, 0, none⟩) sn rcap) ∧ w'.cell? ⟨xb, 1, none⟩ = some (.int .i64 (id : Int)) ∧ w'.cell? ⟨rg, id, none⟩ = some (.slice (some ⟨fg, 0, none⟩) m fcap) ∧ w'.cell? ⟨fg, s, none⟩ = some (.bool true))
      (first | (exact HS4.out _ (Only.refl _ _)) | (exact HS4.out _ (Only.refl _ _).drew))
      (fail)
    have F4 : Hid (Fam w0 w3.drew (Mdl mb d x ++ [CoA cb c, RowA wo 80 [.int .i64 dd, .int .i64 a, .int .i64 b, .int .i64 y], RowA xb 140 [.int .i64 P, .int .i64 (id : Int)]])) := F3.out.drew
    have HO4 : Hid (Only [] w w3.drew) := HO3.out.drew
    clear F3 HO3 HS4 c0 c1 cs1 cr1 cr2 cs2 fs2 y0 y1 o3
    generalize w3.drew = w4 at *
    obtain ⟨c0, c1, cs1, _, _, _, _⟩ := HC.out w4 HO4.out
    have y1 := (F4.out.row 8 rfl).cell 1 rfl
    have o3 := (F4.out.row 7 rfl).cell 3 rfl
    obtain ⟨kn, hkn⟩ : ∃ z, z = d.keeps.length := ⟨_, rfl⟩
    rw [← hkn] at hpm HKJ HKQ hkl
    obtain ⟨_, _, c2, _, _⟩ := Mdl.cells F4.out
    rw [HKV.out, ← hkn] at c2
    have HKN := Lib.hid hkn
    clear hkn
    obtain ⟨⟨t1, t2⟩, t3⟩ := tmod_place y (n := (kn : Int) + 1) (by omega)
    have e0 := Int.emod_nonneg y (b := (kn : Int) + 1) (by omega)
    have e1 := Int.emod_lt_of_pos y (b := (kn : Int) + 1) (by omega)
    obtain ⟨q, hq⟩ : ∃ q : Nat, q = (y % ((kn : Int) + 1)).toNat := ⟨_, rfl⟩
    rw [← hq] at hpm
    have hq2 : y % ((kn : Int) + 1) = (q : Int) := by omega
    rw [hq2] at t3
    have hqk : q ≤ kn := by omega
    obtain ⟨r, hr⟩ : ∃ r, r = y.tmod ((kn : Int) + 1) := ⟨_, rfl⟩
    rw [← hr] at t1 t2 t3
    replace hr := hr.symm
    have t4 : (r + (kn : Int) + 1).tmod ((kn : Int) + 1) = (q : Int) := by rw [← t3]; congr 1; omega
    have t5 : (r + (kn : Int) + 1) % ((kn : Int) + 1) = (q : Int) := by rw [← t4, Int.tmod_eq_emod_of_nonneg (by omega)]
    clear t3 e0 e1 hq hq2
    by_cases hqn : q = kn
    · subst hqn
      rw [if_pos rfl] at hpm
      rw [hpm] at hR
      obtain ⟨hst, hSt⟩ := HKZ.out rfl
      have HST := Lib.hid hSt
      clear hSt HKZ HKJ hpm HKQ
      go_upto_region 11 with fail
      go_still_tail 10, (by kernel_rfl)
      change wpList _ _ _ _ _ w4.drew
      have F5 : Hid (Fam w0 w4.drew (Mdl mb d x ++ [CoA cb c, RowA wo 80 [.int .i64 dd, .int .i64 a, .int .i64 b, .int .i64 y], RowA xb 140 [.int .i64 P, .int .i64 (id : Int)]])) := F4.out.drew
      have HO5 : Hid (Only [] w w4.drew) := HO4.out.drew
      clear F4 HO4 c0 c1 cs1 y1 o3
      generalize w4.drew = w5 at *
      obtain ⟨_, _, _, _, _, g0, g1⟩ := HC.out w5 HO5.out
      have F6 : Hid (Fam w0 (w5.setCell ⟨g, s, none⟩ (.int .i64 0)) (Mdl mb (d.store id s 0) x ++ [CoA cb c, RowA wo 80 [.int .i64 dd, .int .i64 a, .int .i64 b, .int .i64 y], RowA xb 140 [.int .i64 P, .int .i64 (id : Int)]])) := Mdl.put F5.out HEJ.out s 0
      clear F5 HO5 HC
      go_upto_region 12 with fail
      generalize (w5.setCell ⟨g, s, none⟩ (.int .i64 0)) = w6 at *
      have y0 := (F6.out.row 8 rfl).cell 0 rfl
      have cst := store_call HOK.out.ok.k P (s : Int) 0 HW.out (wfI_mk (by decide)) w6 F6.out
      rw [hst] at cst
      clear F6 hst
      go_wp2_with fail
      refine cst.mono ?_
      rintro e w7 ⟨rfl, f7⟩
      have F7 := Lib.hid f7
      clear cst f7 y0
      go_wp2_with fail
      exact hR.out _ _ (Acted.of F7.out HST.out (fun e => ⟨e, rfl⟩))
    · have hqk2 : q < kn := by omega
      rw [if_neg hqn] at hpm
      rw [hpm] at hR
      obtain ⟨hst, hSt⟩ := HKJ.out rfl q hqk2
      obtain ⟨hkq, hwq⟩ := HKQ.out q hqk2
      have hne : ((q : Int) == (kn : Int)) = false := by rw [beq_eq_false_iff_ne]; omega
      have hqi0 : (0 : Int) ≤ (q : Int) := by omega
      have hqi1 : (q : Int) < (kn : Int) := by omega
      obtain ⟨kg, kcap, ekv, kq0, kq1⟩ := Mdl.keptAt F4.out hkq
      have HKG : Hid (∀ wx d' c', Fam w0 wx (Mdl mb d' x ++ [CoA cb c', RowA wo 80 [.int .i64 dd, .int .i64 a, .int .i64 b, .int .i64 y], RowA xb 140 [.int .i64 P, .int .i64 (id : Int)]]) → d'.keeps = d.keeps → wx.cell? ⟨mb, 2, none⟩ = some (.slice (some ⟨kg, 0, none⟩) kn kcap) ∧ wx.cell? ⟨kg, q * 2, none⟩ = some (.int .i64 (φ (d.pm.idAt q))) ∧ wx.cell? ⟨kg, q * 2 + 1, none⟩ = some (.int .i64 (d.pm.idAt q : Int))) := fun wx d' c' hx hk => by
        obtain ⟨kg', kcap', e2, z0, z1⟩ := Mdl.keptAt hx (by rw [hk]; exact hkq)
        have e3 := (Mdl.cells hx).2.2.1
        rw [ekv] at e2
        simp only [Value.slice.injEq, Option.some.injEq, Addr.mk.injEq, and_true] at e2
        obtain rfl := e2.1
        rw [ekv, ← HKN.out] at e3
        exact ⟨e3, z0, z1⟩
      clear c2 kq0 kq1 ekv
      obtain ⟨c2, kq0, kq1⟩ := HKG.out _ _ _ F4.out rfl
      have HST := Lib.hid hSt
      have HWQ := Lib.hid hwq
      clear hSt HKZ HKJ hpm HKQ hkq hwq hqn HKV
      generalize φ (d.pm.idAt q) = ZP at *
      generalize d.pm.idAt q = zid at *
      go_upto_region 13 with fail
      go_still_tail 18, (by kernel_rfl)
      change wpList _ _ _ _ _ w4.drew
      have F5 : Hid (Fam w0 w4.drew (Mdl mb d x ++ [CoA cb c, RowA wo 80 [.int .i64 dd, .int .i64 a, .int .i64 b, .int .i64 y], RowA xb 140 [.int .i64 P, .int .i64 (id : Int)]])) := F4.out.drew
      have HO5 : Hid (Only [] w w4.drew) := HO4.out.drew
      clear F4 HO4 c0 c1 cs1 y1 o3 c2 kq0 kq1
      generalize w4.drew = w5 at *
      obtain ⟨_, _, _, _, _, g0, g1⟩ := HC.out w5 HO5.out
      have F6 : Hid (Fam w0 (w5.setCell ⟨g, s, none⟩ (.int .i64 (zid : Int))) (Mdl mb (d.store id s (zid : Int)) x ++ [CoA cb c, RowA wo 80 [.int .i64 dd, .int .i64 a, .int .i64 b, .int .i64 y], RowA xb 140 [.int .i64 P, .int .i64 (id : Int)]])) := Mdl.put F5.out HEJ.out s (zid : Int)
      clear F5 HO5 HC
      go_upto_region 14 with fail
      generalize (w5.setCell ⟨g, s, none⟩ (.int .i64 (zid : Int))) = w6 at *
      have y0 := (F6.out.row 8 rfl).cell 0 rfl
      have cst := store_call HOK.out.ok.k P (s : Int) ZP HW.out HWQ.out w6.drew F6.out.drew
      rw [hst] at cst
      obtain ⟨c2, kq0, _⟩ := HKG.out _ _ _ F6.out rfl
      clear F6 hst
      go_still_tail 12, (by kernel_rfl)
      change wpList _ _ _ _ _ w6.drew
      generalize w6.drew = w8 at *
      go_wp2_with fail
      refine cst.mono ?_
      rintro e w7 ⟨rfl, f7⟩
      have F7 := Lib.hid f7
      clear cst f7 y0 c2 kq0
      go_wp2_with fail
      exact hR.out _ _ (Acted.of F7.out HST.out (fun e => ⟨e, rfl⟩))
end
end Go.Proofs.YthflghdaejbdkaaGreat
