/- Lemmas of this claim. -/
import Derived.Test.YthflghdaejbdkaaGreatXfCyMl
namespace Go.Proofs.YthflghdaejbdkaaGreat
open Go.RowKit Go.Maps
set_option maxHeartbeats 12800000
set_option maxRecDepth 100000
set_option linter.unusedVariables false
section
variable {w0 w : World} {mb cb N : Nat} {d : Md} {x : MdX} {K : Nat → Prop} {φ : Nat → Int} {c : Co}
theorem pm_loaded {a b : Int} {k s : Nat} (hp : d.pm.place a b = some (k, s)) : d.pm.load a b =
    if gB (d.rf (d.pm.idAt k)) s = true ∧ gI (d.sl (d.pm.idAt k)) s ≠ 0 ∧ d.keeps.length < 30 then d.pm.keep (gI (d.sl (d.pm.idAt k)) s).toNat else d.pm := by
  unfold Pm.load
  rw [hp]
  simp only [pm_len, pm_rf, pm_sl]
theorem load_none (w : World) (hf : Fam w0 w (Mdl mb d x ++ [CoA cb c])) (hN : N ≤ 1000) (h : St N d K φ c) (dd a b y : Int) (wa : wfI a) (wb : wfI b) (hp : d.pm.place a b = none) :
    Calls Tryz.prog 170 #[.pointer (some ⟨mb, 0, none⟩), .pointer (some ⟨cb, 0, none⟩), .agg #[.int .i64 dd, .int .i64 a, .int .i64 b, .int .i64 y]] w (Acted w0 mb cb N d.lost (d.pm.load a b)) := by
  refine calls_abs fun R hR => ?_
  have hpm : d.pm.load a b = d.pm := by unfold Pm.load; rw [hp]
  rw [hpm] at hR
  have HPL : Hid (∀ wx, Only [] w wx → Calls Tryz.prog 221 #[.pointer (some ⟨mb, 0, none⟩), .int .i64 a, .int .i64 b] wx (PlR d a b wx)) := fun wx ho => place_any wx (hf.only0 ho) (by have := h.kl; omega) (fun p hp => (h.sf.rg _ (h.sf.kp p hp).1).2) (fun i => by have := h.ln i; omega) a b wa wb
  have HE : Hid (∀ wx, Only [] w wx → R (.returned (.bool true)) wx) := fun wx ho => hR.out _ _ (Acted.of (hf.only0 ho) h (fun e => ⟨e, rfl⟩))
  have HO : Hid (Only [] w (w.alloc (.cells #[.int .i64 dd, .int .i64 a, .int .i64 b, .int .i64 y] 80))) := (Only.refl _ _).alloc _
  have r1 := (Row.new w 80 [.int .i64 dd, .int .i64 a, .int .i64 b, .int .i64 y]).cell 1 rfl
  have r2 := (Row.new w 80 [.int .i64 dd, .int .i64 a, .int .i64 b, .int .i64 y]).cell 2 rfl
  clear hf h wa wb hpm hR
  go_enter Tryz.func170, Tryz.ntmps170
  go_upto_region 1 with fail
  generalize (w.alloc (.cells #[.int .i64 dd, .int .i64 a, .int .i64 b, .int .i64 y] 80)) = w1 at *
  go_wp2_with fail
  refine (HPL.out _ HO.out).mono ?_
  rintro e w2 ⟨ho2, he⟩
  rw [hp] at he
  subst he
  have HO2 : Hid (Only [] w w2) := HO.out.trans ho2 (by simp)
  clear ho2 HO HPL r1 r2 hp
  go_wp2_with fail
  exact HE.out _ (HO2.out.alloc _)
theorem load_some (w : World) (hf : Fam w0 w (Mdl mb d x ++ [CoA cb c])) (hN : N ≤ 1000) (h : St N d K φ c) (dd a b y : Int) (wa : wfI a) (wb : wfI b) {k s : Nat} (hp : d.pm.place a b = some (k, s)) :
    Calls Tryz.prog 170 #[.pointer (some ⟨mb, 0, none⟩), .pointer (some ⟨cb, 0, none⟩), .agg #[.int .i64 dd, .int .i64 a, .int .i64 b, .int .i64 y]] w (Acted w0 mb cb N d.lost (d.pm.load a b)) := by
  refine calls_abs fun R hR => ?_
  have hpm := pm_loaded (d := d) hp
  obtain ⟨hk, hs⟩ := place_some hp
  rw [pm_len] at hk
  obtain ⟨hke, hK⟩ := h.sf.at hk
  obtain ⟨id, hid⟩ : ∃ z, z = d.pm.idAt k := ⟨_, rfl⟩
  rw [← hid] at hke hK hs hpm
  have hs : s < (d.sl id).length := hs
  have hidl := (h.sf.rg id hK).2
  have hrs : s < (d.rf id).length := by rw [h.sf.rl]; exact hs
  have hrl : id < d.refs.length := by rw [h.sf.len]; exact hidl
  have hwP : wfI (φ id) := by
    have := h.ok.k.hf.ok.inR (h.sf.sv id hK).us
    exact wfI_mk (by omega)
  have HPL : Hid (∀ wx, Only [] w wx → Calls Tryz.prog 221 #[.pointer (some ⟨mb, 0, none⟩), .int .i64 a, .int .i64 b] wx (PlR d a b wx)) := fun wx ho => place_any wx (hf.only0 ho) (by have := h.kl; omega) (fun p hp => (h.sf.rg _ (h.sf.kp p hp).1).2) (fun i => by have := h.ln i; omega) a b wa wb
  have HOK := Lib.hid h
  have HK := Lib.hid hK
  have HS := Lib.hid hs
  have HP := Lib.hid hp
  have HKE := Lib.hid hke
  have HF := Lib.hid hf
  have HW := Lib.hid hwP
  have HPM := Lib.hid hpm
  have HIL := Lib.hid hidl
  obtain ⟨m, hm⟩ : ∃ z, z = (d.sl id).length := ⟨_, rfl⟩
  have hm6 := h.ln id
  rw [← hm] at hs hm6
  obtain ⟨sg, scap, g, cap, es, ej, cs1, cs2, fs2⟩ := Mdl.slotAt hf hidl (s := s) (by rw [← hm]; exact hs)
  rw [← hm] at ej cs1
  obtain ⟨rg, rcap, fg, fcap, er, cr1, cr2⟩ := Mdl.flagAt hf hrl hrs
  rw [h.sf.rl, ← hm] at cr1
  rw [h.sf.len] at er
  have hcs := Mdl.cells hf
  rw [es, er] at hcs
  obtain ⟨c0, c1, c2, _, _⟩ := hcs
  obtain ⟨ka, kc, hkv⟩ := orow_len (Mdl.ke hf)
  have HKV := Lib.hid hkv
  clear hkv
  have hsl := h.sl
  have HEJ := Lib.hid ej
  obtain ⟨sn, hsn⟩ : ∃ z, z = d.slots.length := ⟨_, rfl⟩
  rw [← hsn] at c0 c1 hidl hsl
  have HC : Hid (∀ wx, Only [] w wx → wx.cell? ⟨mb, 0, none⟩ = some (.slice (some ⟨sg, 0, none⟩) sn scap) ∧ wx.cell? ⟨mb, 1, none⟩ = some (.slice (some ⟨rg, 0, none⟩) sn rcap) ∧ wx.cell? ⟨sg, id, none⟩ = some (.slice (some ⟨g, 0, none⟩) m cap) ∧ wx.cell? ⟨rg, id, none⟩ = some (.slice (some ⟨fg, 0, none⟩) m fcap) ∧ wx.cell? ⟨fg, s, none⟩ = some (.bool (gB (d.rf id) s)) ∧ wx.cell? ⟨g, s, none⟩ = some (.int .i64 (gI (d.sl id) s)) ∧ wx.frozen? ⟨g, s, none⟩ = false) := fun wx ho => ⟨ho.cell0 c0, ho.cell0 c1, ho.cell0 cs1, ho.cell0 cr1, ho.cell0 cr2, ho.cell0 cs2, ho.frozen0 cs2 fs2⟩
  have HM := Lib.hid hm
  have HSN := Lib.hid hsn
  have HO : Hid (Only [] w (w.alloc (.cells #[.int .i64 dd, .int .i64 a, .int .i64 b, .int .i64 y] 80))) := (Only.refl _ _).alloc _
  have F1 : Hid (Fam w0 (w.alloc (.cells #[.int .i64 dd, .int .i64 a, .int .i64 b, .int .i64 y] 80)) (Mdl mb d x ++ [CoA cb c, RowA w.heap.size 80 [.int .i64 dd, .int .i64 a, .int .i64 b, .int .i64 y]])) := hf.addRow 80 [.int .i64 dd, .int .i64 a, .int .i64 b, .int .i64 y]
  obtain ⟨wo, hwo⟩ : ∃ z, z = w.heap.size := ⟨_, rfl⟩
  rw [← hwo] at F1
  have r1 := (F1.out.row 7 rfl).cell 1 rfl
  have r2 := (F1.out.row 7 rfl).cell 2 rfl
  have HWO := Lib.hid hwo
  obtain ⟨xv, hget, hfit, hj⟩ := h.sf.get h.ok.k hK (s := s) HS.out
  have HFIT := Lib.hid hfit
  have HJ := Lib.hid hj
  have HGT : Hid (∀ wx tl, Fam w0 wx (Mdl mb d x ++ (CoA cb c :: tl)) → Calls Tryz.prog 47 #[.pointer (some ⟨cb, 0, none⟩), .int .i64 (φ id), .int .i64 (s : Int)] wx (Same wx (.tuple #[.int .i64 xv, .int .i64 0]))) := fun wx tl hx => by
    have := cget_rep wx hx (i := 6) rfl h.ok.k (φ id) (s : Int) HW.out
    rw [hget] at this
    exact this
  have hkl := h.kl
  clear hget hfit hj hf h wa wb hpm hp hke hK hrs hrl hwP hm es er ej cs1 cs2 fs2 cr1 cr2 c0 c1 c2 hsn hwo hid
  generalize hPd : φ id = P at *
  go_enter Tryz.func170, Tryz.ntmps170
  go_upto_region 1 with fail
  rw [← HWO.out]
  generalize (w.alloc (.cells #[.int .i64 dd, .int .i64 a, .int .i64 b, .int .i64 y] 80)) = w1 at *
  go_wp2_with fail
  refine (HPL.out _ HO.out).mono ?_
  rintro e w2 ⟨ho2, he⟩
  rw [HP.out] at he
  obtain ⟨p, hpk, rfl⟩ := he
  rw [HKE.out] at hpk
  cases hpk
  have F3 : Hid (Fam w0 (w2.alloc (.cells #[.int .i64 P, .int .i64 (id : Int)] 140)) (Mdl mb d x ++ [CoA cb c, RowA wo 80 [.int .i64 dd, .int .i64 a, .int .i64 b, .int .i64 y], RowA w2.heap.size 140 [.int .i64 P, .int .i64 (id : Int)]])) := (F1.out.only0 ho2).addRow 140 [.int .i64 P, .int .i64 (id : Int)]
  have HO3 : Hid (Only [] w (w2.alloc (.cells #[.int .i64 P, .int .i64 (id : Int)] 140))) := (HO.out.trans ho2 (by simp)).alloc _
  obtain ⟨xb, hxb⟩ : ∃ z, z = w2.heap.size := ⟨_, rfl⟩
  rw [← hxb] at F3
  have HXB := Lib.hid hxb
  clear hxb ho2 F1 HO HPL r1 r2 HP HKE
  go_upto_region 4 with fail
  rw [← HXB.out]
  generalize (w2.alloc (.cells #[.int .i64 P, .int .i64 (id : Int)] 140)) = w3 at *
  clear HXB
  have y0 := (F3.out.row 8 rfl).cell 0 rfl
  have hi0 : (0 : Int) ≤ (id : Int) := by omega
  have hi1 : (id : Int) < (sn : Int) := by omega
  have hs0 : (0 : Int) ≤ (s : Int) := by omega
  have hs1 : (s : Int) < (m : Int) := by omega
  have cg := HGT.out w3 _ F3.out
  go_wp2_with fail
  refine cg.mono ?_
  rintro e _ ⟨rfl, nd, rfl⟩
  have F4 : Hid (Fam w0 (w3.drewN nd) (Mdl mb d x ++ [CoA cb c, RowA wo 80 [.int .i64 dd, .int .i64 a, .int .i64 b, .int .i64 y], RowA xb 140 [.int .i64 P, .int .i64 (id : Int)]])) := F3.out.drewN nd
  have HO4 : Hid (Only [] w (w3.drewN nd)) := HO3.out.drewN nd
  clear F3 HO3 y0 cg HGT
  go_upto_region 5 with fail
  generalize w3.drewN nd = w4 at *
  obtain ⟨c0, c1, cs1, cr1, cr2, cs2, fs2⟩ := HC.out w4 HO4.out
  have y1 := (F4.out.row 8 rfl).cell 1 rfl
  have HS5 : Hid (∀ w', Only [] w4 w' → w'.cell? ⟨mb, 0, none⟩ = some (.slice (some ⟨sg, 0, none⟩) sn scap) ∧ w'.cell? ⟨xb, 1, none⟩ = some (.int .i64 (id : Int)) ∧ w'.cell? ⟨sg, id, none⟩ = some (.slice (some ⟨g, 0, none⟩) m cap) ∧ w'.cell? ⟨g, s, none⟩ = some (.int .i64 (gI (d.sl id) s))) := fun w' ho => ⟨ho.cell0 c0, ho.cell0 y1, ho.cell0 cs1, ho.cell0 cs2⟩
  have HS8 : Hid (∀ w', Only [] w4 w' → w'.cell? ⟨mb, 1, none⟩ = some (.slice (some ⟨rg, 0, none⟩) sn rcap) ∧ w'.cell? ⟨xb, 1, none⟩ = some (.int .i64 (id : Int)) ∧ w'.cell? ⟨rg, id, none⟩ = some (.slice (some ⟨fg, 0, none⟩) m fcap) ∧ w'.cell? ⟨fg, s, none⟩ = some (.bool (gB (d.rf id) s))) := fun w' ho => ⟨ho.cell0 c1, ho.cell0 y1, ho.cell0 cr1, ho.cell0 cr2⟩
  generalize hgb : gB (d.rf id) s = bb at *
  generalize hgv : gI (d.sl id) s = v at *
  have HFS : Hid (bb = false → xv = v) := fun e => by have := HFIT.out; unfold Fits at this; rw [e, if_neg (by decide)] at this; exact this
  have HFZ : Hid (bb = true → v = 0 → xv = 0) := fun e e2 => by
    have := HFIT.out
    unfold Fits at this
    rw [e, if_pos rfl] at this
    rcases this with h1 | ⟨j, e3, e4, e5⟩
    · exact h1.2
    · have hr := HOK.out.sf.rg j e4
      omega
  have HFJ : Hid (bb = true → v ≠ 0 → ∃ j : Nat, v = (j : Int) ∧ K j ∧ xv = φ j ∧ xv ≠ 0) := fun e e2 => by
    have := HFIT.out
    unfold Fits at this
    rw [e, if_pos rfl] at this
    rcases this with h1 | ⟨j, e3, e4, e5⟩
    · exact absurd h1.1 e2
    · obtain ⟨a1, a2, a3⟩ := HJ.out j e e3 (by omega)
      exact ⟨j, e3, a1, a2, a3⟩
  clear HFIT HJ
  go_region_held3 (fun w' => w'.cell? ⟨mb, 0, none⟩ = some (.slice (some ⟨sg, 0, none⟩) sn scap) ∧ w'.cell? ⟨xb, 1, none⟩ = some (.int .i64 (id : Int)) ∧ w'.cell? ⟨sg, id, none⟩ = some (.slice (some ⟨g, 0, none⟩) m cap) ∧ w'.cell? ⟨g, s, none⟩ = some (.int .i64 v))
    (first | (exact HS5.out _ (Only.refl _ _)) | (exact HS5.out _ (Only.refl _ _).drew))
    (fail)
  clear HS5
  have HS8' : Hid (∀ w', Only [] w4.drew w' → w'.cell? ⟨mb, 1, none⟩ = some (.slice (some ⟨rg, 0, none⟩) sn rcap) ∧ w'.cell? ⟨xb, 1, none⟩ = some (.int .i64 (id : Int)) ∧ w'.cell? ⟨rg, id, none⟩ = some (.slice (some ⟨fg, 0, none⟩) m fcap) ∧ w'.cell? ⟨fg, s, none⟩ = some (.bool bb)) := fun w' ho => HS8.out w' ((Only.refl _ _).drew.trans ho (by simp))
  have F5 : Hid (Fam w0 w4.drew (Mdl mb d x ++ [CoA cb c, RowA wo 80 [.int .i64 dd, .int .i64 a, .int .i64 b, .int .i64 y], RowA xb 140 [.int .i64 P, .int .i64 (id : Int)]])) := F4.out.drew
  have HO5 : Hid (Only [] w w4.drew) := HO4.out.drew
  clear HS8 F4 HO4 c0 c1 cs1 cr1 cr2 cs2 fs2 y1
  go_upto_region 8 with fail
  generalize w4.drew = w5 at *
  go_region_held3 (fun w' => w'.cell? ⟨mb, 1, none⟩ = some (.slice (some ⟨rg, 0, none⟩) sn rcap) ∧ w'.cell? ⟨xb, 1, none⟩ = some (.int .i64 (id : Int)) ∧ w'.cell? ⟨rg, id, none⟩ = some (.slice (some ⟨fg, 0, none⟩) m fcap) ∧ w'.cell? ⟨fg, s, none⟩ = some (.bool bb))
    (first | (exact HS8'.out _ (Only.refl _ _)) | (exact HS8'.out _ (Only.refl _ _).drew))
    (fail)
  have F6 : Hid (Fam w0 w5.drew (Mdl mb d x ++ [CoA cb c, RowA wo 80 [.int .i64 dd, .int .i64 a, .int .i64 b, .int .i64 y], RowA xb 140 [.int .i64 P, .int .i64 (id : Int)]])) := F5.out.drew
  clear HS8' F5 HO5 HC
  cases bb with
  | false =>
    have hxv := HFS.out rfl
    have hpm := HPM.out
    rw [if_neg (fun e => by cases e.1)] at hpm
    rw [hpm] at hR
    subst hxv
    clear HFS HFZ HFJ hpm HPM
    generalize w5.drew = w6 at *
    go_wp2_with fail
    exact hR.out _ _ (Acted.of F6.out HOK.out (fun e => ⟨e, rfl⟩))
  | true =>
    by_cases hv : v = 0
    · subst hv
      have hxv := HFZ.out rfl rfl
      subst hxv
      have hpm := HPM.out
      rw [if_neg (fun e => e.2.1 rfl)] at hpm
      rw [hpm] at hR
      clear HFS HFZ HFJ hpm HPM
      generalize w5.drew = w6 at *
      go_wp2_with fail
      exact hR.out _ _ (Acted.of F6.out HOK.out (fun e => ⟨e, rfl⟩))
    · obtain ⟨j, rfl, hKj, hxj, hx0⟩ := HFJ.out rfl hv
      obtain ⟨kn, hkn⟩ : ∃ z, z = d.keeps.length := ⟨_, rfl⟩
      obtain ⟨_, _, c2, _, fz⟩ := Mdl.cells F6.out
      rw [HKV.out, ← hkn] at c2
      have f2 := fz 2
      have hpm := HPM.out
      rw [← hkn] at hpm hkl
      have hx0b : (xv == 0) = false := by rw [beq_eq_false_iff_ne]; exact hx0
      have hvb : ((j : Int) == 0) = false := by rw [beq_eq_false_iff_ne]; exact hv
      have HKN := Lib.hid hkn
      have HKJ := Lib.hid hKj
      have HXJ := Lib.hid hxj
      have hx0c : (xv != 0) = true := by simpa using hx0
      have hvc : ((j : Int) != 0) = true := by simpa using hv
      clear HFS HFZ HFJ HPM fz hkn hKj hxj
      generalize w5.drew = w6 at *
      by_cases h30 : kn < 30
      · have h30i : (kn : Int) < 30 := by omega
        rw [if_pos ⟨rfl, hv, h30⟩] at hpm
        have e9 : ((j : Int)).toNat = j := by omega
        rw [e9] at hpm
        rw [hpm] at hR
        clear hpm e9 hv hx0
        go_wp2_with (at_builtin; refine append_ke rfl _ _ rfl (.slice ka kn kc) d.keeps rfl ?p1 ⟨w6.heap.size, 0, none⟩ 1 1 [(xv, j)] rfl rfl ?p2 ?p3 ?p4)
        case p1 =>
          have := Mdl.ke (F6.out.alloc (.cells #[.int .i64 xv, .int .i64 (j : Int)] 140))
          rw [HKV.out, ← HKN.out] at this
          rw [← HKN.out]
          exact this
        case p2 => exact World.news_of_block (cs := #[.int .i64 xv, .int .i64 (j : Int)]) (t := 140) (fr := (0, 0)) (heap_alloc_new w6 _)
        case p3 => rw [← HKN.out]; omega
        case p4 =>
          intro v' w7 h1 h2 h3
          replace h1 : w7.ownsRow 0 140 2 v' (d.keeps ++ [(xv, j)]).length (keC (d.keeps ++ [(xv, j)])) := by rw [List.length_append]; exact h1
          obtain ⟨a2, m2, hv2⟩ := orow_len h1
          have e1 : (d.keeps ++ [(xv, j)]).length = kn + 1 := by rw [List.length_append, ← HKN.out]; rfl
          rw [e1] at hv2
          have F7 := F6.out.alloc (.cells #[.int .i64 xv, .int .i64 (j : Int)] 140)
          obtain ⟨⟨z2, z3⟩, F8⟩ := Mx.app2 (Mdl.toMx F7) h1 (by rw [HKV.out, ← HKN.out]; exact h2) (by rw [World.size_alloc, HKV.out, ← HKN.out]; exact h3)
          subst hv2
          rw [HKV.out, ← HKN.out] at z2
          have F9 := Lib.hid (Mdl.ofMx F8)
          have HST : Hid (St N ⟨d.slots, d.refs, d.keeps ++ [(xv, j)], d.lost⟩ K φ c) := ⟨HOK.out.sf.keeps fun p hp => by
            rcases List.mem_append.1 hp with h | h
            · exact .inl h
            · rw [List.mem_singleton] at h
              rw [h]
              exact .inr ⟨HKJ.out, HXJ.out⟩, HOK.out.ok, by show (d.keeps ++ [(xv, j)]).length ≤ 30; rw [e1]; omega, HOK.out.sl, HOK.out.ln⟩
          have HPE : Hid ((⟨d.slots, d.refs, d.keeps ++ [(xv, j)], d.lost⟩ : Md).pm = d.pm.keep j) := by
            show Pm.mk _ _ _ = _
            unfold Pm.keep Md.pm
            rw [List.map_append]
            rfl
          clear h1 h2 h3 F7 F8 e1 F6 c2 f2
          go_wp2_with fail
          exact hR.out _ _ (Acted.of F9.out HST.out (fun e => ⟨e, HPE.out⟩))
      · have h30i : ¬ (kn : Int) < 30 := by omega
        rw [if_neg (fun e => h30 e.2.2)] at hpm
        rw [hpm] at hR
        clear hpm hv hx0
        go_wp2_with fail
        exact hR.out _ _ (Acted.of F6.out HOK.out (fun e => ⟨e, rfl⟩))
end
end Go.Proofs.YthflghdaejbdkaaGreat
