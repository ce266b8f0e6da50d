/- Lemmas of this claim. -/
import Derived.Test.YtkjocehdbpekjaaGreatQArgs
import Derived.Test.YtkjocehdbpekjaaGreatQLib
import Derived.Test.YtkjocehdbpekjaaGreatQBModel
import Derived.Test.YtkjocehdbpekjaaGreatQRBlock
import Derived.Test.YtkjocehdbpekjaaGreatQQModel
import Derived.Test.YtkjocehdbpekjaaGreatQOModel
import Derived.Test.YtkjocehdbpekjaaGreatQBlock
import Derived.Test.YtkjocehdbpekjaaGreatQBlockJ
import Derived.Test.YtkjocehdbpekjaaGreatQOUndo
import Derived.Test.YtkjocehdbpekjaaGreatQInts
import Derived.Test.YtkjocehdbpekjaaGreatQOMaps
import Derived.Test.YtkjocehdbpekjaaGreatQObj
import Derived.Test.YtkjocehdbpekjaaGreatQObjD
import Derived.Test.YtkjocehdbpekjaaGreatQObjG
import Derived.Test.YtkjocehdbpekjaaGreatQOFull
import Derived.Test.YtkjocehdbpekjaaGreatQRBlockE
import Derived.Test.YtkjocehdbpekjaaGreatQRObj
import Derived.Test.YtkjocehdbpekjaaGreatQRObjH
import Derived.Test.YtkjocehdbpekjaaGreatQRObjK
import Derived.Test.YtkjocehdbpekjaaGreatQRObjL
import Derived.Test.YtkjocehdbpekjaaGreatQOArgs
import Derived.Test.YtkjocehdbpekjaaGreatQBSameB
import Derived.Test.YtkjocehdbpekjaaGreatIterLay
import Derived.Test.YtkjocehdbpekjaaGreatQOSeen
import Derived.Test.YtkjocehdbpekjaaGreatQReach
import Derived.Test.YtkjocehdbpekjaaGreatQMkMod
import Derived.Test.YtkjocehdbpekjaaGreatQMkMap
import Derived.Test.YtkjocehdbpekjaaGreatQMkP
import Derived.Test.YtkjocehdbpekjaaGreatQMkG
import Derived.Test.YtkjocehdbpekjaaGreatQTbMap
import Derived.Test.YtkjocehdbpekjaaGreatQTbP
import Derived.Test.YtkjocehdbpekjaaGreatQTbPB
import Derived.Test.YtkjocehdbpekjaaGreatQTbPC
import Derived.Test.YtkjocehdbpekjaaGreatQTbPD
import Derived.Test.YtkjocehdbpekjaaGreatQTbGood
import Derived.Test.YtkjocehdbpekjaaGreatQTbPF
import Derived.Test.YtkjocehdbpekjaaGreatQTbG
import Derived.Test.YtkjocehdbpekjaaGreatQRObjQ
import Derived.Test.YtkjocehdbpekjaaGreatQTbGB
import Derived.Test.YtkjocehdbpekjaaGreatQTbGC
import Derived.Test.YtkjocehdbpekjaaGreatQApp
import Derived.Test.YtkjocehdbpekjaaGreatQTbGD
import Derived.Test.YtkjocehdbpekjaaGreatQTbGE
import Derived.Test.YtkjocehdbpekjaaGreatQMkL
import Derived.Test.YtkjocehdbpekjaaGreatQRReach
import Derived.Test.YtkjocehdbpekjaaGreatQTbL
import Derived.Test.YtkjocehdbpekjaaGreatQTbDo
import Derived.Test.YtkjocehdbpekjaaGreatQTbArgs
import Derived.Test.YtkjocehdbpekjaaGreatQTbB
import Derived.Test.YtkjocehdbpekjaaGreatQTbPl
import Derived.Test.YtkjocehdbpekjaaGreatQTbPlays
namespace Go.Proofs.YtkjocehdbpekjaaGreat
open Go.RowKit Go.Maps
set_option maxHeartbeats 12800000
set_option maxRecDepth 100000
set_option linter.unusedVariables false
theorem tcopy_nil (w : World) : Calls Tryz.prog 23 #[.pointer none] w (Exact w (.pointer none)) := by
  refine calls_abs fun R hR => ?_
  have hn := tnone_nil w
  go_enter Tryz.func23, Tryz.ntmps23
  go_wp2_with fail
  refine hn.mono ?_
  rintro e _ ⟨rfl, rfl⟩
  go_wp2_with fail
  exact hR.out _ _ ⟨rfl, rfl⟩
theorem walk_RefsNothing (la : Option Addr) (ln lc : Nat) (f : Nat → Nat → Int) (ra : Option Addr) (rn rc : Nat) (g : Nat → Int) (d a b c : Int) (w : World) (hl : Recs 2 w la ln f) (hr : Numk w ra rn rc g) :
    Calls Tryz.prog 3 #[.agg #[.slice la ln lc, .slice ra rn rc], .agg #[.int .i64 d, .int .i64 a, .int .i64 b, .int .i64 c]] w fun e w' => e = .returned (.bool true) ∧ Below w.heap.size w w' := by
  refine calls_abs fun R hR => ?_
  have HF1 : Hid (Fam w ((w.alloc (.cells #[.slice la ln lc, .slice ra rn rc] 25)).alloc (.cells #[.int .i64 d, .int .i64 a, .int .i64 b, .int .i64 c] 27)) [RowA w.heap.size 25 [.slice la ln lc, .slice ra rn rc], RowA (w.alloc (.cells #[.slice la ln lc, .slice ra rn rc] 25)).heap.size 27 [.int .i64 d, .int .i64 a, .int .i64 b, .int .i64 c]]) := ((Fam.nil w).addRow 25 [.slice la ln lc, .slice ra rn rc]).addRow 27 [.int .i64 d, .int .i64 a, .int .i64 b, .int .i64 c]
  have HS := Lib.hid ((scr_of hl hr).only HF1.out.only)
  have HFIN : Hid (∀ w', Only [] w w' → Below w.heap.size w w') := fun w' h => h.bel
  clear hl hr
  rw [World.size_alloc] at HF1
  go_enter Tryz.func3, Tryz.ntmps3
  go_upto_region 1 with fail
  generalize (w.alloc (.cells #[.slice la ln lc, .slice ra rn rc] 25)).alloc (.cells #[.int .i64 d, .int .i64 a, .int .i64 b, .int .i64 c] 27) = w1 at *
  generalize w.heap.size = ws at *
  obtain ⟨h1, h2, h3, h4, h5⟩ := HS.out
  have c1 := lbegin_any w1 la ln lc f h1 ra rn rc (listF rn g) h2 h3 h4 h5
  clear h1 h2 h3 h4 h5
  go_wp2_with (refine wpList_load_agg rfl 25 _ rfl ws 0 rfl [.slice la ln lc, .slice ra rn rc] _ Tryz.underlying25 rfl sizeSt (row2_cells (HF1.out.row 0 rfl)) ?_)
  refine c1.mono ?_
  rintro e w2 ⟨bo, hb, q, p, r, tb, ub, M, rfl, _, hf⟩
  clear c1 HS
  have HT : Hid (∀ wx, Only [] w2 wx → wx.cell? ⟨tb, 0, none⟩ = some (.bool true)) := fun wx ho => by
    obtain ⟨_, _, _, ht⟩ := G7.tbat (hf.only0 ho)
    obtain ⟨U, h⟩ := ht.row
    exact h.cell 0 rfl
  have HL : Hid (∀ wx, Only [] w2 wx → Calls Tryz.prog 21 #[.pointer (some ⟨tb, 0, none⟩)] wx (Exact wx (.int .i64 0))) := fun wx ho => by
    obtain ⟨_, _, _, ht⟩ := G7.tbat (hf.only0 ho)
    exact tlen_rep wx ht
  have HO2 : Hid (Only [] w w2) := HF1.out.only.trans hf.only (by simp)
  have HB : Hid (∀ wx, Only [] w2 wx → wx.cell? ⟨bo, 2, none⟩ = some (.pointer (some ⟨p, 0, none⟩)) ∧ wx.cell? ⟨bo, 4, none⟩ = some (.pointer (some ⟨tb, 0, none⟩)) ∧ wx.cell? ⟨ws + 1, 1, none⟩ = some (.int .i64 a) ∧ wx.cell? ⟨ws + 1, 2, none⟩ = some (.int .i64 b) ∧ wx.cell? ⟨ws + 1, 3, none⟩ = some (.int .i64 c)) := fun wx ho => by
    have h := G7.row (hf.only0 ho)
    have ho2 : Only [] w1 wx := hf.only.trans ho (by simp)
    have h2 := ho2.row (HF1.out.row 1 rfl) (by simp)
    exact ⟨h.cell 2 rfl, h.cell 4 rfl, h2.cell 1 rfl, h2.cell 2 rfl, h2.cell 3 rfl⟩
  have OA := Lib.hid (Only.refl [] w2)
  clear hf HF1
  obtain ⟨b2, b4, o1, o2, o3⟩ := HB.out _ OA.out
  go_upto_region 5 with fail
  go_region_held3 (fun w' => w'.cell? ⟨bo, 2, none⟩ = some (.pointer (some ⟨p, 0, none⟩)) ∧ w'.cell? ⟨ws + 1, 1, none⟩ = some (.int .i64 a) ∧ w'.cell? ⟨ws + 1, 2, none⟩ = some (.int .i64 b) ∧ w'.cell? ⟨ws + 1, 3, none⟩ = some (.int .i64 c))
    (exact ⟨b2, o1, o2, o3⟩)
    (first | (go_at_call 14; refine (tadd_nil _ _ a b c).mono ?_; rintro e _ ⟨rfl, rfl⟩))
  have OB : Hid (Only [] w2 w2.drew) := (Only.refl [] w2).drew
  clear b2 b4 o1 o2 o3
  obtain ⟨b2, b4, o1, o2, o3⟩ := HB.out _ OB.out
  go_wp2_with fail
  refine (ttarget_nil _ a).mono ?_
  rintro e w3 ⟨rfl, ho⟩
  have OC := Lib.hid (OB.out.trans ho (by simp))
  clear b2 b4 o1 o2 o3 OA OB ho
  obtain ⟨b2, b4, o1, o2, o3⟩ := HB.out _ OC.out
  go_wp2_with fail
  refine (ttake_nil _).mono ?_
  rintro e _ ⟨rfl, rfl⟩
  go_wp2_with fail
  refine (tstep_nil _ _).mono ?_
  rintro e _ ⟨rfl, rfl⟩
  go_wp2_with fail
  refine (tfinish_nil _ _).mono ?_
  rintro e _ ⟨rfl, rfl⟩
  go_upto_region 10 with fail
  go_wp2_with fail
  refine (tbegin_nil _ _).mono ?_
  rintro e _ ⟨rfl, rfl⟩
  go_wp2_with fail
  refine (tphase_nil _).mono ?_
  rintro e _ ⟨rfl, rfl⟩
  go_wp2_with fail
  refine (tlen_nil _).mono ?_
  rintro e _ ⟨rfl, rfl⟩
  go_wp2_with fail
  refine (tqueue_nil _).mono ?_
  rintro e _ ⟨rfl, rfl⟩
  go_wp2_with fail
  refine (tcopy_nil _).mono ?_
  rintro e _ ⟨rfl, rfl⟩
  go_wp2_with fail
  go_region_held3 (fun w' => w'.cell? ⟨bo, 4, none⟩ = some (.pointer (some ⟨tb, 0, none⟩)) ∧ w'.cell? ⟨ws + 1, 1, none⟩ = some (.int .i64 a) ∧ w'.cell? ⟨ws + 1, 2, none⟩ = some (.int .i64 b) ∧ w'.cell? ⟨ws + 1, 3, none⟩ = some (.int .i64 c))
    (exact ⟨b4, o1, o2, o3⟩)
    (first | (go_at_call 14; refine (tadd_nilm _ (HT.out _ OC.out.drew) a b c).mono ?_; rintro e _ ⟨rfl, rfl⟩))
  have OD : Hid (Only [] w2 w3.drew) := OC.out.drew
  clear b2 b4 o1 o2 o3
  obtain ⟨b2, b4, o1, o2, o3⟩ := HB.out _ OD.out
  go_wp2_with fail
  refine (tstep_nilm _ (HT.out _ OD.out)).mono ?_
  rintro e _ ⟨rfl, rfl⟩
  go_wp2_with fail
  refine (tfinish_nilm _ (HT.out _ OD.out)).mono ?_
  rintro e _ ⟨rfl, rfl⟩
  go_wp2_with fail
  refine (tbegin_nilm _ (HT.out _ OD.out)).mono ?_
  rintro e _ ⟨rfl, rfl⟩
  go_wp2_with fail
  refine (HL.out _ OD.out).mono ?_
  rintro e _ ⟨rfl, rfl⟩
  go_wp2_with fail
  refine (ssane_any _).mono ?_
  rintro e w4 ⟨rfl, ho⟩
  have HE : Hid (Below ws w w4) := HFIN.out _ (HO2.out.trans (OD.out.trans ho (by simp)) (by simp))
  go_wp2_with fail
  exact hR.out _ _ ⟨rfl, HE.out⟩
end Go.Proofs.YtkjocehdbpekjaaGreat
