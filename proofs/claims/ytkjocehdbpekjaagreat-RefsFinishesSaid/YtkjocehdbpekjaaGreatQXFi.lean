/- Lemmas of this claim. -/
import Derived.Test.YtkjocehdbpekjaaGreatQArgs
import Derived.Test.YtkjocehdbpekjaaGreatQLib
import Derived.Test.YtkjocehdbpekjaaGreatQBModel
import Derived.Test.YtkjocehdbpekjaaGreatQRBlock
import Derived.Test.YtkjocehdbpekjaaGreatQQModel
import Derived.Test.YtkjocehdbpekjaaGreatQOModel
import Derived.Test.YtkjocehdbpekjaaGreatQBlock
import Derived.Test.YtkjocehdbpekjaaGreatQBlockJ
import Derived.Test.YtkjocehdbpekjaaGreatQOUndo
import Derived.Test.YtkjocehdbpekjaaGreatQInts
import Derived.Test.YtkjocehdbpekjaaGreatQOMaps
import Derived.Test.YtkjocehdbpekjaaGreatQObj
import Derived.Test.YtkjocehdbpekjaaGreatQObjD
import Derived.Test.YtkjocehdbpekjaaGreatQObjG
import Derived.Test.YtkjocehdbpekjaaGreatQOFull
import Derived.Test.YtkjocehdbpekjaaGreatQRBlockE
import Derived.Test.YtkjocehdbpekjaaGreatQRObj
import Derived.Test.YtkjocehdbpekjaaGreatQRObjH
import Derived.Test.YtkjocehdbpekjaaGreatQRObjK
import Derived.Test.YtkjocehdbpekjaaGreatQRObjL
import Derived.Test.YtkjocehdbpekjaaGreatQOArgs
import Derived.Test.YtkjocehdbpekjaaGreatQBSameB
import Derived.Test.YtkjocehdbpekjaaGreatIterLay
import Derived.Test.YtkjocehdbpekjaaGreatQOSeen
import Derived.Test.YtkjocehdbpekjaaGreatQReach
import Derived.Test.YtkjocehdbpekjaaGreatQMkMod
import Derived.Test.YtkjocehdbpekjaaGreatQMkMap
import Derived.Test.YtkjocehdbpekjaaGreatQMkP
import Derived.Test.YtkjocehdbpekjaaGreatQMkG
import Derived.Test.YtkjocehdbpekjaaGreatQTbMap
import Derived.Test.YtkjocehdbpekjaaGreatQTbP
import Derived.Test.YtkjocehdbpekjaaGreatQTbPB
import Derived.Test.YtkjocehdbpekjaaGreatQTbPC
import Derived.Test.YtkjocehdbpekjaaGreatQTbPD
import Derived.Test.YtkjocehdbpekjaaGreatQTbGood
import Derived.Test.YtkjocehdbpekjaaGreatQTbPF
import Derived.Test.YtkjocehdbpekjaaGreatQTbG
import Derived.Test.YtkjocehdbpekjaaGreatQRObjQ
import Derived.Test.YtkjocehdbpekjaaGreatQTbGB
import Derived.Test.YtkjocehdbpekjaaGreatQTbGC
import Derived.Test.YtkjocehdbpekjaaGreatQApp
import Derived.Test.YtkjocehdbpekjaaGreatQTbGD
import Derived.Test.YtkjocehdbpekjaaGreatQTbGE
import Derived.Test.YtkjocehdbpekjaaGreatQMkL
import Derived.Test.YtkjocehdbpekjaaGreatQRReach
import Derived.Test.YtkjocehdbpekjaaGreatQTbL
import Derived.Test.YtkjocehdbpekjaaGreatQTbDo
import Derived.Test.YtkjocehdbpekjaaGreatQTbArgs
import Derived.Test.YtkjocehdbpekjaaGreatQTbB
import Derived.Test.YtkjocehdbpekjaaGreatQTbPl
import Derived.Test.YtkjocehdbpekjaaGreatQTbPlays
import Derived.Maps.RangeWalk
import Derived.Maps.Ext
import Derived.WalkSpells
import Derived.OwnWalk
import Derived.Test.YtkjocehdbpekjaaGreatCloneLay
import Derived.Deep.AppendLies
namespace Go.Proofs.YtkjocehdbpekjaaGreat
set_option linter.unusedVariables false
section
variable {P : Pl} {c a : Int} {v : Nat → Int}
end
end Go.Proofs.YtkjocehdbpekjaaGreat
namespace Go.Proofs.YtkjocehdbpekjaaGreat
set_option linter.unusedVariables false
def Th.place (o : Th) (a : Int) : Nat := fst (fun k => gI o.blocks k == a) o.blocks.length
def Hp.owns (M : Hp) (a h : Int) : Bool := match M.ob h with | none => false | some o => decide (o.place a < o.blocks.length)
section
variable {M : Hp} {h : Int} {o : Th}
end
end Go.Proofs.YtkjocehdbpekjaaGreat
namespace Go.Proofs.YtkjocehdbpekjaaGreat
set_option linter.unusedVariables false
section
variable {M : Hp} {h : Int} {o : Th}
end
end Go.Proofs.YtkjocehdbpekjaaGreat
namespace Go.Proofs.YtkjocehdbpekjaaGreat
set_option linter.unusedVariables false
section
variable {M : Hp} {h : Int} {o : Th}
end
end Go.Proofs.YtkjocehdbpekjaaGreat
namespace Go.Proofs.YtkjocehdbpekjaaGreat
set_option linter.unusedVariables false
section
variable {M : Hp} {h : Int} {o : Th}
end
end Go.Proofs.YtkjocehdbpekjaaGreat
namespace Go.Proofs.YtkjocehdbpekjaaGreat
open Go.RowKit Go.Maps
set_option maxHeartbeats 1600000
set_option maxRecDepth 100000
set_option linter.unusedVariables false
section
variable {S S' : Nat → Prop} {a b w w' : World}
end
theorem mkP_inj {a b : Option Nat} (h : mkP a = mkP b) : a = b := by
  cases a <;> cases b <;> simp_all [mkP]
section
variable {w w' : World} {mb n : Nat} {f : Int → Option Nat}
end
theorem sameI (j k : Int) (hk : wfI k) : (Lit.int .i64 j).sameKey (.int .i64 k) = decide (j = k) := by
  by_cases e : j = k
  · subst e; rw [WideAt.sameKey_self (isKeyI j hk)]; simp
  · rw [Maps.sameKey_ne (ne_key e)]; simp [e]
section
variable {w : World} {ops : Array Oper} {rest : List Oper} {o : Oper} {a : Act} {Q : Exit → Act → World → Prop}
theorem wpList_next_things (hg : o.guard = none) (it : Operand) (hop : o.op = Op.next it false) (b r n : Nat) (D : DataW Unit) (left : Lit → Bool) (cnt : Nat) (f : Int → Option Nat) (hd : DatIs D f)
    (hit : a.eval it = .pointer (some ⟨r, 0, none⟩)) (h : w.ranges Tryz.prog 3 ptrElem b r n D left cnt)
    (hDone : cnt = 0 → (∀ kl, left kl = false) → wpList Tryz.prog ops Q rest (a.put o.dst (.tuple #[.bool false])) w)
    (hMore : ∀ (k : Int) (c : Nat) (w' : World) (cnt' : Nat), wfI k → left (.int .i64 k) = true → f k = some c → w'.ranges Tryz.prog 3 ptrElem b r n D (fun z => left z && !z.sameKey (.int .i64 k)) cnt' → cnt' < cnt →
      w.grownBy w' (some r) → w'.heap.size = w.heap.size → (Instr.entry (.pointer (some ⟨r, 0, none⟩))).run Tryz.prog w' = .ok (.tuple #[.int .i64 k, .pointer (some ⟨c, 0, none⟩)]) w' → wpList Tryz.prog ops Q rest (a.put o.dst (.tuple #[.bool true, .int .i64 k, .pointer (some ⟨c, 0, none⟩)])) w') :
    wpList Tryz.prog ops Q (o :: rest) a w := by
  refine wpList_next_ranges w hg it hop 3 keyedI ptrElem (Value.int .i64) mkP (fun key kl hkey => by obtain ⟨x, rfl, _⟩ := Maps.keyOf_int_inv Tryz.underlying3 hkey; exact ⟨x, rfl⟩) (fun v y hv => by obtain ⟨c, rfl, _⟩ := ptrElem_inv hv; exact ⟨c, rfl⟩)
    b r n D left cnt hit h hDone (fun x c kl y w' cnt' hkey hlk hv hat hrg hlt hgr hsz hen => ?_)
  obtain ⟨x', ex, rfl, hwx⟩ := Maps.keyOf_int_inv Tryz.underlying3 hkey
  cases ex
  obtain ⟨c', ec, rfl⟩ := ptrElem_inv hv
  obtain rfl := mkP_inj ec
  obtain ⟨bb, rfl, hf⟩ := hd.at hwx hat
  exact hMore x bb w' cnt' hwx hlk hf hrg hlt hgr hsz hen
end
theorem ranges_only {w w' : World} {S : Nat → Prop} {b r n : Nat} {D : DataW Unit} {left : Lit → Bool} {cnt : Nat} (h : w.ranges Tryz.prog 3 ptrElem b r n D left cnt) (ho : OnlyP S w w') (hb : ¬ S b) (hr : ¬ S r) : w'.ranges Tryz.prog 3 ptrElem b r n D left cnt := by
  have h1 := h.owns.lt
  have h2 := h.lt
  obtain ⟨es, clock, since, seen, c0, hb', F, hs, hD, hr', rest⟩ := h
  exact ⟨es, clock, since, seen, c0, (ho.block b h1 hb).trans hb', F, hs, hD, (ho.block r h2 hr).trans hr', rest⟩
section
variable {w : World} {m1 m2 n1 n2 : Nat} {D1 D2 : DataW Unit} {f1 f2 : Int → Option Nat} {g : Int → Bool}
end
theorem MapAt.tight {w w2 : World} {mb n mb2 m : Nat} {f f0 : Int → Option Nat} (h : MapAt w mb n f) (h0 : MapAt w2 mb2 m f0) (hs : ∀ k, wfI k → (f k).isSome = true → (f0 k).isSome = true) : MapAt w mb m f := by
  obtain ⟨D, hD, hf⟩ := h
  obtain ⟨D0, hD0, hf0⟩ := h0
  refine ⟨D, ?_, hf⟩
  have h1 := (size_sub (hD.canon keyedI) (hD0.canon keyedI) (has_sub hD hf hf0 hs)).1
  have h2 := hD0.size_le
  obtain ⟨es, clock, hb, F, hn, rfl⟩ := hD
  have e1 : Maps.size (DataW.map ((es.toList.map (WideElems.rg Tryz.prog 3 ptrElem)).foldr DataW.insert [])) = es.size := by simp [Maps.size, length_sorted]
  exact ⟨es, clock, hb, F, by omega, rfl⟩
end Go.Proofs.YtkjocehdbpekjaaGreat
namespace Go.Proofs.YtkjocehdbpekjaaGreat
open Go.RowKit
set_option maxHeartbeats 1600000
set_option maxRecDepth 100000
set_option linter.unusedVariables false
section
variable {S : Nat → Prop} {w w' : World}
end
end Go.Proofs.YtkjocehdbpekjaaGreat
namespace Go.Proofs.YtkjocehdbpekjaaGreat
open Go.RowKit Go.Maps
set_option maxHeartbeats 3200000
set_option maxRecDepth 100000
set_option linter.unusedVariables false
section
variable {L : Nat → Option Lb} {hb : Nat} {M : Hp} {X : HX}
end
end Go.Proofs.YtkjocehdbpekjaaGreat
namespace Go.Proofs.YtkjocehdbpekjaaGreat
open Go.RowKit Go.Maps
set_option maxHeartbeats 3200000
set_option maxRecDepth 100000
set_option linter.unusedVariables false
section
variable {w w' : World} {L : Nat → Option Lb} {hb : Nat} {M : Hp} {X : HX}
end
end Go.Proofs.YtkjocehdbpekjaaGreat
namespace Go.Proofs.YtkjocehdbpekjaaGreat
open Go.RowKit Go.Maps
set_option maxHeartbeats 3200000
set_option maxRecDepth 100000
set_option linter.unusedVariables false
theorem Bls.barg {w : World} {base : Nat} {v : Value} {l : List Bool} (h : Bls w base v l) : BArg w v l := by
  rcases h.form with h | ⟨g, cap, h1, _, _, _, h2⟩
  · exact .inl h
  · exact .inr ⟨_, cap, h1, fun i hi => by rw [addr_add, Nat.zero_add]; exact h2 i hi⟩
section
variable {w w' : World} {L : Nat → Option Lb} {hb : Nat} {M : Hp} {X : HX}
theorem HRep.putTh {P : Pl} {ob : Int → Option Th} (h : HRep w L hb ⟨P, ob⟩ X) {k : Int} {b : Nat} {rv bv : Value} {t : Th} (hg : OnlyP (fun j => L j = some .map) w w') (hmp : MapAt w' X.mb 192 (fun j => if j = k then some b else (ob j).map fun _ => X.blk j))
    (hb1 : w.heap.size ≤ b) (hb2 : b < w'.heap.size) (hr : ∃ T, Row w' b T (thRow t rv bv)) (hrv : Bls w' w.heap.size rv t.rlist) (hbv : Ints w' w.heap.size bv t.blocks)
    (d1 : ∀ g, rv.ownBlock = some g → g ≠ b) (d2 : ∀ g, bv.ownBlock = some g → g ≠ b ∧ rv.ownBlock ≠ some g) :
    ∃ L' X', HRep w' L' hb ⟨P, setT ob k (some t)⟩ X' ∧ (∀ j, L' j ≠ none → L j ≠ none ∨ w.heap.size ≤ j) ∧ X'.mb = X.mb := by
  obtain ⟨L', hL'⟩ : ∃ L' : Nat → Option Lb, L' = fun j => if j = b then some (.th k) else if rv.ownBlock = some j then some (.rb k) else if bv.ownBlock = some j then some (.bl k) else L j := ⟨_, rfl⟩
  have hlab : ∀ j, L j ≠ none → L' j = L j := fun j hj => by
    rw [hL']
    have := h.lt j hj
    simp only
    rw [if_neg (by omega), if_neg (fun e => by have := (hrv.own j e).1; omega), if_neg (fun e => by have := (hbv.own j e).1; omega)]
  have hnew : ∀ j, L' j ≠ none → L j ≠ none ∨ (w.heap.size ≤ j ∧ j < w'.heap.size) := fun j hj => by
    rw [hL'] at hj
    simp only at hj
    by_cases e : j = b
    · rw [e]; exact .inr ⟨hb1, hb2⟩
    · rw [if_neg e] at hj
      by_cases e2 : rv.ownBlock = some j
      · exact .inr (hrv.own j e2)
      · rw [if_neg e2] at hj
        by_cases e3 : bv.ownBlock = some j
        · exact .inr (hbv.own j e3)
        · rw [if_neg e3] at hj; exact .inl hj
  have hne : ∀ j ℓ, ℓ ≠ Lb.map → L j = some .map → L j ≠ some ℓ := fun j ℓ h1 hj e => by rw [hj] at e; cases e; exact h1 rfl
  refine ⟨L', { X with blk := fun j => if j = k then b else X.blk j, rv := fun j => if j = k then rv else X.rv j, bv := fun j => if j = k then bv else X.bv j }, ⟨fun j hj => ?_, ?_, lab_of hlab h.Lm, h.pool.onlyP hg (fun y => hne _ .pool (by simp) y h.Lpp) (fun y => hne _ .pages (by simp) y h.Lpb), lab_of hlab h.Lpp, lab_of hlab h.Lpb, ?_, lab_of hlab h.Lp, fun j u hj => ?_⟩, fun j hj => (hnew j hj).imp id (fun e => e.1), rfl⟩
  · rcases hnew j hj with e | e
    · exact Nat.lt_of_lt_of_le (h.lt j e) hg.size
    · exact e.2
  · obtain ⟨T, hrow⟩ := h.mem
    exact ⟨T, hg.row hrow (fun x => hne hb .mem (by simp) x h.Lm)⟩
  · refine hmp.congr (fun j => ?_)
    show _ = (setT ob k (some t) j).map fun _ => if j = k then b else X.blk j
    by_cases e : j = k
    · rw [e, setT_same, if_pos rfl, if_pos rfl]; rfl
    · rw [setT_other _ _ e, if_neg e, if_neg e]
  · show ThAt w' L' j (if j = k then b else X.blk j) (if j = k then rv else X.rv j) (if j = k then bv else X.bv j) u
    rcases setT_some hj with ⟨rfl, rfl⟩ | ⟨e, hj'⟩
    · rw [if_pos rfl, if_pos rfl, if_pos rfl]
      refine ⟨hr, by rw [hL']; simp, hrv.base (Nat.zero_le _), fun g hgv => ?_, hbv.base (Nat.zero_le _), fun g hgv => ?_⟩
      · rw [hL']; simp [d1 g hgv, hgv]
      · obtain ⟨a1, a2⟩ := d2 g hgv
        rw [hL']; simp [a1, a2, hgv]
    · rw [if_neg e, if_neg e, if_neg e]
      exact ((h.th j u hj').only hg (fun x hx => ⟨hne x _ (by simp) hx, hne x _ (by simp) hx, hne x _ (by simp) hx⟩)).lab hlab
end
end Go.Proofs.YtkjocehdbpekjaaGreat
namespace Go.Proofs.YtkjocehdbpekjaaGreat
open Go.RowKit Go.Maps
set_option maxHeartbeats 3200000
set_option maxRecDepth 100000
set_option linter.unusedVariables false
def partT (ob : Int → Option Th) (left : Lit → Bool) (k : Int) : Option Th := if left (.int .i64 k) then none else ob k
theorem only_d1 (w : World) : Only [] w w.drew := (Only.refl [] w).drew
section
variable {L : Nat → Option Lb} {hb : Nat} {M : Hp} {X : HX}
theorem hcopy_rep (w : World) (h : HRep w L hb M X) (hk : M.Ok) : Calls Tryz.prog 115 #[.pointer (some ⟨hb, 0, none⟩)] w fun e w' =>
    ∃ q L' X', e = .returned (.pointer (some ⟨q, 0, none⟩)) ∧ HRep w' L' q M X' ∧ (∀ k, L' k ≠ none → w.heap.size ≤ k) ∧ Only [] w w' := by
  refine calls_abs fun R hR => ?_
  have h1 := hnone_rep w h
  have c0 := h.cells.1
  have hcp := copy_rep w X.pp X.pb M.P h.pool
  have hmm := @run_makeMap Tryz.prog
  have H := Lib.hid h
  have HK := Lib.hid hk
  clear h hk
  go_enter Tryz.func115, Tryz.ntmps115
  go_wp2_with fail
  refine h1.mono ?_
  rintro e _ ⟨rfl, rfl⟩
  clear h1
  go_wp2_with fail
  refine hcp.mono ?_
  rintro e w3 ⟨p, b, rfl, hp, ho, hp1, hb1⟩
  obtain ⟨_, _, _, _, f1, f2⟩ := hp.facts
  have hp5 : PRep ((w3.alloc (.map #[] 0)).alloc (.cells #[.pointer (some ⟨p, 0, none⟩), .map (some w3.heap.size)] 129)) p b M.P := hp.only (((Only.refl [] w3).alloc _).alloc _) (by simp) (by simp)
  have hrow : Row ((w3.alloc (.map #[] 0)).alloc (.cells #[.pointer (some ⟨p, 0, none⟩), .map (some w3.heap.size)] 129)) (w3.heap.size + 1) 129 [.pointer (some ⟨p, 0, none⟩), .map (some w3.heap.size)] := by
    have := Row.new (w3.alloc (.map #[] 0)) 129 [.pointer (some ⟨p, 0, none⟩), .map (some w3.heap.size)]
    rwa [World.size_alloc] at this
  have hmap : MapAt ((w3.alloc (.map #[] 0)).alloc (.cells #[.pointer (some ⟨p, 0, none⟩), .map (some w3.heap.size)] 129)) w3.heap.size 0 (fun _ => none) := (MapAt.made w3).only ((OnlyP.refl (fun _ => False) _).alloc _) (fun x => x)
  have hO : Only [] w ((w3.alloc (.map #[] 0)).alloc (.cells #[.pointer (some ⟨p, 0, none⟩), .map (some w3.heap.size)] 129)) := (ho.alloc _).alloc _
  have hsz := ho.size
  obtain ⟨L1, X1, q1, q2, q3⟩ := HRep.start (v := w.heap.size) hp5 hrow hmap hp1 hb1 (by omega) (by omega) (by omega) (by omega) (by omega) (by omega) (by omega)
  have HQ1 := Lib.hid q1
  have HQ2 := Lib.hid q2
  have HO := Lib.hid hO
  obtain ⟨D0, hown, hdat0⟩ := (H.out.only0 HO.out).mp
  have hdat : DatIs D0 (fun k => (M.ob k).map fun _ => X.blk k) := hdat0
  have HD := Lib.hid hdat
  have HMP := Lib.hid H.out.mp
  have HXM : Hid (X.mb < w.heap.size) := H.out.mp.lt
  have m6 := (H.out.only0 HO.out).cells.2.1
  obtain ⟨mb, hmb⟩ : ∃ m, m = X.mb := ⟨_, rfl⟩
  rw [← hmb] at m6 hown HXM HMP
  have OWN := Lib.hid hown
  clear hcp hp hp5 hrow hmap hO q1 q2 q3 hp1 hb1 f1 f2 hsz ho c0 hdat hdat0 hown hmb
  go_wp2_with (at_range; generalize ((w3.alloc (.map #[] 0)).alloc (.cells #[.pointer (some ⟨p, 0, none⟩), .map (some w3.heap.size)] 129)) = wq at *; generalize w3.heap.size + 1 = q at *; refine wpList_range_own _ rfl _ 127 rfl 3 125 keyedI Tryz.underlying127 ptrElem mb 192 D0 rfl OWN.out ?_; intro w4 hrg0 hg0 hs0)
  go_frame
  obtain ⟨ri, hri⟩ : ∃ r, r = wq.heap.size := ⟨_, rfl⟩
  rw [← hri] at hrg0 ⊢
  have HRI : Hid (w.heap.size ≤ ri) := by show _ ≤ _; rw [hri]; exact HO.out.size
  have HLR : Hid (L1 ri = none) := by
    show _ = _
    cases e : L1 ri with
    | none => rfl
    | some ℓ => have := HQ1.out.lt ri (by rw [e]; simp); omega
  have HP4 : Hid (HRep w4 L1 q ⟨M.P, fun _ => none⟩ X1) := HQ1.out.only (S := fun _ => False) ((OnlyP.refl _ wq).grown hg0 (fun k hk => by cases hk)) (fun _ x => x.elim)
  have HO4 : Hid (Only [] w w4) := HO.out.grown hg0 (fun k hk => by cases hk)
  clear hri hg0 hs0 m6 hmm
  go_loopw [6] (fun _ wr => ∃ left cnt L1 X1, wr.ranges Tryz.prog 3 ptrElem mb ri 192 D0 left cnt ∧ HRep wr L1 q ⟨M.P, partT M.ob left⟩ X1 ∧ Hid (∀ j, L1 j ≠ none → w.heap.size ≤ j) ∧ Hid (L1 ri = none) ∧ Only [] w wr) (fun _ wr => wr.rangeLeft mb ri)
  case atStart =>
    refine ⟨_, _, L1, X1, hrg0, ?_, HQ2, HLR, HO4.out⟩
    have e : partT M.ob (Maps.has D0) = fun _ => none := by
      funext k
      unfold partT
      cases ho : M.ob k with
      | none => simp
      | some t =>
        have h1 := HK.out.hr k t ho
        have := (HD.out k (wfI_mk (k := k) (by omega))).1
        simp only [ho] at this
        rw [if_pos (by rw [this]; rfl)]
    rw [e]
    exact HP4.out
  case round =>
    clear hrg0 HP4 HO4 HLR HQ2 HQ1 HO L1 X1 OWN
    obtain ⟨left, cnt, L1, X1, hrg, hP, HQ2, HLR, hO⟩ := hrel
    have HRG := Lib.hid hrg
    have HP := Lib.hid hP
    have HO := Lib.hid hO
    clear hrg hP hO
    go_wp2_with (at_next; refine wpList_next_things rfl _ rfl mb ri 192 D0 left cnt _ HD.out rfl HRG.out ?_ ?_)
    · intro _ hl0
      have HL0 := Lib.hid hl0
      clear hl0
      go_wp2_with fail
      refine hR.out _ _ ⟨q, L1, X1, rfl, ?_, HQ2.out, HO.out⟩
      have e : (⟨M.P, partT M.ob left⟩ : Hp) = M := by
        have : partT M.ob left = M.ob := by
          funext k
          unfold partT
          rw [if_neg (by rw [HL0.out]; simp)]
        rw [this]
      rw [← e]
      exact HP.out
    · intro k c w5 cnt5 hwk hlk t ht hc hrg5 hlt hg5 hs5 hen
      have O5 : OnlyP (· = ri) wr w5 := (OnlyP.refl _ wr).grown hg5 (fun j hj => by cases hj; exact .inl rfl)
      have QO5 : Only [] w w5 := HO.out.grown hg5 (fun j hj => by cases hj; exact .inr HRI.out)
      have P5 : HRep w5 L1 q ⟨M.P, partT M.ob left⟩ X1 := HP.out.only O5 (fun x hx => by rw [hx]; exact HLR.out)
      obtain ⟨⟨T, hrow⟩, _, hrb, _, hbl, _⟩ := (H.out.only0 QO5).th k t ht
      have hrow : Row w5 c T (thRow t (X.rv k) (X.bv k)) := by rw [← hc]; exact hrow
      have c0 : w5.cell? ⟨c, 0, none⟩ = _ := hrow.cell 0 rfl
      have c1 : w5.cell? ⟨c, 1, none⟩ = _ := hrow.cell 1 rfl
      have c2 : w5.cell? ⟨c, 2, none⟩ = _ := hrow.cell 2 rfl
      have c3 : w5.cell? ⟨c, 3, none⟩ = _ := hrow.cell 3 rfl
      have c4 : w5.cell? ⟨c, 4, none⟩ = _ := hrow.cell 4 rfl
      obtain ⟨a3, b3, hv3⟩ := hrb.len
      obtain ⟨a4, b4, hv4⟩ := hbl.len
      obtain ⟨n3, hn3⟩ : ∃ z, z = t.rlist.length := ⟨_, rfl⟩
      obtain ⟨n4, hn4⟩ : ∃ z, z = t.blocks.length := ⟨_, rfl⟩
      obtain ⟨kd, hkd⟩ : ∃ z, z = t.kind := ⟨_, rfl⟩
      obtain ⟨cl, hcl⟩ : ∃ z, z = t.cls := ⟨_, rfl⟩
      obtain ⟨ln, hln⟩ : ∃ z, z = t.slots.length := ⟨_, rfl⟩
      rw [← hn3] at hv3
      rw [← hn4] at hv4
      rw [hv3] at c3
      rw [hv4] at c4
      rw [← hkd] at c0
      rw [← hcl] at c1
      rw [← hln] at c2
      have hmeas : cnt5 < wr.rangeLeft mb ri := by rw [HRG.out.left_eq]; exact hlt
      have HP5 := Lib.hid P5
      have HO5 := Lib.hid QO5
      have HWK : Hid (wfI k) := hwk
      have HT := Lib.hid ht
      have HRG5 := Lib.hid hrg5
      have HRI5 : Hid (ri < w5.heap.size) := hrg5.lt
      have HC := Lib.hid hc
      have HRB := Lib.hid hrb
      have HBL := Lib.hid hbl
      have HV3 := Lib.hid hv3
      have HV4 := Lib.hid hv4
      have HN3 := Lib.hid hn3
      have HN4 := Lib.hid hn4
      have HKD := Lib.hid hkd
      have HCL := Lib.hid hcl
      have HLN := Lib.hid hln
      clear O5 QO5 P5 hrow hrb hbl hwk ht hc hrg5 hlk hlt hg5 hs5 hv3 hv4 hn3 hn4 hkd hcl hln
      go_wp2_with fail
      have hrow6 : Row (w5.alloc (.cells #[.int .i64 kd, .int .i64 cl, .int .i64 ln, .slice a3 n3 b3, .slice a4 n4 b4] 151)) w5.heap.size 151 [.int .i64 kd, .int .i64 cl, .int .i64 ln, .slice a3 n3 b3, .slice a4 n4 b4] := Row.new w5 _ [_, _, _, _, _]
      have QO6 : Hid (Only [] w5 (w5.alloc (.cells #[.int .i64 kd, .int .i64 cl, .int .i64 ln, .slice a3 n3 b3, .slice a4 n4 b4] 151))) := (Only.refl [] w5).alloc _
      have hsz6 : (w5.alloc (.cells #[.int .i64 kd, .int .i64 cl, .int .i64 ln, .slice a3 n3 b3, .slice a4 n4 b4] 151)).heap.size = w5.heap.size + 1 := by simp
      have hclt : c < w5.heap.size := World.block_lt_of_cell? w5 _ c3
      generalize (w5.alloc (.cells #[.int .i64 kd, .int .i64 cl, .int .i64 ln, .slice a3 n3 b3, .slice a4 n4 b4] 151)) = w6 at *
      obtain ⟨y, hy⟩ : ∃ z, z = w5.heap.size := ⟨_, rfl⟩
      rw [← hy] at hrow6 hsz6 hclt ⊢
      have HY := Lib.hid hy
      have HSZ6 := Lib.hid hsz6
      have HROW6 := Lib.hid hrow6
      have e3 : w6.drew.cell? ⟨c, 3, none⟩ = some (.slice a3 n3 b3) := QO6.out.cellN c3
      have e4 : w6.drew.cell? ⟨c, 4, none⟩ = some (.slice a4 n4 b4) := QO6.out.cellN c4
      have hcy : y ≠ c := by omega
      have HCB : Hid (∀ wx, Only [] w6 wx → Calls Tryz.prog 131 #[.slice a3 n3 b3] wx (fun e w' => ∃ v', e = .returned v' ∧ Bls w' wx.heap.size v' t.rlist ∧ Only [] wx w')) := fun wx hox => by
        have h3 := HRB.out
        rw [HV3.out] at h3
        have := (HK.out.th k t HT.out)
        exact clone_barg wx _ _ (h3.barg.only (QO6.out.trans hox (by simp))) (by have h4 := this.le; have h5 := this.rl; unfold Th.rlist; split <;> simp; omega)
      have HCI : Hid (∀ wx, Only [] w6 wx → Calls Tryz.prog 73 #[.slice a4 n4 b4] wx (fun e w' => ∃ v', e = .returned v' ∧ Ints w' wx.heap.size v' t.blocks ∧ Only [] wx w')) := fun wx hox => by
        have h3 := HBL.out
        rw [HV4.out] at h3
        exact clone_ownI wx _ _ (h3.only (QO6.out.trans hox (by simp)) (by simp)) (by have := (HK.out.blen HT.out).2.1; omega)
      have HYC : Hid (∀ wx, Only [] w6 wx → wx.cell? ⟨y, 3, none⟩ = some (.slice a3 n3 b3) ∧ wx.cell? ⟨y, 4, none⟩ = some (.slice a4 n4 b4) ∧ wx.frozen? ⟨y, 3, none⟩ = false ∧ wx.frozen? ⟨y, 4, none⟩ = false) := fun wx hox => by
        have := hox.row HROW6.out (by simp)
        exact ⟨this.cell 3 rfl, this.cell 4 rfl, this.free 3, this.free 4⟩
      have QD6 : Hid (Only [] w6 w6.drew) := (Only.refl [] w6).drew
      clear hy hsz6 hrow6 c0 c1 c2 c3 c4 hclt hen
      go_region_held3 (fun w' => w'.cell? ⟨c, 3, none⟩ = some (.slice a3 n3 b3) ∧ w'.cell? ⟨c, 4, none⟩ = some (.slice a4 n4 b4))
        (first
          | (exact ⟨e3, e4⟩)
          | (exact ⟨ho7.cellN e3, ho7.cellN e4⟩)
          | (exact ⟨k3, k4⟩)
          | (exact ⟨(World.cell?_setCell_far _ _ _ _ hcy).trans k3, (World.cell?_setCell_far _ _ _ _ hcy).trans k4⟩)
          | (exact ⟨(World.cell?_setCell_far _ _ _ _ hcy).trans ((World.cell?_setCell_far _ _ _ _ hcy).trans k3), (World.cell?_setCell_far _ _ _ _ hcy).trans ((World.cell?_setCell_far _ _ _ _ hcy).trans k4)⟩))
        (first
          | (go_at_call 131; refine (HCB.out _ QD6.out).mono ?_; rintro e w7 ⟨v7, rfl, hi7, ho7⟩; obtain ⟨va7, vc7, hv7⟩ := hi7.len; obtain ⟨n7, hn7⟩ : ∃ z, z = t.rlist.length := ⟨_, rfl⟩; rw [← hn7] at hv7; subst hv7; have HI7 := Lib.hid hi7; clear hi7 hn7)
          | (go_at_call 73; refine (HCI.out _ (QD6.out.trans ho7 (by simp))).mono ?_; rintro e w8 ⟨v8, rfl, hi8, ho8⟩; obtain ⟨va8, vc8, hv8⟩ := hi8.len; obtain ⟨n8, hn8⟩ : ∃ z, z = t.blocks.length := ⟨_, rfl⟩; rw [← hn8] at hv8; subst hv8; have HI8 := Lib.hid hi8; have k3 := ho8.cellN (ho7.cellN e3); have k4 := ho8.cellN (ho7.cellN e4); obtain ⟨y3, y4, y5, y6⟩ := HYC.out w8 ((QD6.out.trans ho7 (by simp)).trans ho8 (by simp)); clear hi8 hn8))
      have O68 : Only [] w6 w8 := (QD6.out.trans ho7 (by simp)).trans ho8 (by simp)
      have hsz6 := HSZ6.out
      have hs7 : w6.heap.size ≤ w7.heap.size := ho7.size
      have hs8 : w7.heap.size ≤ w8.heap.size := ho8.size
      have own7 := HI7.out.own
      have own8 := HI8.out.own
      have hyw := HY.out
      have row8 := O68.row HROW6.out (by simp)
      have row9 : Row ((w8.setCell ⟨y, 3, none⟩ (.slice va7 n7 vc7)).setCell ⟨y, 4, none⟩ (.slice va8 n8 vc8)) y 151 [.int .i64 kd, .int .i64 cl, .int .i64 ln, .slice va7 n7 vc7, .slice va8 n8 vc8] := (row8.set 3 _).set 4 _
      have O89 : Only [y] w8 ((w8.setCell ⟨y, 3, none⟩ (.slice va7 n7 vc7)).setCell ⟨y, 4, none⟩ (.slice va8 n8 vc8)) := ((Only.refl [y] w8).set (.inl (by simp)) _).set (.inl (by simp)) _
      have i7 : Bls ((w8.setCell ⟨y, 3, none⟩ (.slice va7 n7 vc7)).setCell ⟨y, 4, none⟩ (.slice va8 n8 vc8)) w6.heap.size (.slice va7 n7 vc7) t.rlist := (HI7.out.only ho8 (by simp)).only O89 (fun g hg => by have : w6.heap.size ≤ g := (own7 g hg).1; simp; omega)
      have i8 : Ints ((w8.setCell ⟨y, 3, none⟩ (.slice va7 n7 vc7)).setCell ⟨y, 4, none⟩ (.slice va8 n8 vc8)) w7.heap.size (.slice va8 n8 vc8) t.blocks := HI8.out.only O89 (fun g hg => by have := (own8 g hg).1; simp; omega)
      generalize ((w8.setCell ⟨y, 3, none⟩ (.slice va7 n7 vc7)).setCell ⟨y, 4, none⟩ (.slice va8 n8 vc8)) = w9 at *
      have O59 : Only [] w5 w9 := (QO6.out.trans O68 (by simp)).trans O89 (fun x hx => .inr (by simp at hx; omega))
      have P9 := HP5.out.only0 O59
      have q1 := P9.cells.2.1
      obtain ⟨w10, hrun10, hm10, hg10⟩ := MapAt.store (b := y) P9.mp (by omega) HWK.out
      have O9 : OnlyP (· = X1.mb) w9 w10 := (OnlyP.refl _ w9).grown hg10 (fun j hj => by cases hj; exact .inl rfl)
      have O510 : OnlyP (fun j => L1 j = some .map) w5 w10 := (O59.toP0 (S := fun j => L1 j = some .map)).trans O9 (fun x hx => .inl (by rw [hx]; exact HP5.out.Lp))
      have hmlt : X1.mb < w5.heap.size := HP5.out.lt _ (by rw [HP5.out.Lp]; simp)
      have hm11 : MapAt w10 X1.mb 192 (fun j => if j = k then some y else (partT M.ob left j).map fun _ => X1.blk j) := MapAt.tight hm10 HMP.out (fun j hj hs => by
        by_cases e : j = k
        · rw [e, HT.out]; rfl
        · simp only [e, if_false] at hs
          unfold partT at hs
          split at hs
          · simp at hs
          · cases ho : M.ob j with
            | none => rw [ho] at hs; cases hs
            | some u => rfl)
      have hs9 := O89.size
      obtain ⟨L2, X2, r1, r2, r3⟩ := HP5.out.putTh (w' := w10) (k := k) (b := y) (rv := .slice va7 n7 vc7) (bv := .slice va8 n8 vc8) (t := t) O510 hm11 (by omega) (by have := O9.size; have := row9.lt; omega)
        ⟨151, by
          have := O9.row row9 (by intro e; omega)
          unfold thRow
          rw [← HKD.out, ← HCL.out, ← HLN.out]
          exact this⟩ ((i7.onlyP O9 (fun g hg e => by have : w6.heap.size ≤ g := (own7 g hg).1; omega)).base (by omega)) ((i8.onlyP O9 (fun g hg e => by have := (own8 g hg).1; omega)).base (by omega))
        (fun g hg => by have : w6.heap.size ≤ g := (own7 g hg).1; omega) (fun g hg => ⟨by have := (own8 g hg).1; omega, fun e => by have := (own7 g e).2; have := (own8 g hg).1; omega⟩)
      have HR1 := Lib.hid r1
      have HR2 : Hid (∀ j, L2 j ≠ none → w.heap.size ≤ j) := fun j hj => by
        rcases r2 j hj with h1 | h1
        · exact HQ2.out j h1
        · have := HO5.out.size; omega
      have HR3 : Hid (L2 ri = none) := by
        show _ = _
        cases e : L2 ri with
        | none => rfl
        | some ℓ =>
          rcases r2 ri (by rw [e]; simp) with h1 | h1
          · exact absurd HLR.out h1
          · have := HRI5.out; omega
      have HRG10 : Hid (w10.ranges Tryz.prog 3 ptrElem mb ri 192 D0 (fun z => left z && !z.sameKey (.int .i64 k)) cnt5) := ranges_only HRG5.out O510 (fun x => by have := HQ2.out mb (by rw [x]; simp); have := HXM.out; omega) (fun x => by have := HLR.out; rw [x] at this; cases this)
      have HO10 : Hid (Only [] w w10) := by
        refine ⟨O510.os.trans HO5.out.os, O510.tape.trans HO5.out.tape, O510.output.trans HO5.out.output, Nat.le_trans HO5.out.size O510.size, fun j hj _ => ?_⟩
        rw [O510.block j (Nat.lt_of_lt_of_le hj HO5.out.size) (fun x => by
          have h1 := HQ2.out j (by rw [x]; simp)
          omega)]
        exact HO5.out.block j hj (by simp)
      generalize hmb1 : X1.mb = mb1 at *
      clear r1 r2 r3 i7 i8 row8 row9 hm10 hm11 hg10 O9 O510 O59 O89 O68 P9 ho7 ho8 own7 own8 k3 k4 y3 y4 y5 y6 e3 e4 hmb1 hyw
      go_wp2_with fail
      refine ⟨⟨_, cnt5, L2, X2, HRG10.out, ?_, HR2, HR3, HO10.out⟩, by rw [HRG10.out.left_eq]; exact hmeas⟩
      have e : partT M.ob (fun z => left z && !z.sameKey (.int .i64 k)) = setT (partT M.ob left) k (some t) := by
        funext j
        unfold setT
        by_cases e : j = k
        · subst e
          rw [if_pos rfl]
          unfold partT
          simp only [sameI j j HWK.out, decide_true, Bool.not_true, Bool.and_false, Bool.false_eq_true, if_false]
          exact HT.out
        · rw [if_neg e]
          unfold partT
          simp only [sameI j k HWK.out]
          simp [e]
      rw [e]
      exact HR1.out
end
end Go.Proofs.YtkjocehdbpekjaaGreat
namespace Go.Proofs.YtkjocehdbpekjaaGreat
open Go.RowKit Go.Maps
set_option maxHeartbeats 6400000
set_option maxRecDepth 100000
set_option linter.unusedVariables false
section
variable {w0 w w' : World} {l : List Asn} {p q : Nat} {M M' : Hp}
theorem BCap.barg {g : Option Addr} {n k : Nat} {bl : List Bool} (h : BCap w g n k bl) : BArg w (.slice g n k) bl := by
  cases hg : g with
  | none =>
    obtain ⟨h1, h2⟩ := h.nl hg
    subst h1 h2
    exact .inl ⟨rfl, List.eq_nil_of_length_eq_zero h.len⟩
  | some ad =>
    refine .inr ⟨ad, k, by rw [h.len], fun i hi => ?_⟩
    rw [h.len] at hi
    rcases h.rd with e | ⟨b, o, e, hc⟩
    · omega
    · rw [hg] at e
      cases e
      rw [add_at]
      exact hc i hi
end
end Go.Proofs.YtkjocehdbpekjaaGreat
namespace Go.Proofs.YtkjocehdbpekjaaGreat
open Go.RowKit Go.Maps Go.Shelf
set_option maxHeartbeats 12800000
set_option maxRecDepth 100000
set_option linter.unusedVariables false
theorem cloneB_any (w : World) (mb n : Nat) (f : Nat → Bool) (h : FndAt w mb n f) : Calls Tryz.prog 75 #[.map (some mb)] w fun e w' => e = .returned (.map (some w.heap.size)) ∧ FndAt w' w.heap.size n f ∧ Only [] w w' := by
  obtain ⟨D, hD, h1⟩ := h
  have c := AnyW.maps_Clone_owns Tryz.cloneB 3 (plainElem (H := Unit) Tryz.prog 4) mb n D w hD
  change Calls Tryz.prog 75 _ _ _ at c
  exact c.mono fun e w' ⟨he, ho, _, hb⟩ => ⟨he, ⟨D, ho, h1⟩, ⟨hb.os, hb.tape, hb.output, hb.size, fun k hk _ => hb.block k hk⟩⟩
theorem cloneB_opt (w : World) (mo : Option Nat) (P : Nat → (Nat → Bool) → Prop) (h : ∀ mb, mo = some mb → ∃ n f, FndAt w mb n f ∧ P n f) : Calls Tryz.prog 75 #[.map mo] w fun e w' => ∃ mo', e = .returned (.map mo') ∧ (mo' = none ↔ mo = none) ∧ (∀ mb, mo' = some mb → w.heap.size ≤ mb ∧ ∃ n f, FndAt w' mb n f ∧ P n f) ∧ Only [] w w' := by
  cases mo with
  | none =>
    have c := AnyW.maps_Clone_nil Tryz.cloneB w
    change Calls Tryz.prog 75 _ _ _ at c
    refine c.mono ?_
    rintro e _ ⟨rfl, rfl⟩
    exact ⟨none, rfl, by simp, fun mb e => by (cases e), Only.refl _ _⟩
  | some mb =>
    obtain ⟨n, f, h, hp⟩ := h mb rfl
    refine (cloneB_any w mb n f h).mono ?_
    rintro e w1 ⟨rfl, hf, ho⟩
    refine ⟨_, rfl, by simp, fun mb2 e => ?_, ho⟩
    cases e
    exact ⟨Nat.le_refl _, n, f, hf, hp⟩
theorem clone_ents (w : World) (v : Value) (l : List En) (h : Ents w 101 0 v l) (hl : l.length ≤ 20) :
    Calls Tryz.prog 74 #[v] w fun e w' => ∃ v', e = .returned v' ∧ Ents w' 101 w.heap.size v' l ∧ Only [] w w' := by
  refine calls_abs fun R hR => ?_
  by_cases h0 : l = []
  · subst h0
    rcases h.2 with ⟨rfl, _⟩ | ⟨g, cap, cur, rfl, _, hh, _, _, _, _⟩
    · have hn := fun (wx : World) => Lib.run_eql_slice_nil (P := Tryz.prog) wx 97 101 none 0 0 0 0 Tryz.underlying97
      clear h
      go_enter Tryz.func74, Tryz.ntmps74
      go_wp2_with fail
      exact hR.out _ _ ⟨_, rfl, Ents.nil _ _ _, Only.refl _ _⟩
    · have hq := fun (wx : World) => Lib.run_eql_slice_nil (P := Tryz.prog) wx 97 101 (some ⟨g, 0, none⟩) 0 cap 0 0 Tryz.underlying97
      obtain ⟨i0, hi, hz0, hz1, hz2⟩ := info_parts infoEn
      have HZ0 := Lib.hid hz0
      have HZ1 := Lib.hid hz1
      have HZ2 := Lib.hid hz2
      have HI := Lib.hid hi
      clear hz0 hz1 hz2 hi h hh
      go_enter Tryz.func74, Tryz.ntmps74
      go_wp2_with (at_builtin; refine wpList_append_own2 rfl _ _ 97 rfl w.heap.size 101 i0 _ 3 24 Tryz.underlying97 HI.out HZ0.out HZ1.out HZ2.out rfl (by decide) _ 0 [] rfl (World.ownsRow_made w #[] 0 (Nat.le_refl _) (by simp [maxLen]) rfl) ⟨g, 0, none⟩ 0 cap [] rfl ?_ ?_ ?_ ?_ ?_ ?_ ?_)
      · rfl
      · intro j u hu
        simp at hu
      · intro u hu
        simp at hu
      · simp [maxLen]
      · omega
      · simp
      · intro v w1 hv ho hn1 hblk
        have HO : Hid (Only [] w w1) := ((Only.refl [] w).alloc _).grown ho (fun k hk => by
            right
            simp [Value.ownBlock] at hk
            omega)
        have HV : Hid (Ents w1 101 w.heap.size v []) := hv
        clear ho hv hn1 hblk
        go_wp2_with fail
        exact hR.out _ _ ⟨_, rfl, HV.out, HO.out⟩
  · obtain ⟨g, c, rfl, _, hg, hlc⟩ := h.form h0
    have HC : Hid (∀ j u, (enCells l)[j]? = some u → w.cell? ⟨g, j, none⟩ = some u) := fun j u hu => by
      have hj := (List.getElem?_eq_some_iff.1 hu).1
      rw [World.ownsRow.cellAt h _ (by rw [enCells_len] at hj; exact hj)]; exact hu
    have HE : Hid (∀ u ∈ enCells l, u.oneCell' = true) := fun u hu => by
      unfold enCells at hu
      rw [List.mem_flatMap] at hu
      obtain ⟨e, _, hu⟩ := hu
      simp only [enC, List.mem_cons, List.not_mem_nil, or_false] at hu
      rcases hu with rfl | rfl | rfl <;> rfl
    obtain ⟨n, hn⟩ : ∃ n, n = l.length := ⟨_, rfl⟩
    rw [← hn] at hl hlc ⊢
    have hq := fun (wx : World) => Lib.run_eql_slice_nil (P := Tryz.prog) wx 97 101 (some ⟨g, 0, none⟩) n c 0 0 Tryz.underlying97
    have HN := Lib.hid hn
    obtain ⟨i0, hi, hz0, hz1, hz2⟩ := info_parts infoEn
    have HZ0 := Lib.hid hz0
    have HZ1 := Lib.hid hz1
    have HZ2 := Lib.hid hz2
    have HI := Lib.hid hi
    clear hz0 hz1 hz2 hi h hn h0 hg
    go_enter Tryz.func74, Tryz.ntmps74
    go_wp2_with (at_builtin; refine wpList_append_own2 rfl _ _ 97 rfl w.heap.size 101 i0 _ 3 24 Tryz.underlying97 HI.out HZ0.out HZ1.out HZ2.out rfl (by decide) _ 0 [] rfl (World.ownsRow_made w #[] 0 (Nat.le_refl _) (by simp [maxLen]) rfl) ⟨g, 0, none⟩ n c (enCells l) rfl ?_ ?_ ?_ ?_ ?_ ?_ ?_)
    · rw [enCells_len, HN.out]
    · intro j u hu
      rw [addr_add, Nat.zero_add]
      exact ((Only.refl [] w).alloc _).cell (HC.out j u hu) (by simp)
    · exact HE.out
    · simp [maxLen]; omega
    · omega
    · simp
    · intro v w1 hv ho hn1 hblk
      have HO : Hid (Only [] w w1) := ((Only.refl [] w).alloc _).grown ho (fun k hk => by
          right
          simp [Value.ownBlock] at hk
          omega)
      have HV : Hid (Ents w1 101 w.heap.size v l) := by
        show World.ownsRow _ _ _ _ _ _ _
        rw [← HN.out]
        have h := hv
        try rw [Nat.zero_add] at h
        try rw [List.nil_append] at h
        exact h
      clear ho hv hn1 hblk
      go_wp2_with fail
      exact hR.out _ _ ⟨_, rfl, HV.out, HO.out⟩
theorem tcopy_rep (w : World) {b kk : Nat} {t : Tb} {ev qv : Value} {mo : Option Nat} (ht : TbAt w b ev qv mo t kk) (hl : t.ents.length ≤ 20) (hq : t.q.length ≤ 1000000) : Calls Tryz.prog 23 #[.pointer (some ⟨b, 0, none⟩)] w (fun e w' => ∃ b2, e = .returned (.pointer (some ⟨b2, 0, none⟩)) ∧ Born w w' (TbA b2 t kk)) := by
  refine calls_abs fun R hR => ?_
  have HT := Lib.hid ht
  obtain ⟨U, hr⟩ := ht.row
  have hblt := hr.lt
  have c0 := hr.cell 0 rfl
  have c1 := hr.cell 1 rfl
  have c2 := hr.cell 2 rfl
  have c3 := hr.cell 3 rfl
  have c4 := hr.cell 4 rfl
  have c5 := hr.cell 5 rfl
  have hn := tnone_rep w c0
  obtain ⟨ea, ec, hev⟩ := ht.ents.len
  obtain ⟨qa, qc, hqv⟩ := ht.q.len
  have HEV := Lib.hid hev
  have HQV := Lib.hid hqv
  have HEN : Hid (∀ wx, Only [] w wx → Calls Tryz.prog 74 #[ev] wx (fun e w' => ∃ v', e = .returned v' ∧ Ents w' 101 wx.heap.size v' t.ents ∧ Only [] wx w')) := fun wx ho => clone_ents wx ev t.ents (ht.ents.only ho (by simp)) hl
  have HIN : Hid (∀ wx, Only [] w wx → Calls Tryz.prog 73 #[qv] wx (fun e w' => ∃ v', e = .returned v' ∧ Ints w' wx.heap.size v' t.q ∧ Only [] wx w')) := fun wx ho => clone_ownI wx qv t.q (ht.q.only ho (by simp)) hq
  have HMP : Hid (∀ wx, Only [] w wx → Calls Tryz.prog 75 #[.map mo] wx (fun e w' => ∃ mo', e = .returned (.map mo') ∧ (mo' = none ↔ mo = none) ∧ (∀ mb, mo' = some mb → wx.heap.size ≤ mb ∧ ∃ n f, FndAt w' mb n f ∧ n ≤ 20 ∧ (t.ph = 2 → kk ≤ n ∧ ∀ i, i < kk → f i = t.fd i)) ∧ Only [] wx w')) := fun wx ho => cloneB_opt wx mo _ (fun mb e => by
    obtain ⟨n, f, h1, h2⟩ := ht.fnd mb e
    exact ⟨n, f, h1.only (ho.toP0 (S := fun _ => False)) (fun x => x), h2⟩)
  have HTW := Lib.hid ht.two
  rw [hev] at c1 HEN
  rw [hqv] at c2 HIN
  generalize t.ents.length = en at *
  generalize t.q.length = qn at *
  generalize HPH : t.ph = ph at *
  generalize HNX : t.nx = nx at *
  clear ht hr hl hq hev hqv
  go_enter Tryz.func23, Tryz.ntmps23
  go_wp2_with fail
  refine hn.mono ?_
  rintro e _ ⟨rfl, rfl⟩
  clear hn
  go_upto_region 4 with fail
  have HR6 : Hid (Row (w.alloc (.cells #[.bool true, .slice ea en ec, .slice qa qn qc, .int .i64 (ph : Int), .int .i64 (nx : Int), .map mo] 99)) w.heap.size 99 [.bool true, .slice ea en ec, .slice qa qn qc, .int .i64 (ph : Int), .int .i64 (nx : Int), .map mo]) := Row.new w _ [_, _, _, _, _, _]
  have QO6 : Hid (Only [] w (w.alloc (.cells #[.bool true, .slice ea en ec, .slice qa qn qc, .int .i64 (ph : Int), .int .i64 (nx : Int), .map mo] 99))) := (Only.refl [] w).alloc _
  have hby : w.heap.size ≠ b := by omega
  have e1 : (w.alloc (.cells #[.bool true, .slice ea en ec, .slice qa qn qc, .int .i64 (ph : Int), .int .i64 (nx : Int), .map mo] 99)).drew.cell? ⟨b, 1, none⟩ = _ := QO6.out.cellN c1
  have e2 : (w.alloc (.cells #[.bool true, .slice ea en ec, .slice qa qn qc, .int .i64 (ph : Int), .int .i64 (nx : Int), .map mo] 99)).drew.cell? ⟨b, 2, none⟩ = _ := QO6.out.cellN c2
  have e5 : (w.alloc (.cells #[.bool true, .slice ea en ec, .slice qa qn qc, .int .i64 (ph : Int), .int .i64 (nx : Int), .map mo] 99)).drew.cell? ⟨b, 5, none⟩ = _ := QO6.out.cellN c5
  have hs6 : (w.alloc (.cells #[.bool true, .slice ea en ec, .slice qa qn qc, .int .i64 (ph : Int), .int .i64 (nx : Int), .map mo] 99)).heap.size = w.heap.size + 1 := by simp
  generalize (w.alloc (.cells #[.bool true, .slice ea en ec, .slice qa qn qc, .int .i64 (ph : Int), .int .i64 (nx : Int), .map mo] 99)) = w6 at *
  obtain ⟨y, hy⟩ : ∃ z, z = w.heap.size := ⟨_, rfl⟩
  rw [← hy] at HR6 hby hs6 hblt ⊢
  have HY := Lib.hid hy
  have HS6 := Lib.hid hs6
  have HBY := Lib.hid hby
  have HYC : Hid (∀ wx, Only [] w6 wx → wx.cell? ⟨y, 1, none⟩ = some (.slice ea en ec) ∧ wx.cell? ⟨y, 2, none⟩ = some (.slice qa qn qc) ∧ wx.cell? ⟨y, 5, none⟩ = some (.map mo) ∧ wx.frozen? ⟨y, 1, none⟩ = false ∧ wx.frozen? ⟨y, 2, none⟩ = false ∧ wx.frozen? ⟨y, 5, none⟩ = false) := fun wx hox => by
    have := hox.row HR6.out (by simp)
    exact ⟨this.cell 1 rfl, this.cell 2 rfl, this.cell 5 rfl, this.free 1, this.free 2, this.free 5⟩
  have QD6 : Hid (Only [] w6 w6.drew) := (Only.refl [] w6).drew
  clear c0 c1 c2 c3 c4 c5 hy hs6 hblt
  have hby' : b ≠ y := Ne.symm hby
  go_region_held3 (fun w' => w'.cell? ⟨b, 1, none⟩ = some (.slice ea en ec) ∧ w'.cell? ⟨b, 2, none⟩ = some (.slice qa qn qc) ∧ w'.cell? ⟨b, 5, none⟩ = some (.map mo))
    (first
      | (exact ⟨e1, e2, e5⟩)
      | (exact ⟨ho7.cellN e1, ho7.cellN e2, ho7.cellN e5⟩)
      | (exact ⟨ho8.cellN (ho7.cellN e1), ho8.cellN (ho7.cellN e2), ho8.cellN (ho7.cellN e5)⟩)
      | (exact ⟨k1, k2, k5⟩)
      | (exact ⟨(World.cell?_setCell_far _ _ _ _ hby).trans k1, (World.cell?_setCell_far _ _ _ _ hby).trans k2, (World.cell?_setCell_far _ _ _ _ hby).trans k5⟩)
      | (exact ⟨(World.cell?_setCell_far _ _ _ _ hby).trans ((World.cell?_setCell_far _ _ _ _ hby).trans k1), (World.cell?_setCell_far _ _ _ _ hby).trans ((World.cell?_setCell_far _ _ _ _ hby).trans k2), (World.cell?_setCell_far _ _ _ _ hby).trans ((World.cell?_setCell_far _ _ _ _ hby).trans k5)⟩)
      | (exact ⟨(World.cell?_setCell_far _ _ _ _ hby).trans ((World.cell?_setCell_far _ _ _ _ hby).trans ((World.cell?_setCell_far _ _ _ _ hby).trans k1)), (World.cell?_setCell_far _ _ _ _ hby).trans ((World.cell?_setCell_far _ _ _ _ hby).trans ((World.cell?_setCell_far _ _ _ _ hby).trans k2)), (World.cell?_setCell_far _ _ _ _ hby).trans ((World.cell?_setCell_far _ _ _ _ hby).trans ((World.cell?_setCell_far _ _ _ _ hby).trans k5))⟩))
    (first
      | (go_at_call 74; refine (HEN.out _ (QO6.out.trans QD6.out (by simp))).mono ?_; rintro e w7 ⟨v7, rfl, hi7, ho7⟩; obtain ⟨va7, vc7, hv7⟩ := hi7.len; obtain ⟨n7, hn7⟩ : ∃ z, z = t.ents.length := ⟨_, rfl⟩; rw [← hn7] at hv7; subst hv7; have HI7 := Lib.hid hi7; clear hi7 hn7)
      | (go_at_call 73; refine (HIN.out _ ((QO6.out.trans QD6.out (by simp)).trans ho7 (by simp))).mono ?_; rintro e w8 ⟨v8, rfl, hi8, ho8⟩; obtain ⟨va8, vc8, hv8⟩ := hi8.len; obtain ⟨n8, hn8⟩ : ∃ z, z = t.q.length := ⟨_, rfl⟩; rw [← hn8] at hv8; subst hv8; have HI8 := Lib.hid hi8; clear hi8 hn8)
      | (go_at_call 75; refine (HMP.out _ (((QO6.out.trans QD6.out (by simp)).trans ho7 (by simp)).trans ho8 (by simp))).mono ?_; rintro e w9 ⟨mo9, rfl, hn9, hi9, ho9⟩; have HI9 := Lib.hid hi9; have HN9 := Lib.hid hn9; have k1 := ho9.cellN (ho8.cellN (ho7.cellN e1)); have k2 := ho9.cellN (ho8.cellN (ho7.cellN e2)); have k5 := ho9.cellN (ho8.cellN (ho7.cellN e5)); obtain ⟨y1, y2, y5, y6, y7, y8⟩ := HYC.out w9 (((QD6.out.trans ho7 (by simp)).trans ho8 (by simp)).trans ho9 (by simp)); clear hi9 hn9))
  have O69 : Only [] w6 w9 := ((QD6.out.trans ho7 (by simp)).trans ho8 (by simp)).trans ho9 (by simp)
  have hs6 := HS6.out
  have hyw := HY.out
  have hs7 : w6.heap.size ≤ w7.heap.size := ho7.size
  have hs8 := ho8.size
  have hs9 := ho9.size
  have own7 := HI7.out.own
  have own8 := HI8.out.own
  have row9 := O69.row HR6.out (by simp)
  have row10 : Row (((w9.setCell ⟨y, 1, none⟩ (.slice va7 n7 vc7)).setCell ⟨y, 2, none⟩ (.slice va8 n8 vc8)).setCell ⟨y, 5, none⟩ (.map mo9)) y 99 [.bool true, .slice va7 n7 vc7, .slice va8 n8 vc8, .int .i64 (ph : Int), .int .i64 (nx : Int), .map mo9] := ((row9.set 1 _).set 2 _).set 5 _
  have O910 : Only [y] w9 (((w9.setCell ⟨y, 1, none⟩ (.slice va7 n7 vc7)).setCell ⟨y, 2, none⟩ (.slice va8 n8 vc8)).setCell ⟨y, 5, none⟩ (.map mo9)) := (((Only.refl [y] w9).set (.inl (by simp)) _).set (.inl (by simp)) _).set (.inl (by simp)) _
  have hsd : w6.drew.heap.size = w6.heap.size := rfl
  have i7 := (((HI7.out.only ho8 (by simp)).only ho9 (by simp)).only O910 (fun g hg => by have := (own7 g hg).1; simp; omega)).low (b := 0) (Nat.zero_le _)
  have i8 := ((HI8.out.only ho9 (by simp)).only O910 (fun g hg => by have := (own8 g hg).1; simp; omega)).base (Nat.zero_le _)
  have O10 : Only [] w (((w9.setCell ⟨y, 1, none⟩ (.slice va7 n7 vc7)).setCell ⟨y, 2, none⟩ (.slice va8 n8 vc8)).setCell ⟨y, 5, none⟩ (.map mo9)) := (QO6.out.trans O69 (by simp)).trans O910 (fun x hx => .inr (by simp at hx; omega))
  have hmo : ∀ mb, mo9 = some mb → w8.heap.size ≤ mb ∧ mb < w9.heap.size := fun mb e => by
    obtain ⟨h1, n, f, h2, _⟩ := HI9.out mb e
    exact ⟨h1, h2.lt⟩
  have hT : TbAt (((w9.setCell ⟨y, 1, none⟩ (.slice va7 n7 vc7)).setCell ⟨y, 2, none⟩ (.slice va8 n8 vc8)).setCell ⟨y, 5, none⟩ (.map mo9)) y (.slice va7 n7 vc7) (.slice va8 n8 vc8) mo9 t kk := by
    refine ⟨⟨_, by rw [HPH, HNX]; exact row10⟩, i7, i8, fun mb e => ?_, fun h1 h2 h3 => HTW.out (by rw [← HPH]; exact h1) h2 (HN9.out.1 h3), fun g hg => ?_, fun g hg => ?_, fun e => ?_⟩
    · obtain ⟨h1, n, f, h2, h3⟩ := HI9.out mb e
      refine ⟨n, f, h2.only (O910.toP (S := fun x => x = y) (fun x hx => .inl (by simpa using hx))) (fun x => by omega), h3.1, fun h => h3.2 (by rw [← HPH]; exact h)⟩
    · have h1 := own7 g hg
      refine ⟨by omega, fun e => ?_, fun e => ?_⟩
      · have := hmo g e; omega
      · have := own8 g e; omega
    · have h1 := own8 g hg
      refine ⟨by omega, fun e => ?_⟩
      have := hmo g e; omega
    · have := hmo y e; omega
  have hB : Born w (((w9.setCell ⟨y, 1, none⟩ (.slice va7 n7 vc7)).setCell ⟨y, 2, none⟩ (.slice va8 n8 vc8)).setCell ⟨y, 5, none⟩ (.map mo9)) (TbA y t kk) := by
    refine ⟨O10, fun k => k = y ∨ (Value.slice va7 n7 vc7).ownBlock = some k ∨ (Value.slice va8 n8 vc8).ownBlock = some k ∨ mo9 = some k, ⟨_, _, _, hT, fun k => Iff.rfl⟩, fun k hk => ?_⟩
    rcases hk with hk | hk | hk | hk
    · omega
    · have := own7 k hk; omega
    · have := own8 k hk; omega
    · have := hmo k hk; omega
  have HE := Lib.hid hB
  clear O69 hs6 hyw hs7 hs8 hs9 own7 own8 row9 row10 O910 hsd i7 i8 O10 hmo hT hB
  go_wp2_with fail
  exact hR.out _ _ ⟨y, rfl, HE.out⟩
end Go.Proofs.YtkjocehdbpekjaaGreat
namespace Go.Proofs.YtkjocehdbpekjaaGreat
open Go.RowKit Go.Maps Go.Shelf
set_option maxHeartbeats 12800000
set_option maxRecDepth 100000
set_option linter.unusedVariables false
theorem cloneC_any (w : World) (mb : Nat) (col : Int → Int) (h : MapC w mb col) : Calls Tryz.prog 116 #[.map (some mb)] w fun e w' => e = .returned (.map (some w.heap.size)) ∧ MapC w' w.heap.size col ∧ Only [] w w' := by
  obtain ⟨D, hD, h1, h2⟩ := h
  have c := AnyW.maps_Clone_owns Tryz.cloneC 3 (plainElem (H := Unit) Tryz.prog 3) mb 192 D w hD
  change Calls Tryz.prog 116 _ _ _ at c
  exact c.mono fun e w' ⟨he, ho, _, hb⟩ => ⟨he, ⟨D, ho, h1, h2⟩, ⟨hb.os, hb.tape, hb.output, hb.size, fun k hk _ => hb.block k hk⟩⟩
section
variable {w0 w : World} {l : List Asn} {i j hb p q r : Nat} {m : Mk}
theorem mcopy_rep (w : World) (T2 : Two2 l i j) (hf : Fam w0 w (ML l i j hb p m)) (hm : m.Ok) : Calls Tryz.prog 53 #[.pointer (some ⟨p, 0, none⟩)] w (fun e w' => ∃ q2 p2, e = .returned (.pointer (some ⟨p2, 0, none⟩)) ∧ Fam w0 w' (ML l i j hb p m ++ [PH q2 m.M] ++ [MkA p2 q2 m.col m.list])) := by
  refine calls_abs fun R hR => ?_
  have HF := Lib.hid hf
  obtain ⟨hk, L, X, hp⟩ := ML.ph T2 hf
  have HKF := Lib.hid (hf.phF i (ML.heap T2))
  obtain ⟨mb, v, hg⟩ := ML.mk T2 hf
  have HC1 : Hid (∀ wx, Only [] w wx → Calls Tryz.prog 115 #[.pointer (some ⟨hb, 0, none⟩)] wx (fun e w' => ∃ q L' X', e = .returned (.pointer (some ⟨q, 0, none⟩)) ∧ HRep w' L' q m.M X' ∧ (∀ k, L' k ≠ none → wx.heap.size ≤ k) ∧ Only [] wx w')) := fun wx ho => by
    have c := hcopy_rep wx (hp.only0 ho) hk
    exact c
  have HC2 : Hid (∀ wx, Only [] w wx → Calls Tryz.prog 116 #[.map (some mb)] wx (fun e w' => e = .returned (.map (some wx.heap.size)) ∧ MapC w' wx.heap.size m.col ∧ Only [] wx w')) := fun wx ho => cloneC_any wx mb m.col (hg.map.onlyF ho (by simp))
  have HC3 : Hid (∀ wx, Only [] w wx → Calls Tryz.prog 73 #[v] wx (fun e w' => ∃ v', e = .returned v' ∧ Ints w' wx.heap.size v' m.list ∧ Only [] wx w')) := fun wx ho => clone_ownI wx v m.list (hg.ints.only ho (by simp)) (by have := hm.len; omega)
  obtain ⟨z0, z1, z2, _⟩ := hg.cells
  have hn := mnone_rep w z0
  have d0 : w.drew.cell? ⟨p, 0, none⟩ = _ := z0
  have d1 : w.drew.cell? ⟨p, 1, none⟩ = _ := z1
  have d2 : w.drew.cell? ⟨p, 2, none⟩ = _ := z2
  obtain ⟨ga, gc, hv⟩ := hg.ints.len
  subst hv
  generalize m.list.length = n at *
  have D0 := Lib.hid (only_d1 w)
  clear hf hk hp hg
  go_enter Tryz.func53, Tryz.ntmps53
  go_wp2_with fail
  refine hn.mono ?_
  rintro e _ ⟨rfl, rfl⟩
  clear hn
  go_wp2_with fail
  go_region_held3 (fun w' => w'.cell? ⟨p, 0, none⟩ = some (.pointer (some ⟨hb, 0, none⟩)) ∧ w'.cell? ⟨p, 1, none⟩ = some (.map (some mb)) ∧ w'.cell? ⟨p, 2, none⟩ = some (.slice ga n gc))
    (first
      | (exact ⟨d0, d1, d2⟩)
      | (exact ⟨hoA.cellN d0, hoA.cellN d1, hoA.cellN d2⟩)
      | (exact ⟨hoB.cellN d0, hoB.cellN d1, hoB.cellN d2⟩)
      | (exact ⟨hoC.cellN d0, hoC.cellN d1, hoC.cellN d2⟩)
      | (exact ⟨hoB.cellN (hoA.cellN d0), hoB.cellN (hoA.cellN d1), hoB.cellN (hoA.cellN d2)⟩)
      | (exact ⟨hoC.cellN (hoB.cellN (hoA.cellN d0)), hoC.cellN (hoB.cellN (hoA.cellN d1)), hoC.cellN (hoB.cellN (hoA.cellN d2))⟩)
      | (exact ⟨(hoC.alloc _).cellN (hoB.cellN (hoA.cellN d0)), (hoC.alloc _).cellN (hoB.cellN (hoA.cellN d1)), (hoC.alloc _).cellN (hoB.cellN (hoA.cellN d2))⟩))
    (first
      | (go_at_call 115; refine (HC1.out _ D0.out).mono ?_; rintro e wA ⟨q2, L2, X2, rfl, hpA, hLA, hoA⟩)
      | (go_at_call 116; refine (HC2.out _ (D0.out.trans hoA (by simp))).mono ?_; rintro e wB ⟨rfl, hmB, hoB⟩)
      | (go_at_call 73; refine (HC3.out _ ((D0.out.trans hoA (by simp)).trans hoB (by simp))).mono ?_; rintro e wC ⟨v2, rfl, hiC, hoC⟩; obtain ⟨va2, vc2, hv2⟩ := hiC.len; subst hv2)
)
  have hFA : Fam w0 wA (ML l i j hb p m ++ [PH q2 m.M]) := HF.out.drew.add (pborn hpA HKF.out hLA hoA)
  have hBC : Only [] wB ((wC.alloc (.cells #[.pointer (some ⟨q2, 0, none⟩), .map (some wA.heap.size), .slice va2 m.list.length vc2] 120))) := hoC.alloc _
  have hsB := hoB.size
  have hsC := hoC.size
  have hmlt := hmB.lt
  have hborn : Born wA (wC.alloc (.cells #[.pointer (some ⟨q2, 0, none⟩), .map (some wA.heap.size), .slice va2 m.list.length vc2] 120)) (MkA wC.heap.size q2 m.col m.list) := by
    refine ⟨hoB.trans hBC (by simp), fun k => k = wC.heap.size ∨ k = wA.heap.size ∨ (Value.slice va2 m.list.length vc2).ownBlock = some k, ⟨wA.heap.size, .slice va2 m.list.length vc2, ⟨⟨120, Row.new wC 120 [_, _, _]⟩, hmB.onlyF hBC (by simp), (hiC.base (Nat.zero_le _)).alloc _, by omega, fun g hg => ?_⟩, fun k => Iff.rfl⟩, fun k hk => ?_⟩
    · have := hiC.own g hg
      exact ⟨by omega, by omega⟩
    · rcases hk with hk | hk | hk
      · omega
      · omega
      · have := hiC.own k hk; omega
  have HFE := Lib.hid (hFA.add hborn)
  clear hFA hBC hborn hmlt hsB hsC hpA hLA hoA hmB hoB hiC hoC d0 d1 d2
  go_wp2_with fail
  exact hR.out _ _ ⟨q2, wC.heap.size, rfl, HFE.out⟩
end
end Go.Proofs.YtkjocehdbpekjaaGreat
namespace Go.Proofs.YtkjocehdbpekjaaGreat
open Go.RowKit Go.Maps
set_option maxHeartbeats 12800000
set_option maxRecDepth 100000
set_option linter.unusedVariables false
theorem Tb.clear_len (t : Tb) (m : Mk) (i : Nat) : (t.clear m i).1.ents.length = t.ents.length := by
  unfold Tb.clear
  simp only
  split
  · split
    · show (t.ents.set _ _).length = _; rw [List.length_set]
    · rfl
  · split
    · show (t.ents.set _ _).length = _; rw [List.length_set]
    · rfl
theorem Tb.step_len (t : Tb) (m : Mk) : (t.step m).2.2.2.1.ents.length = t.ents.length := by
  unfold Tb.step
  split
  · rfl
  simp only
  split
  · show ((t.settle m).settle _).ents.length = _
    rw [Tb.settle_same.1, Tb.settle_same.1]
  split
  · show (t.settle m).ents.length = _
    rw [Tb.settle_same.1]
  · show ((((t.settle m).clear m (t.settle m).nx).1.at _ _).settle _).ents.length = _
    rw [Tb.settle_same.1]
    show ((t.settle m).clear m (t.settle m).nx).1.ents.length = _
    rw [Tb.clear_len, Tb.settle_same.1]
theorem Tb.steps_len (t : Tb) (m : Mk) (k : Nat) : (Tb.steps k (t, m)).1.ents.length = t.ents.length := by
  induction k with
  | zero => rfl
  | succ k ih =>
    show ((Tb.steps k (t, m)).1.step (Tb.steps k (t, m)).2).2.2.2.1.ents.length = _
    rw [Tb.step_len, ih]
def FX (bo hb q p r tb ub tc hc pc : Nat) (m1 m2 : Mk) (t1 t2 : Tb) (mx : Mk) (tx : Tb) : List Asn := G7 bo hb q p r tb ub m1 m2 t1 t2 [TbA tc tx tx.ents.length, PH hc mx.M, MkA pc hc mx.col mx.list]
theorem FX.T3 (bo hb q p r tb ub tc hc pc : Nat) (m1 m2 : Mk) (t1 t2 : Tb) (mx : Mk) (tx : Tb) : Three (FX bo hb q p r tb ub tc hc pc m1 m2 t1 t2 mx tx) 8 9 7 := ⟨⟨by simp [FX, G7], by simp [FX, G7], by decide⟩, by simp [FX, G7], by decide, by decide⟩
theorem walk_RefsFinishes (la : Option Addr) (ln lc : Nat) (f : Nat → Nat → Int) (ra : Option Addr) (rn rc : Nat) (g : Nat → Int) (oa : Option Addr) (on oc : Nat) (fo : Nat → Nat → Int) (w : World) (hl : Recs 2 w la ln f) (hr : Numk w ra rn rc g) (ho : Recs 4 w oa on fo) :
    Calls Tryz.prog 12 #[.agg #[.slice la ln lc, .slice ra rn rc], .slice oa on oc] w fun e w' => e = .returned (.bool true) ∧ Below w.heap.size w w' := by
  refine calls_abs fun R hR => ?_
  have ho1 : Only [] w (w.alloc (.cells #[.slice la ln lc, .slice ra rn rc] 25)) := (Only.refl [] w).alloc _
  have HRW : Hid (Row (w.alloc (.cells #[.slice la ln lc, .slice ra rn rc] 25)) w.heap.size 25 [.slice la ln lc, .slice ra rn rc]) := Row.new w _ _
  have HO1 := Lib.hid ho1
  have HS := Lib.hid ((scr_of hl hr).only ho1)
  have HD := Lib.hid (Recs.only ho ho1)
  have HFIN : Hid (∀ w', Only [] w w' → Below w.heap.size w w') := fun w' h => h.bel
  clear hl hr ho ho1
  go_enter Tryz.func12, Tryz.ntmps12
  go_upto_region 1 with fail
  generalize w.alloc (.cells #[.slice la ln lc, .slice ra rn rc] 25) = w1 at *
  generalize w.heap.size = ws at *
  have c1 := lplay_any w1 la ln lc f ra rn rc (listF rn g) HS.out oa on oc fo HD.out
  go_wp2_with (refine wpList_load_agg rfl 25 _ rfl ws 0 rfl [.slice la ln lc, .slice ra rn rc] _ Tryz.underlying25 rfl sizeSt (row2_cells HRW.out) ?_)
  refine c1.mono ?_
  rintro e w2 ⟨bo, hb, q, p, r, tb, ub, m, t, rfl, hm, hg, hf⟩
  have HF := Lib.hid hf
  have HM := Lib.hid hm
  have HG := Lib.hid hg
  obtain ⟨ev, qv, mo, ht⟩ := G7.tbat hf
  have C1 : Hid (∀ wx, Only [] w2 wx → Calls Tryz.prog 23 #[.pointer (some ⟨tb, 0, none⟩)] wx (fun e w' => ∃ b2, e = .returned (.pointer (some ⟨b2, 0, none⟩)) ∧ Born wx w' (TbA b2 t t.ents.length))) := fun wx ho => tcopy_rep wx (ht.only0 ho) hg.b.le (by have := hg.b.q20; omega)
  have C2 : Hid (∀ wx b2, Fam w1 wx (G7 bo hb q p r tb ub m m t t [TbA b2 t t.ents.length]) → Calls Tryz.prog 53 #[.pointer (some ⟨p, 0, none⟩)] wx (fun e w' => ∃ q2 p2, e = .returned (.pointer (some ⟨p2, 0, none⟩)) ∧ Fam w1 w' (FX bo hb q p r tb ub b2 q2 p2 m m t t m t))) := fun wx b2 h => mcopy_rep wx (G7.TP bo hb q p r tb ub m m t t [TbA b2 t t.ents.length]).two h hm
  have D2 : Hid (Only [] w2 w2.drew) := (Only.refl [] w2).drew
  have b2 := (G7.row hf).cell 2 rfl
  have b4 := (G7.row hf).cell 4 rfl
  clear c1 hf hm hg ht HS HD HRW
  go_upto_region 4 with fail
  go_region_held3 (fun w' => w'.cell? ⟨bo, 2, none⟩ = some (.pointer (some ⟨p, 0, none⟩)) ∧ w'.cell? ⟨bo, 4, none⟩ = some (.pointer (some ⟨tb, 0, none⟩)))
    (first | (exact ⟨b2, b4⟩) | (exact ⟨(G7.row F4.out).cell 2 rfl, (G7.row F4.out).cell 4 rfl⟩) | (exact ⟨(G7.row F3.out).cell 2 rfl, (G7.row F3.out).cell 4 rfl⟩))
    (first
      | (go_at_call 23; refine (C1.out _ D2.out).mono ?_; rintro e w3 ⟨tc, rfl, hB⟩; have F3 : Hid (Fam w1 w3 (G7 bo hb q p r tb ub m m t t [TbA tc t t.ents.length])) := HF.out.drew.add hB)
      | (go_at_call 53; refine (C2.out _ _ F3.out).mono ?_; rintro e w4 ⟨hc, pc, rfl, f4⟩; have F4 := Lib.hid f4))
  have cf := tfinish_rep w4 (FX.T3 bo hb q p r tb ub tc hc pc m m t t m t) F4.out HG.out HM.out
  clear C1 C2 D2 b2 b4 F3 hB HF f4
  by_cases hp : t.ph = 0
  · as_aux_lemma =>
    have hfe : t.finish m = (0, 13, t, m) := if_pos hp
    rw [hfe] at cf
    go_wp2_with fail
    refine cf.mono ?_
    rintro e w5 ⟨rfl, f5⟩
    have F5 : Hid (Fam w1 w5 (FX bo hb q p r tb ub tc hc pc m m t t m t)) := f5
    obtain ⟨_, _, _, _, _, hq⟩ := G7.trat F5.out
    have c2 := rtphase_rep w5 hq
    rw [hp] at c2
    have b5 := (G7.row F5.out).cell 5 rfl
    have c3 := lshown_any w5 F5.out HM.out HG.out
    clear cf f5 hq F4
    go_wp2_with fail
    refine c2.mono ?_
    rintro e _ ⟨rfl, rfl⟩
    clear c2
    go_wp2_with fail
    refine c3.mono ?_
    rintro e w6 ⟨rfl, ho6⟩
    have HO6 : Hid (Only [] w w6) := (HO1.out.trans F5.out.only (by simp)).trans ho6 (by simp)
    clear c3 ho6
    go_wp2_with fail
    refine (ssane_any _).mono ?_
    rintro e w7 ⟨rfl, ho⟩
    have HE : Hid (Below ws w w7) := HFIN.out _ (HO6.out.trans ho (by simp))
    go_wp2_with fail
    exact hR.out _ _ ⟨rfl, HE.out⟩
  · as_aux_lemma =>
    have hfe : t.finish m = ((t.fins m : Int), 0, (Tb.steps (t.fins m + 1) (t, m)).1, (Tb.steps (t.fins m + 1) (t, m)).2) := if_neg hp
    rw [hfe] at cf
    have HSP := Lib.hid (Tb.fins_spec HG.out HM.out hp)
    have HST : Hid (∀ k, (Tb.steps k (t, m)).1.Good (Tb.steps k (t, m)).2 ∧ (Tb.steps k (t, m)).2.Ok ∧ (Tb.steps k (t, m)).2.M = m.M) := fun k => HG.out.steps HM.out k
    have HON : Hid (∀ k, (∀ j, j < k → ¬ Tb.over (Tb.steps j (t, m))) → (Tb.steps k (t, m)).1.ph ≠ 0) := fun k hk => (Tb.steps_on HG.out HM.out hp k hk).1
    have HEND : Hid ((Tb.steps (t.fins m + 1) (t, m)).1.ph = 0) := by
      have h := (HG.out.finish HM.out).2.2.2
      rw [hfe] at h
      exact h
    have HSL : Hid ((Tb.steps (t.fins m + 1) (t, m)).1.ents.length = t.ents.length) := Tb.steps_len t m _
    have hp1 : ¬ ((t.ph : Int) = 0) := by omega
    clear hfe
    generalize t.fins m = fi at *
    obtain ⟨tf, htf⟩ : ∃ z, z = (Tb.steps (fi + 1) (t, m)).1 := ⟨_, rfl⟩
    obtain ⟨mf, hmf⟩ : ∃ z, z = (Tb.steps (fi + 1) (t, m)).2 := ⟨_, rfl⟩
    rw [← htf, ← hmf] at cf
    have HTF := Lib.hid htf
    have HMF := Lib.hid hmf
    clear htf hmf
    go_wp2_with fail
    refine cf.mono ?_
    rintro e w5 ⟨rfl, f5⟩
    have F5 : Hid (Fam w1 w5 (FX bo hb q p r tb ub tc hc pc m m t t mf tf)) := f5
    obtain ⟨_, _, _, _, _, hq⟩ := G7.trat F5.out
    have c2 := rtphase_rep w5 hq
    have b5 := (G7.row F5.out).cell 5 rfl
    have c3 := lshown_any w5 F5.out HM.out HG.out
    generalize HPH : t.ph = ph at *
    clear cf f5 hq F4
    go_wp2_with fail
    refine c2.mono ?_
    rintro e _ ⟨rfl, rfl⟩
    clear c2
    go_wp2_with fail
    refine c3.mono ?_
    rintro e w6 ⟨rfl, ho6⟩
    have F6 := Lib.hid (F5.out.only0 ho6)
    clear c3 ho6 b5 F5
    go_wp2_with fail
    go_loopw [11] (fun iv wr => ∃ k : Nat, k ≤ fi ∧ iv = .int .i64 k ∧ Fam w1 wr (FX bo hb q p r tb ub tc hc pc (Tb.steps k (t, m)).2 m (Tb.steps k (t, m)).1 t mf tf)) (fun iv _ => fi - (intOf iv).toNat)
    case atStart => exact ⟨0, by omega, rfl, F6.out⟩
    case round => as_aux_lemma =>
      clear F6
      obtain ⟨n, hn, rfl, hf⟩ := hrel
      obtain ⟨h1, h2, h1500⟩ := HSP.out
      obtain ⟨hg, hm, _⟩ := HST.out n
      have hph := HON.out n (fun j hj => h2 j (by omega))
      have HFW := Lib.hid hf
      have c := tstep_rep wr.drew (G7.TP bo hb q p r tb ub (Tb.steps n (t, m)).2 m (Tb.steps n (t, m)).1 t [TbA tc tf tf.ents.length, PH hc mf.M, MkA pc hc mf.col mf.list]) hf.drew hg hm
      have hk := (hg.step hm).2.2.2 hph
      have D0 : Hid (Only [] wr wr.drew) := (Only.refl [] wr).drew
      have b2 := (G7.row hf).cell 2 rfl
      have b4 := (G7.row hf).cell 4 rfl
      by_cases hlt : n < fi
      · as_aux_lemma =>
        have hno := h2 n hlt
        have he : ((Tb.steps n (t, m)).1.step (Tb.steps n (t, m)).2).2.2.1 = 0 := Classical.not_not.1 hno
        have HNX : Hid ((Tb.steps (n + 1) (t, m)) = (((Tb.steps n (t, m)).1.step (Tb.steps n (t, m)).2).2.2.2.1, ((Tb.steps n (t, m)).1.step (Tb.steps n (t, m)).2).2.2.2.2)) := rfl
        rw [he] at c
        have hgt : ¬ ((fi : Int) < (n : Int)) := by omega
        clear hf hg hm hph hk hno he h1 h2
        generalize (Tb.steps n (t, m)).1.step (Tb.steps n (t, m)).2 = rr at *
        obtain ⟨r1, r2, r3, r4, r5⟩ := rr
        have HC : Hid (Calls Tryz.prog 17 #[.pointer (some ⟨tb, 0, none⟩), .pointer (some ⟨p, 0, none⟩)] wr.drew (fun e w' => e = .returned (.tuple #[.int .i64 r1, .int .i64 r2, .int .i64 0]) ∧ Fam w1 w' (FX bo hb q p r tb ub tc hc pc r5 m r4 t mf tf))) := c
        go_upto_region 12 with fail
        go_region_held3 (fun w' => w'.cell? ⟨bo, 2, none⟩ = some (.pointer (some ⟨p, 0, none⟩)) ∧ w'.cell? ⟨bo, 4, none⟩ = some (.pointer (some ⟨tb, 0, none⟩)))
          (first | (exact ⟨b2, b4⟩) | (exact ⟨(G7.row f4).cell 2 rfl, (G7.row f4).cell 4 rfl⟩))
          (first
            | (go_at_call 17; refine HC.out.mono ?_; rintro e w4 ⟨rfl, f4⟩))
        have HF2 : Hid (Fam w1 w4 (FX bo hb q p r tb ub tc hc pc (Tb.steps (n + 1) (t, m)).2 m (Tb.steps (n + 1) (t, m)).1 t mf tf)) := by rw [HNX.out]; exact f4
        clear c f4 HC
        go_wp2_with fail
        exact ⟨⟨n + 1, by omega, by go_num, HF2.out⟩, by simp [intOf]; omega⟩
      · as_aux_lemma =>
        obtain rfl : n = fi := by omega
        have he : ((Tb.steps n (t, m)).1.step (Tb.steps n (t, m)).2).2.2.1 = 3 := by
          rcases hk with hk | hk
          · exact absurd hk.1 h1
          · exact hk.1
        have HNX : Hid ((Tb.steps (n + 1) (t, m)) = (((Tb.steps n (t, m)).1.step (Tb.steps n (t, m)).2).2.2.2.1, ((Tb.steps n (t, m)).1.step (Tb.steps n (t, m)).2).2.2.2.2)) := rfl
        rw [he] at c
        clear hf hg hm hph hk he h1 h2 hlt
        generalize (Tb.steps n (t, m)).1.step (Tb.steps n (t, m)).2 = rr at *
        obtain ⟨r1, r2, r3, r4, r5⟩ := rr
        have HC : Hid (Calls Tryz.prog 17 #[.pointer (some ⟨tb, 0, none⟩), .pointer (some ⟨p, 0, none⟩)] wr.drew (fun e w' => e = .returned (.tuple #[.int .i64 r1, .int .i64 r2, .int .i64 3]) ∧ Fam w1 w' (FX bo hb q p r tb ub tc hc pc r5 m r4 t mf tf))) := c
        have hrt : r4 = tf := by have h := congrArg Prod.fst HNX.out; rw [← HTF.out] at h; exact h.symm
        have hrm : r5 = mf := by have h := congrArg Prod.snd HNX.out; rw [← HMF.out] at h; exact h.symm
        subst hrt hrm
        have HLEN : Hid (r4.ents.length = t.ents.length) := by have h := HSL.out; rw [HNX.out] at h; exact h
        have HP0 : Hid (r4.ph = 0) := by have h := HEND.out; rw [HNX.out] at h; exact h
        have HGD : Hid (r4.Good r5) := by
          have := (HST.out (n + 1)).1
          rw [HNX.out] at this
          exact this
        clear HTF HMF HSL HEND HST HON HSP
        go_upto_region 12 with fail
        go_region_held3 (fun w' => w'.cell? ⟨bo, 2, none⟩ = some (.pointer (some ⟨p, 0, none⟩)) ∧ w'.cell? ⟨bo, 4, none⟩ = some (.pointer (some ⟨tb, 0, none⟩)))
          (first | (exact ⟨b2, b4⟩) | (exact ⟨(G7.row f4).cell 2 rfl, (G7.row f4).cell 4 rfl⟩))
          (first
            | (go_at_call 17; refine HC.out.mono ?_; rintro e w4 ⟨rfl, f4⟩))
        have F4 := Lib.hid f4
        have HO4 : Hid (Only [] w w4) := HO1.out.trans f4.only (by simp)
        have h3 := FX.T3 bo hb q p r tb ub tc hc pc r5 m r4 t r5 r4
        have hpt : Fam w1 w4 (PT (FX bo hb q p r tb ub tc hc pc r5 m r4 t r5 r4) 8 9 7 hc pc tc r5 r4) := f4
        obtain ⟨_, _, _, hc1⟩ := G7.tbat f4
        obtain ⟨_, _, _, hc2⟩ := PL.tb h3 hpt
        obtain ⟨_, _, _, _, _, hq⟩ := G7.trat f4
        have HB : Hid (∀ wx, Only [] w4 wx → wx.cell? ⟨bo, 2, none⟩ = some (.pointer (some ⟨p, 0, none⟩)) ∧ wx.cell? ⟨bo, 4, none⟩ = some (.pointer (some ⟨tb, 0, none⟩)) ∧ wx.cell? ⟨bo, 5, none⟩ = some (.pointer (some ⟨ub, 0, none⟩))) := fun wx ho => by
          have h := G7.row (f4.only0 ho)
          exact ⟨h.cell 2 rfl, h.cell 4 rfl, h.cell 5 rfl⟩
        have hq20 := HGD.out.b.q20
        have HCL : Hid (∀ wx, Only [] w4 wx → Calls Tryz.prog 32 #[.pointer (some ⟨ub, 0, none⟩)] wx (Exact wx (.int .i64 (t.ents.length : Int)))) := fun wx ho => rtlen_rep wx (hq.only0 ho)
        have HT1 : Hid (∀ wx n, Only [] w4 wx → Calls Tryz.prog 15 #[.pointer (some ⟨tb, 0, none⟩), .int .i64 n] wx (fun e w' => e = .returned (.tuple #[.int .i64 (r4.target n).1, .int .i64 (r4.target n).2]) ∧ Only [] wx w')) := fun wx n ho => ttarget_rep wx (hc1.only0 ho) n
        have HT2 : Hid (∀ wx n, Only [] w4 wx → Calls Tryz.prog 15 #[.pointer (some ⟨tc, 0, none⟩), .int .i64 n] wx (fun e w' => e = .returned (.tuple #[.int .i64 (r4.target n).1, .int .i64 (r4.target n).2]) ∧ Only [] wx w')) := fun wx n ho => ttarget_rep wx (hc2.only0 ho) n
        have HQ1 : Hid (∀ wx, Only [] w4 wx → Calls Tryz.prog 22 #[.pointer (some ⟨tb, 0, none⟩)] wx (RetL wx r4.q)) := fun wx ho => tqueue_rep wx (hc1.only0 ho) (by omega)
        have HQ2 : Hid (∀ wx, Only [] w4 wx → Calls Tryz.prog 22 #[.pointer (some ⟨tc, 0, none⟩)] wx (RetL wx r4.q)) := fun wx ho => tqueue_rep wx (hc2.only0 ho) (by omega)
        have HP1 : Hid (∀ wx, Only [] w4 wx → Calls Tryz.prog 20 #[.pointer (some ⟨tb, 0, none⟩)] wx (Exact wx (.int .i64 0))) := fun wx ho => by
          have := tphase_rep wx (hc1.only0 ho)
          rw [HP0.out] at this
          exact this
        have HP2 : Hid (∀ wx, Only [] w4 wx → Calls Tryz.prog 20 #[.pointer (some ⟨tc, 0, none⟩)] wx (Exact wx (.int .i64 0))) := fun wx ho => by
          have := tphase_rep wx (hc2.only0 ho)
          rw [HP0.out] at this
          exact this
        have HW1 : Hid (∀ wx, Only [] w4 wx → Calls Tryz.prog 57 #[.pointer (some ⟨p, 0, none⟩)] wx (RetL wx r5.white)) := fun wx ho => mwhite_rep wx (G7.TP bo hb q p r tb ub r5 m r4 t [TbA tc r4 r4.ents.length, PH hc r5.M, MkA pc hc r5.col r5.list]).two (f4.only0 ho)
        have HW2 : Hid (∀ wx, Only [] w4 wx → Calls Tryz.prog 57 #[.pointer (some ⟨pc, 0, none⟩)] wx (RetL wx r5.white)) := fun wx ho => mwhite_rep wx h3.two (f4.only0 ho)
        have HTG : Hid (∀ k : Nat, k < t.ents.length → r4.target (k : Int) = ((eAt r4.ents k).tgt, 0)) := fun k hk => by
          unfold Tb.target
          rw [if_neg (by rw [HLEN.out]; omega)]
          rfl
        have HQ20 := Lib.hid hq20
        have HL20 := Lib.hid HG.out.b.le
        have HWL := Lib.hid (Mk.white_len r5)
        clear f4 hpt h3 hc1 hc2 hq hq20 c HC b2 b4 F4 HFW HLEN
        generalize t.ents.length = len at *
        generalize r4.q = tq at *
        generalize r5.white = mwh at *
        go_wp2_with fail
        have HZ := Lib.hid (Only.refl [] w4)
        go_loopw [15] (fun iv wr => ∃ k : Nat, k ≤ len ∧ iv = .int .i64 k ∧ Only [] w4 wr) (fun iv _ => len - (intOf iv).toNat)
        case atStart => exact ⟨0, by omega, rfl, HZ.out⟩
        case round => as_aux_lemma =>
          clear HZ D0
          obtain ⟨k, hk, rfl, ho⟩ := hrel
          have HO := Lib.hid ho
          obtain ⟨b2, b4, b5⟩ := HB.out _ ho
          have cl := HCL.out _ ho
          clear ho
          by_cases hlt : k < len
          · as_aux_lemma =>
            have hlt1 : (k : Int) < (len : Int) := by omega
            have h20 := HL20.out
            have c1 := HT1.out wr (k : Int) HO.out
            rw [HTG.out k hlt] at c1
            go_wp2_with fail
            refine cl.mono ?_
            rintro e _ ⟨rfl, rfl⟩
            clear cl
            go_wp2_with fail
            refine c1.mono ?_
            rintro e w5 ⟨rfl, ho5⟩
            have HO5 : Hid (Only [] w4 w5) := HO.out.trans ho5 (by simp)
            have c2 := HT2.out w5 (k : Int) HO5.out
            rw [HTG.out k hlt] at c2
            clear c1 ho5
            go_wp2_with fail
            refine c2.mono ?_
            rintro e w6 ⟨rfl, ho6⟩
            have HO6 : Hid (Only [] w4 w6) := HO5.out.trans ho6 (by simp)
            clear c2 ho6
            go_wp2_with fail
            exact ⟨⟨k + 1, by omega, by go_num, HO6.out⟩, by simp [intOf]; omega⟩
          · as_aux_lemma =>
            obtain rfl : k = len := by omega
            have hlt1 : ¬ ((k : Int) < (k : Int)) := by omega
            go_wp2_with fail
            refine cl.mono ?_
            rintro e _ ⟨rfl, rfl⟩
            clear cl
            go_wp2_with fail
            have HO0 : Hid (Only [] w4 wr.drew) := HO.out.drew
            go_region_held3 (fun w' => w'.cell? ⟨bo, 2, none⟩ = some (.pointer (some ⟨p, 0, none⟩)) ∧ w'.cell? ⟨bo, 4, none⟩ = some (.pointer (some ⟨tb, 0, none⟩)))
              (first | (exact ⟨b2, b4⟩) | (exact ⟨(HB.out _ HO8.out).1, (HB.out _ HO8.out).2.1⟩) | (exact ⟨(HB.out _ HO7.out).1, (HB.out _ HO7.out).2.1⟩) | (exact ⟨(HB.out _ HO6.out).1, (HB.out _ HO6.out).2.1⟩) | (exact ⟨(HB.out _ HO5.out).1, (HB.out _ HO5.out).2.1⟩) | (exact ⟨(HB.out _ HO3.out).1, (HB.out _ HO3.out).2.1⟩) | (exact ⟨(HB.out _ HO2.out).1, (HB.out _ HO2.out).2.1⟩) | (exact ⟨(HB.out _ HOA.out).1, (HB.out _ HOA.out).2.1⟩) | (exact ⟨(HB.out _ HO0.out).1, (HB.out _ HO0.out).2.1⟩))
              (first
                | (go_at_call_of 22 (Value.pointer (some (Addr.mk tc 0 none))); refine (HQ2.out _ HO0.out).mono ?_; rintro e wA ⟨vA, rfl, hiA, hoA⟩; have HIA := Lib.hid hiA; have HOA := Lib.hid (HO0.out.trans hoA (by simp)); clear hiA; have hpA := Lib.hid hoA; clear hoA)
                | (go_at_call_of 22 (Value.pointer (some (Addr.mk tb 0 none))); refine (HQ1.out _ HOA.out).mono ?_; rintro e wB ⟨vB, rfl, hiB, hoB⟩; have HIB := Lib.hid hiB; have HO2 := Lib.hid (HOA.out.trans hoB (by simp)); clear hiB; have hpB := Lib.hid hoB; clear hoB)
                | (go_at_call_of 34 vA; refine (rints_same wB vA vB tq (HIA.out.only hpB.out (by simp)).read HIB.out.read (by have := HQ20.out; omega)).mono ?_; rintro e wC ⟨rfl, hd3⟩; have HO3 := Lib.hid (HO2.out.trans (hd3.only []) (by simp)); clear hd3)
                | (go_at_call_of 20 (Value.pointer (some (Addr.mk tc 0 none))); refine (HP2.out _ HO3.out).mono ?_; rintro e _ ⟨rfl, rfl⟩)
                | (go_at_call_of 20 (Value.pointer (some (Addr.mk tb 0 none))); refine (HP1.out _ HO3.out).mono ?_; rintro e _ ⟨rfl, rfl⟩)
                | (go_at_call_of 57 (Value.pointer (some (Addr.mk pc 0 none))); refine (HW2.out _ HO3.out).mono ?_; rintro e wD ⟨vD, rfl, hiD, hoD⟩; have HID := Lib.hid hiD; have HO5 := Lib.hid (HO3.out.trans hoD (by simp)); clear hiD; have hpD := Lib.hid hoD; clear hoD)
                | (go_at_call_of 57 (Value.pointer (some (Addr.mk p 0 none))); refine (HW1.out _ HO5.out).mono ?_; rintro e wE ⟨vE, rfl, hiE, hoE⟩; have HIE := Lib.hid hiE; have HO6 := Lib.hid (HO5.out.trans hoE (by simp)); clear hiE; have hpE := Lib.hid hoE; clear hoE)
                | (go_at_call_of 34 vD; refine (rints_same wE vD vE mwh (HID.out.only hpE.out (by simp)).read HIE.out.read (by have := HWL.out; omega)).mono ?_; rintro e wF ⟨rfl, hd6⟩; have HO7 := Lib.hid (HO6.out.trans (hd6.only []) (by simp)); clear hd6)
                | (go_at_call 24; refine (ssane_any _).mono ?_; rintro e wG ⟨rfl, hoG⟩; have HO8 := Lib.hid (HO7.out.trans hoG (by simp)); clear hoG))
            have HE : Hid (Below ws w wG) := HFIN.out _ (HO4.out.trans HO8.out (by simp))
            go_wp2_with fail
            exact hR.out _ _ ⟨rfl, HE.out⟩
end Go.Proofs.YtkjocehdbpekjaaGreat
