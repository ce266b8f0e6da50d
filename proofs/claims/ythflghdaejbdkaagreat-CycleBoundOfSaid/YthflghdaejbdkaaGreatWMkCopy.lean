/- Lemmas of this claim. -/
import Derived.Test.YthflghdaejbdkaaGreatWOArgs
import Derived.Deep.RegionLaw
import Derived.Test.YthflghdaejbdkaaGreatWTbMap
import Derived.Test.YthflghdaejbdkaaGreatCloneLay
import Derived.Deep.AppendLies
namespace Go.Proofs.YthflghdaejbdkaaGreat
open Go.RowKit Go.Maps
set_option maxHeartbeats 12800000
set_option maxRecDepth 100000
set_option linter.unusedVariables false
def gCells (F : Nat → Nat → Value) : Nat → List Value
  | 0 => []
  | m + 1 => gCells F m ++ [F m 0, F m 1, F m 2, F m 3, F m 4]
theorem gCells_succ (F : Nat → Nat → Value) (m : Nat) : gCells F (m + 1) = gCells F m ++ [F m 0, F m 1, F m 2, F m 3, F m 4] := rfl
theorem gCells_congr {F G : Nat → Nat → Value} {m : Nat} (h : ∀ i, i < m → ∀ j, F i j = G i j) : gCells F m = gCells G m := by
  induction m with
  | zero => rfl
  | succ m ih => unfold gCells; rw [ih (fun i hi => h i (by omega)), h m (by omega), h m (by omega), h m (by omega), h m (by omega), h m (by omega)]
structure GPt (w : World) (base : Nat) (L : Nat → Option Gb) (rv sv bv : Int → Value) (ogv : Value) (ob : Int → Option Th) (m : Nat) : Prop where
  row : w.ownsRow base 217 5 ogv m (gCells (fun i j => gFld (ob i) (rv i) (sv i) (bv i) j) m)
  og : ∀ g, ogv.ownBlock = some g → L g = none
  lt : ∀ k, L k ≠ none → base ≤ k ∧ k < w.heap.size
  th : ∀ i : Nat, i < m → ∀ o, ob i = some o → GTh w L i (rv i) (sv i) (bv i) o
section
variable {w w' : World} {base : Nat} {L : Nat → Option Gb} {rv sv bv : Int → Value} {ogv ogv' r s b : Value} {ob : Int → Option Th} {m : Nat}
theorem GPt.nil (w : World) (base : Nat) (ob : Int → Option Th) : GPt w base (fun _ => none) (fun _ => .slice none 0 0) (fun _ => .slice none 0 0) (fun _ => .slice none 0 0) (.slice none 0 0) ob 0 :=
  ⟨World.ownsRow_nil _ _ _ _, fun g hg => rfl, fun k hk => absurd rfl hk, fun i hi => by omega⟩
theorem GPt.next (h : GPt w base L rv sv bv ogv ob m) (hbs : base ≤ w.heap.size) (hO : OnlyP (fun k => ogv.ownBlock = some k ∨ k < base) w w')
    (hrow : w'.ownsRow base 217 5 ogv' (m + 1) (gCells (fun i j => gFld (ob i) (rv i) (sv i) (bv i) j) m ++ [gFld (ob m) r s b 0, gFld (ob m) r s b 1, gFld (ob m) r s b 2, gFld (ob m) r s b 3, gFld (ob m) r s b 4]))
    (hor : ∀ k, r.ownBlock = some k → w.heap.size ≤ k ∧ k < w'.heap.size) (hos : ∀ k, s.ownBlock = some k → w.heap.size ≤ k ∧ k < w'.heap.size) (hob : ∀ k, b.ownBlock = some k → w.heap.size ≤ k ∧ k < w'.heap.size)
    (hog : ∀ g, ogv'.ownBlock = some g → ogv.ownBlock = some g ∨ (w.heap.size ≤ g ∧ r.ownBlock ≠ some g ∧ s.ownBlock ≠ some g ∧ b.ownBlock ≠ some g))
    (hth : ∀ o, ob m = some o → Bls w' 0 r o.refs ∧ Ints w' 0 s o.slots ∧ Ints w' 0 b o.blocks)
    (d1 : ∀ g, r.ownBlock = some g → s.ownBlock ≠ some g ∧ b.ownBlock ≠ some g) (d2 : ∀ g, s.ownBlock = some g → b.ownBlock ≠ some g) :
    ∃ L' rv' sv' bv', GPt w' base L' rv' sv' bv' ogv' ob (m + 1) := by
  obtain ⟨L', hL'⟩ : ∃ L' : Nat → Option Gb, L' = fun k => if r.ownBlock = some k then some (.rb m) else if s.ownBlock = some k then some (.sl m) else if b.ownBlock = some k then some (.bl m) else L k := ⟨_, rfl⟩
  have hlab : ∀ k, L k ≠ none → L' k = L k := fun k hk => by
    have := h.lt k hk
    rw [hL']
    simp only
    rw [if_neg (fun e => by have := hor k e; omega), if_neg (fun e => by have := hos k e; omega), if_neg (fun e => by have := hob k e; omega)]
  have hnew : ∀ k, L' k ≠ none → L k ≠ none ∨ (w.heap.size ≤ k ∧ k < w'.heap.size) := fun k hk => by
    rw [hL'] at hk
    simp only at hk
    by_cases e1 : r.ownBlock = some k
    · exact .inr (hor k e1)
    · rw [if_neg e1] at hk
      by_cases e2 : s.ownBlock = some k
      · exact .inr (hos k e2)
      · rw [if_neg e2] at hk
        by_cases e3 : b.ownBlock = some k
        · exact .inr (hob k e3)
        · rw [if_neg e3] at hk; exact .inl hk
  refine ⟨L', fun k => if k = m then r else rv k, fun k => if k = m then s else sv k, fun k => if k = m then b else bv k, ?_, fun g hg => ?_, fun k hk => ?_, fun i hi o ho => ?_⟩
  · have e : gCells (fun i j => gFld (ob i) (if (i : Int) = m then r else rv i) (if (i : Int) = m then s else sv i) (if (i : Int) = m then b else bv i) j) (m + 1) = gCells (fun i j => gFld (ob i) (rv i) (sv i) (bv i) j) m ++ [gFld (ob m) r s b 0, gFld (ob m) r s b 1, gFld (ob m) r s b 2, gFld (ob m) r s b 3, gFld (ob m) r s b 4] := by
      rw [gCells_succ]
      simp only [if_true]
      congr 1
      exact gCells_congr (fun i hi j => by
        have : ¬ ((i : Int) = (m : Int)) := by omega
        simp only [if_neg this])
    rw [e]
    exact hrow
  · rcases hog g hg with h1 | ⟨h1, h2, h3, h4⟩
    · have h2 := h.og g h1
      have h3 := World.ownsRow.lt h.row g h1
      rw [hL']
      simp only
      rw [if_neg (fun e => by have := hor g e; omega), if_neg (fun e => by have := hos g e; omega), if_neg (fun e => by have := hob g e; omega)]
      exact h2
    · have h5 : L g = none := by
        cases e : L g with
        | none => rfl
        | some ℓ => have := h.lt g (by rw [e]; simp); omega
      rw [hL']
      simp only
      rw [if_neg h2, if_neg h3, if_neg h4]
      exact h5
  · rcases hnew k hk with e | e
    · have := h.lt k e; have := hO.size; omega
    · omega
  · by_cases e : i = m
    · subst e
      simp only [if_true]
      obtain ⟨h1, h2, h3⟩ := hth o ho
      refine ⟨h1, fun g hg => ?_, h2, fun g hg => ?_, h3, fun g hg => ?_⟩
      · rw [hL']; simp only; rw [if_pos hg]
      · rw [hL']; simp only; rw [if_neg (fun e => (d1 g e).1 hg), if_pos hg]
      · rw [hL']; simp only; rw [if_neg (fun e => (d1 g e).2 hg), if_neg (fun e => d2 g e hg), if_pos hg]
    · have e2 : ¬ ((i : Int) = (m : Int)) := by omega
      simp only [if_neg e2]
      refine ((h.th i (by omega) o ho).only hO (fun x hx => ?_)).lab hlab
      have : L x = none := by
        rcases hx with hx | hx
        · exact h.og x hx
        · cases e : L x with
          | none => rfl
          | some ℓ => have := h.lt x (by rw [e]; simp); omega
      rw [this]
      exact ⟨by simp, by simp, by simp⟩
end
section
variable {L : Nat → Option Gb} {hb : Nat} {M : Hp} {X : GX}
end
end Go.Proofs.YthflghdaejbdkaaGreat
namespace Go.Proofs.YthflghdaejbdkaaGreat
open Go.RowKit Go.Maps Go.Shelf
set_option maxHeartbeats 12800000
set_option maxRecDepth 100000
set_option linter.unusedVariables false
theorem cloneC_any (w : World) (mb : Nat) (col : Int → Int) (h : MapC w mb col) : Calls Tryz.prog 186 #[.map (some mb)] w fun e w' => e = .returned (.map (some w.heap.size)) ∧ MapC w' w.heap.size col ∧ Only [] w w' := by
  obtain ⟨D, hD, h1, h2⟩ := h
  have c := AnyW.maps_Clone_owns Tryz.cloneC 3 (plainElem (H := Unit) Tryz.prog 3) mb 192 D w hD
  change Calls Tryz.prog 186 _ _ _ at c
  exact c.mono fun e w' ⟨he, ho, _, hb⟩ => ⟨he, ⟨D, ho, h1, h2⟩, ⟨hb.os, hb.tape, hb.output, hb.size, fun k hk _ => hb.block k hk⟩⟩
section
variable {w0 w : World} {l : List Asn} {i j hb p q r : Nat} {m : Mk}
theorem mcopyL_rep (w : World) (T2 : Two2 l i j) (hf : Fam w0 w (ML l i j hb p m)) (hm : m.list.length ≤ 192) : Calls Tryz.prog 108 #[.pointer (some ⟨p, 0, none⟩)] w (fun e w' => ∃ q2 p2, e = .returned (.pointer (some ⟨p2, 0, none⟩)) ∧ Fam w0 w' (ML l i j hb p m ++ [PH q2 m.M] ++ [MkA p2 q2 m.col m.list])) := by
  refine calls_abs fun R hR => ?_
  have HF := Lib.hid hf
  obtain ⟨hk, L, X, hp⟩ := ML.ph T2 hf
  have HKF := Lib.hid (hf.phF i (ML.heap T2))
  obtain ⟨mb, v, hg⟩ := ML.mk T2 hf
  have HC1 : Hid (∀ wx, Only [] w wx → Calls Tryz.prog 128 #[.pointer (some ⟨hb, 0, none⟩)] wx (fun e w' => ∃ q L' X', e = .returned (.pointer (some ⟨q, 0, none⟩)) ∧ HRep w' L' q m.M X' ∧ (∀ k, L' k ≠ none → wx.heap.size ≤ k) ∧ Only [] wx w')) := fun wx ho => by
    have c := hcopy_rep wx (hp.only0 ho) hk
    exact c
  have HC2 : Hid (∀ wx, Only [] w wx → Calls Tryz.prog 186 #[.map (some mb)] wx (fun e w' => e = .returned (.map (some wx.heap.size)) ∧ MapC w' wx.heap.size m.col ∧ Only [] wx w')) := fun wx ho => cloneC_any wx mb m.col (hg.map.onlyF ho (by simp))
  have HC3 : Hid (∀ wx, Only [] w wx → Calls Tryz.prog 80 #[v] wx (fun e w' => ∃ v', e = .returned v' ∧ Ints w' wx.heap.size v' m.list ∧ Only [] wx w')) := fun wx ho => clone_ownI wx v m.list (hg.ints.only ho (by simp)) (by have := hm; omega)
  obtain ⟨z0, z1, z2, _⟩ := hg.cells
  have hn := mnone_rep w z0
  have d0 : w.drew.cell? ⟨p, 0, none⟩ = _ := z0
  have d1 : w.drew.cell? ⟨p, 1, none⟩ = _ := z1
  have d2 : w.drew.cell? ⟨p, 2, none⟩ = _ := z2
  obtain ⟨ga, gc, hv⟩ := hg.ints.len
  subst hv
  generalize m.list.length = n at *
  have D0 := Lib.hid (only_d1 w)
  clear hf hk hp hg
  go_enter Tryz.func108, Tryz.ntmps108
  go_wp2_with fail
  refine hn.mono ?_
  rintro e _ ⟨rfl, rfl⟩
  clear hn
  go_wp2_with fail
  go_region_held3 (fun w' => w'.cell? ⟨p, 0, none⟩ = some (.pointer (some ⟨hb, 0, none⟩)) ∧ w'.cell? ⟨p, 1, none⟩ = some (.map (some mb)) ∧ w'.cell? ⟨p, 2, none⟩ = some (.slice ga n gc))
    (first
      | (exact ⟨d0, d1, d2⟩)
      | (exact ⟨hoA.cellN d0, hoA.cellN d1, hoA.cellN d2⟩)
      | (exact ⟨hoB.cellN d0, hoB.cellN d1, hoB.cellN d2⟩)
      | (exact ⟨hoC.cellN d0, hoC.cellN d1, hoC.cellN d2⟩)
      | (exact ⟨hoB.cellN (hoA.cellN d0), hoB.cellN (hoA.cellN d1), hoB.cellN (hoA.cellN d2)⟩)
      | (exact ⟨hoC.cellN (hoB.cellN (hoA.cellN d0)), hoC.cellN (hoB.cellN (hoA.cellN d1)), hoC.cellN (hoB.cellN (hoA.cellN d2))⟩)
      | (exact ⟨(hoC.alloc _).cellN (hoB.cellN (hoA.cellN d0)), (hoC.alloc _).cellN (hoB.cellN (hoA.cellN d1)), (hoC.alloc _).cellN (hoB.cellN (hoA.cellN d2))⟩))
    (first
      | (go_at_call 128; refine (HC1.out _ D0.out).mono ?_; rintro e wA ⟨q2, L2, X2, rfl, hpA, hLA, hoA⟩)
      | (go_at_call 186; refine (HC2.out _ (D0.out.trans hoA (by simp))).mono ?_; rintro e wB ⟨rfl, hmB, hoB⟩)
      | (go_at_call 80; refine (HC3.out _ ((D0.out.trans hoA (by simp)).trans hoB (by simp))).mono ?_; rintro e wC ⟨v2, rfl, hiC, hoC⟩; obtain ⟨va2, vc2, hv2⟩ := hiC.len; subst hv2)
)
  have hFA : Fam w0 wA (ML l i j hb p m ++ [PH q2 m.M]) := HF.out.drew.add (pborn hpA HKF.out hLA hoA)
  have hBC : Only [] wB ((wC.alloc (.cells #[.pointer (some ⟨q2, 0, none⟩), .map (some wA.heap.size), .slice va2 m.list.length vc2] 129))) := hoC.alloc _
  have hsB := hoB.size
  have hsC := hoC.size
  have hmlt := hmB.lt
  have hborn : Born wA (wC.alloc (.cells #[.pointer (some ⟨q2, 0, none⟩), .map (some wA.heap.size), .slice va2 m.list.length vc2] 129)) (MkA wC.heap.size q2 m.col m.list) := by
    refine ⟨hoB.trans hBC (by simp), fun k => k = wC.heap.size ∨ k = wA.heap.size ∨ (Value.slice va2 m.list.length vc2).ownBlock = some k, ⟨wA.heap.size, .slice va2 m.list.length vc2, ⟨⟨129, Row.new wC 129 [_, _, _]⟩, hmB.onlyF hBC (by simp), (hiC.base (Nat.zero_le _)).alloc _, by omega, fun g hg => ?_⟩, fun k => Iff.rfl⟩, fun k hk => ?_⟩
    · have := hiC.own g hg
      exact ⟨by omega, by omega⟩
    · rcases hk with hk | hk | hk
      · omega
      · omega
      · have := hiC.own k hk; omega
  have HFE := Lib.hid (hFA.add hborn)
  clear hFA hBC hborn hmlt hsB hsC hpA hLA hoA hmB hoB hiC hoC d0 d1 d2
  go_wp2_with fail
  exact hR.out _ _ ⟨q2, wC.heap.size, rfl, HFE.out⟩
end
end Go.Proofs.YthflghdaejbdkaaGreat
