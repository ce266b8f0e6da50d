/- Lemmas of this claim. -/
import Derived.Test.YthflghdaejbdkaaKObj
namespace Go.Proofs.Ythflghdaejbdkaa
open Go.RowKit Go.Maps
set_option maxHeartbeats 3200000
set_option maxRecDepth 100000
set_option linter.unusedVariables false
section
variable {w w' : World} {L : Nat → Option Lb} {hb : Nat} {M : Hp} {X : HX}
end
end Go.Proofs.Ythflghdaejbdkaa
namespace Go.Proofs.Ythflghdaejbdkaa
open Go.RowKit Go.Maps
set_option maxHeartbeats 3200000
set_option maxRecDepth 100000
set_option linter.unusedVariables false
theorem allocN_none {P : Pl} {l : List Int} {k m : Nat} (h : allocN P l k = none) (hm : k ≤ m) : allocN P l m = none := by
  induction m with
  | zero => (obtain rfl : k = 0 := (by omega)); exact h
  | succ m ih =>
    by_cases e : k = m + 1
    · rw [← e]; exact h
    · unfold allocN
      rw [ih (by omega)]
theorem allocN_succ {P Q : Pl} {l bs : List Int} {k : Nat} (h : allocN P l k = some (bs, Q)) : allocN P l (k + 1) = if (Q.alloc (gI l k)).2.1 = 0 then some (bs ++ [(Q.alloc (gI l k)).1], (Q.alloc (gI l k)).2.2) else none := by
  unfold allocN
  rw [h]
theorem fit_any (w : World) (n : Nat) (hn : n ≤ 1000) : Calls Try.prog 63 #[.int .i64 n] w (Exact w (.int .i64 (fitC n))) := by
  refine calls_abs fun R hR => ?_
  by_cases h2 : n ≤ 2
  · have e : fitC n = 0 := by unfold fitC; rw [if_pos h2]
    rw [e] at hR
    have h2i : (n : Int) ≤ 2 := by omega
    clear e
    go_enter Try.func63, Try.ntmps63
    go_wp2_with fail
    exact hR.out _ _ ⟨rfl, rfl⟩
  · have h2i : ¬ (n : Int) ≤ 2 := by omega
    by_cases h4 : n ≤ 4
    · have e : fitC n = 1 := by unfold fitC; rw [if_neg h2, if_pos h4]
      rw [e] at hR
      have h4i : (n : Int) ≤ 4 := by omega
      clear e
      go_enter Try.func63, Try.ntmps63
      go_wp2_with fail
      exact hR.out _ _ ⟨rfl, rfl⟩
    · have e : fitC n = 2 := by unfold fitC; rw [if_neg h2, if_neg h4]
      rw [e] at hR
      have h4i : ¬ (n : Int) ≤ 4 := by omega
      clear e
      go_enter Try.func63, Try.ntmps63
      go_wp2_with fail
      exact hR.out _ _ ⟨rfl, rfl⟩
section
variable {w w' : World} {L : Nat → Option Lb} {hb : Nat} {M : Hp} {X : HX}
theorem HRep.addEnd (h : HRep w L hb M X) {hN : Int} {o : Th} {p' b' xb : Nat} {P' : Pl} {rv bv : Value} (hg : OnlyP (fun k => L k = some .mem ∨ L k = some .map) w w')
    (hm : ∃ T, Row w' hb T [.pointer (some ⟨p', 0, none⟩), .map (some X.mb)]) (hp : PRep w' p' b' P') (hmp : MapAt w' X.mb 192 (fun k => if k = hN then some xb else (M.ob k).map fun _ => X.blk k))
    (hrow : ∃ T, Row w' xb T (thRow o rv bv)) (hrv : Bls w' w.heap.size rv o.rlist) (hbv : Ints w' w.heap.size bv o.blocks)
    (h1 : w.heap.size ≤ p' ∧ p' < w'.heap.size) (h2 : w.heap.size ≤ b' ∧ b' < w'.heap.size) (h3 : w.heap.size ≤ xb ∧ xb < w'.heap.size)
    (d1 : xb ≠ p') (d2 : xb ≠ b') (d3 : ∀ g, rv.ownBlock = some g → g ≠ p' ∧ g ≠ b' ∧ g ≠ xb) (d4 : ∀ g, bv.ownBlock = some g → g ≠ p' ∧ g ≠ b' ∧ g ≠ xb ∧ rv.ownBlock ≠ some g) :
    ∃ L' X', HRep w' L' hb ⟨P', setT M.ob hN (some o)⟩ X' ∧ ∀ k, L' k ≠ none → L k ≠ none ∨ w.heap.size ≤ k := by
  obtain ⟨L', hL'⟩ : ∃ L' : Nat → Option Lb, L' = fun k => if k = p' then some .pool else if k = b' then some .pages else if k = xb then some (.th hN) else if rv.ownBlock = some k then some (.rb hN) else if bv.ownBlock = some k then some (.bl hN) else L k := ⟨_, rfl⟩
  have hlab : ∀ k, L k ≠ none → L' k = L k := fun k hk => by
    have := h.lt k hk
    rw [hL']
    simp only
    rw [if_neg (by omega), if_neg (by omega), if_neg (by omega), if_neg (fun e => by have := (hrv.own k e).1; omega), if_neg (fun e => by have := (hbv.own k e).1; omega)]
  have hnew : ∀ k, L' k ≠ none → L k ≠ none ∨ (w.heap.size ≤ k ∧ k < w'.heap.size) := fun k hk => by
    rw [hL'] at hk
    simp only at hk
    by_cases e1 : k = p'
    · rw [e1]; exact .inr h1
    · rw [if_neg e1] at hk
      by_cases e2 : k = b'
      · rw [e2]; exact .inr h2
      · rw [if_neg e2] at hk
        by_cases e3 : k = xb
        · rw [e3]; exact .inr h3
        · rw [if_neg e3] at hk
          by_cases e4 : rv.ownBlock = some k
          · exact .inr (hrv.own k e4)
          · rw [if_neg e4] at hk
            by_cases e5 : bv.ownBlock = some k
            · exact .inr (hbv.own k e5)
            · rw [if_neg e5] at hk; exact .inl hk
  have hne : ∀ k ℓ, ℓ ≠ Lb.mem → ℓ ≠ .map → (L k = some .mem ∨ L k = some .map) → L k ≠ some ℓ := fun k ℓ e1 e2 hk e => by
    rcases hk with hk | hk
    · rw [hk] at e; cases e; exact e1 rfl
    · rw [hk] at e; cases e; exact e2 rfl
  have hpb := hp.ne
  refine ⟨L', ⟨p', b', X.mb, fun k => if k = hN then xb else X.blk k, fun k => if k = hN then rv else X.rv k, fun k => if k = hN then bv else X.bv k⟩, ⟨fun k hk => ?_, hm, lab_of hlab h.Lm, hp, by rw [hL']; simp, by rw [hL']; simp [Ne.symm hpb], ?_, lab_of hlab h.Lp, fun k u hk => ?_⟩, fun k hk => (hnew k hk).imp id (fun e => e.1)⟩
  · rcases hnew k hk with e | e
    · exact Nat.lt_of_lt_of_le (h.lt k e) hg.size
    · exact e.2
  · refine hmp.congr (fun k => ?_)
    show _ = (setT M.ob hN (some o) k).map fun _ => if k = hN then xb else X.blk k
    by_cases e : k = hN
    · rw [e, setT_same, if_pos rfl, if_pos rfl]; rfl
    · rw [setT_other _ _ e, if_neg e, if_neg e]
  · show ThAt w' L' k (if k = hN then xb else X.blk k) (if k = hN then rv else X.rv k) (if k = hN then bv else X.bv k) u
    rcases setT_some hk with ⟨rfl, rfl⟩ | ⟨e, hk'⟩
    · rw [if_pos rfl, if_pos rfl, if_pos rfl]
      refine ⟨hrow, ?_, hrv.base (Nat.zero_le _), fun g hgv => ?_, hbv.base (Nat.zero_le _), fun g hgv => ?_⟩
      · rw [hL']; simp [d1, d2]
      · obtain ⟨a1, a2, a3⟩ := d3 g hgv
        rw [hL']; simp [a1, a2, a3, hgv]
      · obtain ⟨a1, a2, a3, a4⟩ := d4 g hgv
        rw [hL']; simp [a1, a2, a3, a4, hgv]
    · rw [if_neg e, if_neg e, if_neg e]
      exact ((h.th k u hk').only hg (fun x hx => ⟨hne x _ (by simp) (by simp) hx, hne x _ (by simp) (by simp) hx, hne x _ (by simp) (by simp) hx⟩)).lab hlab
end
end Go.Proofs.Ythflghdaejbdkaa
namespace Go.Proofs.Ythflghdaejbdkaa
open Go.RowKit Go.Maps
set_option maxHeartbeats 6400000
set_option maxRecDepth 100000
set_option linter.unusedVariables false
theorem Ints.one (w : World) (c : Int) : Ints (w.alloc (.cells #[.int .i64 c] 3)) w.heap.size (.slice (some ⟨w.heap.size, 0, none⟩) 1 1) [c] :=
  ⟨by simp, .inr ⟨w.heap.size, 1, #[.int .i64 c], rfl, Nat.le_refl _, Row.new w 3 [.int .i64 c], Nat.le_refl _, by decide, rfl, rfl⟩⟩
theorem needs_small {n : Nat} (h : ¬ 7 < n) : needs n = [fitC (1 + n)] := by unfold needs; rw [if_neg h]
theorem needs_grow {n j : Nat} (h : 7 < n) (hj : ¬ j * 8 < n) (hj2 : (j - 1) * 8 < n) (hj0 : 0 < j) : fitC (1 + n) :: List.replicate j 2 = needs n := by
  unfold needs
  rw [if_pos h]
  have : j = (n + 7) / 8 := by omega
  rw [this]
theorem cons_rep (c : Int) (j : Nat) : c :: (List.replicate j (2 : Int) ++ [2]) = c :: List.replicate (j + 1) 2 := by
  rw [← List.replicate_succ']
section
variable {w0 : World} {L : Nat → Option Lb} {hb : Nat} {M : Hp} {X : HX}
theorem least_step {k : Nat} (hk : k < 192) (h : ∀ j, j < k → M.ob ((j : Int) + 1) ≠ none) (h2 : M.ob ((k : Int) + 1) = none) : M.least = k :=
  fst_eq (f := fun k => (M.ob ((k : Int) + 1)).isNone) hk (by simp [h2]) (fun j hj => by
    cases e : M.ob ((j : Int) + 1) with
    | none => exact absurd e (h j hj)
    | some o => simp)
theorem least_full (h : ∀ j : Nat, j < 192 → M.ob ((j : Int) + 1) ≠ none) : ¬ M.least < 192 := by
  have := fst_none (f := fun k => (M.ob ((k : Int) + 1)).isNone) (m := 192) (fun j hj => by
    cases e : M.ob ((j : Int) + 1) with
    | none => exact absurd e (h j hj)
    | some o => simp)
  unfold Hp.least
  omega
theorem add_full {o : Th} (h : ¬ M.least < 192) : M.add o = (0, 14, M) := by unfold Hp.add; rw [if_neg h]
theorem add_none {o : Th} {k : Nat} (hk : k ≤ (needs o.slots.length).length) (h : allocN M.P (needs o.slots.length) k = none) : M.add o = (0, 14, M) := by
  unfold Hp.add
  split
  · rw [allocN_none h hk]
  · rfl
theorem add_some {o : Th} {bs : List Int} {Q : Pl} (hl : M.least < 192) (h : allocN M.P (needs o.slots.length) (needs o.slots.length).length = some (bs, Q)) :
    M.add o = ((M.least : Int) + 1, 0, ⟨headP Q ((M.least : Int) + 1) bs, setT M.ob ((M.least : Int) + 1) (some { o with blocks := bs })⟩) := by
  unfold Hp.add
  rw [if_pos hl, h]
theorem addDone {w9 : World} (h : HRep w0 L hb M X) (hk : M.Ok) {o : Th} {kd cl : Int} {n : Nat} {rv bv : Value} {p' b' xb T : Nat} {Q : Pl} {bs : List Int} (hl : M.least < 192)
    (hs : allocN M.P (needs o.slots.length) (needs o.slots.length).length = some (bs, Q)) (hp : PRep w9 p' b' (headP Q ((M.least : Int) + 1) bs)) (ho : Only [] w0 w9)
    (hrow : Row w9 xb T [.int .i64 kd, .int .i64 cl, .int .i64 n, rv, bv]) (e1 : kd = o.kind) (e2 : cl = o.cls) (e3 : n = o.slots.length)
    (hrv : Bls w9 w0.heap.size rv o.rlist) {base : Nat} (hbv : Ints w9 base bv bs) (hx : w0.heap.size ≤ xb) (hrx : ∀ g, rv.ownBlock = some g → g < xb) (hp1 : xb < p') (hb1 : xb < b') (hp2 : p' < base) (hb2 : b' < base) :
    ∃ w11, (Instr.mapUpdate 96 (.map (some X.mb)) (.int .i64 ((M.least : Int) + 1)) (.pointer (some ⟨xb, 0, none⟩))).run Try.prog (w9.setCell ⟨hb, 0, none⟩ (.pointer (some ⟨p', 0, none⟩))) = .ok () w11 ∧
      HDid w0 L hb (.tuple #[.int .i64 (M.add o).1, .int .i64 (M.add o).2.1]) (M.add o).2.2 (.returned (.tuple #[.int .i64 ((M.least : Int) + 1), .int .i64 0])) w11 := by
  have hne : hb ≠ X.mb := by rintro e; have := h.Lm; rw [e, h.Lp] at this; cases this
  have hO : OnlyP (· = hb) w0 (w9.setCell ⟨hb, 0, none⟩ (.pointer (some ⟨p', 0, none⟩))) := (ho.toP0 (S := (· = hb))).set (.inl rfl) _
  have hm10 := h.mp.only hO (fun e => hne e.symm)
  have hwf : wfI ((M.least : Int) + 1) := wfI_mk (by omega)
  obtain ⟨w11, hrun, hm11, hg⟩ := hm10.store (by omega) hwf xb
  have O9 : OnlyP (fun k => k = hb ∨ k = X.mb) w9 w11 := ((OnlyP.refl (fun k => k = hb ∨ k = X.mb) w9).set (p := ⟨hb, 0, none⟩) (.inl (.inl rfl)) (.pointer (some ⟨p', 0, none⟩))).grown hg (fun k hk => by cases hk; exact .inl (.inr rfl))
  have hmb := h.mp.lt
  have hhb : hb < w0.heap.size := h.lt hb (by rw [h.Lm]; simp)
  have hsz := ho.size
  have hsz11 := O9.size
  obtain ⟨_, _, _, _, f1, f2⟩ := hp.facts
  have hxl := hrow.lt
  have hnot : ∀ k, w0.heap.size ≤ k → ¬ (k = hb ∨ k = X.mb) := fun k hk e => by rcases e with e | e <;> omega
  have hmem9 := (h.only0 ho).mem
  obtain ⟨Tm, hrm⟩ := hmem9
  have hrm10 := hrm.set 0 (.pointer (some ⟨p', 0, none⟩))
  have hrm11 : Row w11 hb Tm [.pointer (some ⟨p', 0, none⟩), .map (some X.mb)] := hrm10.grown hg (by intro e; cases e; exact hne rfl)
  have O0 : OnlyP (fun k => L k = some .mem ∨ L k = some .map) w0 w11 := (ho.toP0 (S := fun k => L k = some .mem ∨ L k = some .map)).trans O9 (fun x hx => by
    rcases hx with rfl | rfl
    · exact .inl (.inl h.Lm)
    · exact .inl (.inr h.Lp))
  have hrow11 : Row w11 xb T (thRow { o with blocks := bs } rv bv) := by
    have := O9.row hrow (hnot xb hx)
    unfold thRow
    rw [← e1, ← e2, ← e3]
    exact this
  have hmp11 : MapAt w11 X.mb 192 (fun k => if k = (M.least : Int) + 1 then some xb else (M.ob k).map fun _ => X.blk k) := hm11.bound (fun k hs => by
    by_cases e : k = (M.least : Int) + 1
    · omega
    · simp only [e, if_false] at hs
      cases eo : M.ob k with
      | none => rw [eo] at hs; cases hs
      | some u => exact hk.hr k u eo)
  obtain ⟨L', X', q1, q2⟩ := h.addEnd (w' := w11) (hN := (M.least : Int) + 1) (o := { o with blocks := bs }) (p' := p') (b' := b') (xb := xb) (P' := headP Q ((M.least : Int) + 1) bs) (rv := rv) (bv := bv) O0 ⟨Tm, hrm11⟩
    (hp.onlyP O9 (hnot p' (by omega)) (hnot b' (by omega))) hmp11 ⟨T, hrow11⟩ (hrv.onlyP O9 (fun g hg => hnot g (hrv.own g hg).1)) ((hbv.base (b := w0.heap.size) (by omega)).onlyP O9 (fun g hg => hnot g (by have := (hbv.own g hg).1; omega)))
    ⟨by omega, by omega⟩ ⟨by omega, by omega⟩ ⟨hx, by omega⟩ (by omega) (by omega) (fun g hg => by have := hrx g hg; omega)
    (fun g hg => ⟨by have := (hbv.own g hg).1; omega, by have := (hbv.own g hg).1; omega, by have := (hbv.own g hg).1; omega, fun e => by have := (hbv.own g hg).1; have := hrx g e; omega⟩)
  refine ⟨w11, hrun, ?_⟩
  rw [add_some hl hs]
  refine ⟨rfl, L', X', q1, q2, O0.mono (fun x hx => .inl (by rcases hx with e | e <;> rw [e] <;> simp))⟩
theorem add_rep (w : World) (h : HRep w0 L hb M X) (hk : M.Ok) (hw : Only [] w0 w) (o : Th) (ho : o.ok1) (rv : Value) (hrv : Bls w w0.heap.size rv o.rlist) :
    Calls Try.prog 40 #[.pointer (some ⟨hb, 0, none⟩), .agg #[.int .i64 o.kind, .int .i64 o.cls, .int .i64 o.slots.length, rv, .slice none 0 0]] w
      (HDid w0 L hb (.tuple #[.int .i64 (M.add o).1, .int .i64 (M.add o).2.1]) (M.add o).2.2) := by
  refine calls_abs fun R hR => ?_
  obtain ⟨ra, rc, hra⟩ := hrv.len
  have hn48 := ho.le
  obtain ⟨rn, hrn⟩ : ∃ b, b = o.rlist.length := ⟨_, rfl⟩
  obtain ⟨n, hn⟩ : ∃ b, b = o.slots.length := ⟨_, rfl⟩
  obtain ⟨kd, hkd⟩ : ∃ b, b = o.kind := ⟨_, rfl⟩
  obtain ⟨cl, hcl⟩ : ∃ b, b = o.cls := ⟨_, rfl⟩
  have HRV := Lib.hid hrv
  rw [hra, ← hrn] at HRV
  rw [hra, ← hrn, ← hn, ← hkd, ← hcl]
  have H := Lib.hid h
  have OK := Lib.hid hk
  have HW := Lib.hid hw
  have HN := Lib.hid hn
  have HKD := Lib.hid hkd
  have HCL := Lib.hid hcl
  have HRN := Lib.hid hrn
  rw [← hn] at hn48
  have HO1 : Hid (Only [] w0 (w.alloc (.cells #[.int .i64 kd, .int .i64 cl, .int .i64 n, .slice ra rn rc, .slice none 0 0] 104))) := hw.alloc _
  have HROW : Hid (Row (w.alloc (.cells #[.int .i64 kd, .int .i64 cl, .int .i64 n, .slice ra rn rc, .slice none 0 0] 104)) w.heap.size 104 [.int .i64 kd, .int .i64 cl, .int .i64 n, .slice ra rn rc, .slice none 0 0]) := Row.new w _ [_, _, _, _, _]
  have HRV1 : Hid (Bls (w.alloc (.cells #[.int .i64 kd, .int .i64 cl, .int .i64 n, .slice ra rn rc, .slice none 0 0] 104)) w0.heap.size (.slice ra rn rc) o.rlist) := HRV.out.alloc _
  have HRB : Hid (∀ g, (Value.slice ra rn rc).ownBlock = some g → g < w.heap.size) := fun g hg => (HRV.out.own g hg).2
  have HX : Hid (w0.heap.size ≤ w.heap.size) := hw.size
  have hsz1 : w.heap.size < (w.alloc (.cells #[.int .i64 kd, .int .i64 cl, .int .i64 n, .slice ra rn rc, .slice none 0 0] 104)).heap.size := by simp
  clear h hk hw hrv ho hra
  clear hn hkd hcl hrn
  go_enter Try.func40, Try.ntmps40
  go_wp2_with fail
  generalize (w.alloc (.cells #[.int .i64 kd, .int .i64 cl, .int .i64 n, .slice ra rn rc, .slice none 0 0] 104)) = w1 at *
  obtain ⟨xb, hxb⟩ : ∃ b, b = w.heap.size := ⟨_, rfl⟩
  rw [← hxb] at HROW HRB HX hsz1 ⊢
  clear hxb HRV HW
  have HH1 := Lib.hid (H.out.only0 HO1.out)
  have c1 := HH1.out.cells.2.1
  go_loopw [6] (fun iv wr => ∃ k : Nat, k ≤ 192 ∧ iv = .int .i64 ((k : Int) + 1) ∧ w1 = wr ∧ Hid (∀ j : Nat, j < k → M.ob ((j : Int) + 1) ≠ none)) (fun iv _ => 193 - (intOf iv).toNat)
  case atStart => exact ⟨0, by omega, rfl, rfl, fun j hj => by omega⟩
  case round =>
    obtain ⟨k, hk, rfl, rfl, HF⟩ := hrel
    cases hob : M.ob ((k : Int) + 1) with
    | some o' =>
      have hl := HH1.out.look_some (wfI_mk (by omega)) hob
      have hk1 : k < 192 := by have := (OK.out.hr _ _ hob).2; omega
      have HOB := Lib.hid hob
      clear hob
      go_wp2_with fail
      refine ⟨⟨k + 1, by omega, by go_num, by trivial, fun j hj => ?_⟩, by simp [intOf]; omega⟩
      by_cases e : j = k
      · rw [e, HOB.out]; simp
      · exact HF.out j (by omega)
    | none =>
      have hl := HH1.out.look_none (wfI_mk (by omega)) hob
      have HOB := Lib.hid hob
      clear hob
      by_cases hfull : k = 192
      · have hgt : (192 : Int) < (k : Int) + 1 := by omega
        have HADD : Hid (M.add o = (0, 14, M)) := add_full (least_full (fun j hj => HF.out j (by omega)))
        clear hfull
        go_wp2_with fail
        refine hR.out _ _ ?_
        rw [HADD.out]
        exact HDid.none0 H.out HO1.out
      · have hle : ¬ (192 : Int) < (k : Int) + 1 := by omega
        have HLE : Hid (True → M.least = k) := fun _ => least_step (by omega) HF.out HOB.out
        obtain ⟨hN, hhN⟩ : ∃ z : Int, z = (k : Int) + 1 := ⟨_, rfl⟩
        rw [← hhN] at hl hle ⊢
        have HHN : Hid (True → hN = (M.least : Int) + 1) := fun _ => by rw [HLE.out trivial]; exact hhN
        have HLT : Hid (True → M.least < 192) := fun _ => by rw [HLE.out trivial]; omega
        have b2 : w1.cell? ⟨xb, 2, none⟩ = _ := HROW.out.cell 2 rfl
        have hfit : Calls Try.prog 63 #[.int .i64 (1 + (n : Int))] w1 (Exact w1 (.int .i64 (fitC (1 + n)))) := by
          have := fit_any w1 (1 + n) (by omega)
          rwa [show ((1 + n : Nat) : Int) = 1 + (n : Int) by omega] at this
        clear hhN HF HOB
        go_wp2_with fail
        refine hfit.mono ?_
        rintro e _ ⟨rfl, rfl⟩
        clear hfit
        have HSZ : Hid (Ints (w1.alloc (.cells #[.int .i64 (fitC (1 + n))] 3)) w1.heap.size (.slice (some ⟨w1.heap.size, 0, none⟩) 1 1) [fitC (1 + n)]) := Ints.one w1 _
        have HO2 : Hid (Only [] w1 (w1.alloc (.cells #[.int .i64 (fitC (1 + n))] 3))) := (Only.refl [] w1).alloc _
        have d2 : (w1.alloc (.cells #[.int .i64 (fitC (1 + n))] 3)).cell? ⟨xb, 2, none⟩ = _ := HO2.out.cell b2 (by simp)
        clear b2 c1 hl
        have d0 : (w1.alloc (.cells #[.int .i64 (fitC (1 + n))] 3)).cell? ⟨hb, 0, none⟩ = _ := HO2.out.cell HH1.out.cells.1 (by simp)
        have hw2 : w1.heap.size < (w1.alloc (.cells #[.int .i64 (fitC (1 + n))] 3)).heap.size := by simp
        by_cases h7 : 7 < n
        · have h7i : (7 : Int) < n := by omega
          have H7 := Lib.hid h7
          go_wp2_with fail
          generalize (w1.alloc (.cells #[.int .i64 (fitC (1 + n))] 3)) = w2 at *
          obtain ⟨sg, hsg⟩ : ∃ z, z = w1.heap.size := ⟨_, rfl⟩
          rw [← hsg] at HSZ hw2 ⊢
          have HSG : Hid (xb < sg) := by show xb < sg; omega
          have HSGE : Hid (sg = w1.heap.size) := hsg
          clear d0 d2 h7 h7i hsz1 hw2 hsg
          go_loopw [7, 8] (fun v iv wr => ∃ j : Nat, iv = .int .i64 (j * 8 : Nat) ∧ j ≤ 6 ∧ (j = 0 ∨ (j - 1) * 8 < n) ∧ Ints wr sg v (fitC (1 + n) :: List.replicate j 2) ∧ Only [] w1 wr) (fun _ iv _ => 49 - (intOf iv).toNat)
          case atStart => exact ⟨0, rfl, by omega, .inl rfl, HSZ.out, HO2.out⟩
          case round =>
            clear HSZ HO2 w2
            obtain ⟨j, rfl, hj6, hj, hsz, ho⟩ := hrel
            obtain ⟨va, vc, hv⟩ := hsz.len
            rw [show (fitC (1 + n) :: List.replicate j (2 : Int)).length = j + 1 by simp] at hv
            subst hv
            have b2 := ho.cell (HROW.out.cell 2 rfl) (by simp)
            have HSZ := Lib.hid hsz
            have HO2 := Lib.hid ho
            obtain ⟨ji, hji⟩ : ∃ z : Int, z = ((j * 8 : Nat) : Int) := ⟨_, rfl⟩
            rw [← hji]
            have HJI := Lib.hid hji
            by_cases hlt : j * 8 < n
            · have hlt1 : ji < (n : Int) := by omega
              have hj0 : 0 ≤ ji := by omega
              obtain ⟨jn, hjn⟩ : ∃ z, z = j + 1 := ⟨_, rfl⟩
              rw [← hjn] at HSZ ⊢
              have HJN := Lib.hid hjn
              clear hji hsz ho hjn
              go_wp2_with (at_builtin; refine append_int1 rfl _ _ rfl sg _ _ rfl (HSZ.out.alloc _) wr.heap.size 2 rfl ?c1 ?c2 ?c3 ?c4)
              case c1 => exact (Row.new wr _ [_]).cell 0 rfl
              case c2 => simp; omega
              case c3 => have := HO2.out.size; have := HSGE.out; simp; omega
              case c4 =>
                intro v' w5 hv1 ho1 hb1
                have HV5 := Lib.hid hv1
                have HO5 : Hid (Only [] w1 w5) := (HO2.out.alloc _).trans ho1 (fun x hx => .inr (by have := (HSZ.out.own x (by simpa using hx)).1; have := HSGE.out; omega))
                clear hv1 ho1 hb1 HSZ HO2
                go_wp2_with fail
                refine ⟨⟨j + 1, ?_, ?_, ?_, ?_, HO5.out⟩, ?_⟩
                · have := HJI.out; go_num
                · omega
                · right; show j * 8 < n; omega
                · have := HV5.out; rw [cons_rep] at this; exact this
                · have := HJI.out; simp [intOf]; omega
            · have hlt1 : ¬ ji < (n : Int) := by omega
              have HNE : Hid (fitC (1 + n) :: List.replicate j (2 : Int) = needs n) := needs_grow H7.out hlt (by have := H7.out; omega) (by have := H7.out; omega)
              have HSZ0 := Lib.hid (show Ints wr sg (.slice va (j + 1) vc) (needs n) by rw [← HNE.out]; exact HSZ.out)
              have HOB : Hid (Only [] w0 wr) := HO1.out.trans HO2.out (by simp)
              have HROW2 : Hid (Row wr xb 104 [.int .i64 kd, .int .i64 cl, .int .i64 n, .slice ra rn rc, .slice none 0 0]) := HO2.out.row HROW.out (by simp)
              have HRV2 : Hid (Bls wr w0.heap.size (.slice ra rn rc) o.rlist) := HRV1.out.only HO2.out (by simp)
              have d0 := (H.out.only0 HOB.out).cells.1
              have HCOPY := Lib.hid (copy_rep wr X.pp X.pb M.P (H.out.only0 HOB.out).pool)
              generalize Value.slice va (j + 1) vc = v7 at *
              clear HSZ HNE HRV1 HROW hsz ho hji hj hj6
              go_wp2_with fail
              generalize hw2 : wr = w2 at *
              clear hw2 d0 b2
              obtain ⟨g, sc, hv7, hsgg, hg2, hsc⟩ : ∃ g sc, v7 = .slice (some ⟨g, 0, none⟩) (needs n).length sc ∧ sg ≤ g ∧ g < w2.heap.size ∧ (needs n).length ≤ sc := by
                rcases HSZ0.out.form with ⟨_, e⟩ | ⟨g, sc, e1, e2, e3, e4, _⟩
                · have := needs_pos n; rw [e] at this; simp at this
                · exact ⟨g, sc, e1, e2, e3, e4⟩
              subst hv7
              have hs1 := needs_pos n
              have hs7 := needs_le n hn48
              obtain ⟨sn, hsn⟩ : ∃ z, z = (needs n).length := ⟨_, rfl⟩
              rw [← hsn] at hs1 hs7 HSZ0 hsc ⊢
              have HSN := Lib.hid hsn
              clear hsn
              refine HCOPY.out.mono ?_
              rintro e w3 ⟨p', b', rfl, hp3, ho3, hp31, hb31⟩
              have HO3 : Hid (Only [] w0 w3) := HOB.out.trans ho3 (by simp)
              have HROW3 : Hid (Row w3 xb 104 [.int .i64 kd, .int .i64 cl, .int .i64 n, .slice ra rn rc, .slice none 0 0]) := ho3.row HROW2.out (by simp)
              have HRV3 : Hid (Bls w3 w0.heap.size (.slice ra rn rc) o.rlist) := HRV2.out.only ho3 (by simp)
              have HSZ3 : Hid (Ints w3 sg (.slice (some ⟨g, 0, none⟩) sn sc) (needs n)) := HSZ0.out.only ho3 (by simp)
              obtain ⟨_, _, _, _, hf1, hf2⟩ := hp3.facts
              have HB : Hid (xb < p' ∧ xb < b' ∧ g < b' ∧ xb < g ∧ p' < w3.heap.size ∧ b' < w3.heap.size ∧ p' ≠ b' ∧ w0.heap.size ≤ xb) := ⟨by have := HSG.out; omega, by have := HSG.out; omega, by omega, by have := HSG.out; omega, hf1, hf2, hp3.ne, HX.out⟩
              have HP3 := Lib.hid hp3
              clear HCOPY HO2 HO1 HOB HROW2 HRV2 HSZ0 ho3 hp31 hb31 hf1 hf2 hp3 hsgg hg2
              obtain ⟨b3, hb3⟩ : ∃ z, z = w3.heap.size := ⟨_, rfl⟩
              have HB3 := Lib.hid hb3
              clear hb3
              go_wp2_with fail
              go_loopw [51] (fun iv wr => ∃ (k : Nat) (bs : List Int) (Q : Pl) (bv : Value), k ≤ sn ∧ iv = .int .i64 k ∧ Hid (True → allocN M.P (needs n) k = some (bs, Q)) ∧ PRep wr p' b' Q ∧ Ints wr b3 bv bs ∧ Row wr xb 104 [.int .i64 kd, .int .i64 cl, .int .i64 n, .slice ra rn rc, bv] ∧ Only [xb, b'] w3 wr) (fun iv _ => sn - (intOf iv).toNat)
              case atStart => exact ⟨0, [], M.P, .slice none 0 0, by omega, rfl, fun _ => rfl, HP3.out, Ints.nil _ _, HROW3.out, Only.refl _ _⟩
              case round =>
                clear HP3 HROW3
                obtain ⟨k, bs, Q, bv, hk, rfl, HAN, hp, hbv, hrow, ho⟩ := hrel
                have hbl : bs.length = k := (allocN_spec OK.out.p (l := needs n) (fun m hm => needs_isC _ hm) k (by have := HSN.out; omega) bs Q (HAN.out trivial)).len
                obtain ⟨ba, bc, hbe⟩ := hbv.len
                rw [hbl] at hbe
                subst hbe
                have HBL := Lib.hid hbl
                have HP := Lib.hid hp
                have HBV := Lib.hid hbv
                have HROWK := Lib.hid hrow
                have HO := Lib.hid ho
                have c4 : wr.cell? ⟨xb, 4, none⟩ = _ := hrow.cell 4 rfl
                clear hp hbv hrow ho hbl
                by_cases hlt : k < sn
                · have hlt1 : (k : Int) < sn := by omega
                  have hk0 : (0 : Int) ≤ k := by omega
                  have hcs : wr.cell? ⟨g, k, none⟩ = some (.int .i64 (gI (needs n) k)) := by
                    rcases (HSZ3.out.only HO.out (fun g' hg' => by cases hg'; have := HB.out; simp; omega)).form with ⟨e, _⟩ | ⟨g', c', e1, _, _, _, h5⟩
                    · cases e
                    · cases e1; exact h5 k (by have := HSN.out; omega)
                  have hal := alloc_rep wr p' b' Q HP.out (gI (needs n) k)
                  obtain ⟨c, hc⟩ : ∃ z, z = gI (needs n) k := ⟨_, rfl⟩
                  rw [← hc] at hcs hal
                  obtain ⟨r, hr⟩ : ∃ z, z = Q.alloc c := ⟨_, rfl⟩
                  rw [← hr] at hal
                  have HR := Lib.hid hr
                  have HC := Lib.hid hc
                  obtain ⟨a1, e1, Q1⟩ := r
                  clear hr hc c4
                  go_wp2_with fail
                  refine hal.mono ?_
                  rintro e w5 ⟨rfl, hp5, ho5⟩
                  have HP5 : Hid (PRep w5 p' b' Q1) := hp5
                  have HO5 : Hid (Only [xb, b'] w3 w5) := HO.out.trans ho5 (fun x hx => .inl (by simp at hx; simp [hx]))
                  have HROW5 : Hid (Row w5 xb 104 [.int .i64 kd, .int .i64 cl, .int .i64 n, .slice ra rn rc, .slice ba k bc]) := ho5.row HROWK.out (by have := HB.out; simp; omega)
                  have HBV5 : Hid (Ints w5 b3 (.slice ba k bc) bs) := HBV.out.only ho5 (fun g' hg' => by have := (HBV.out.own g' hg').1; have := HB.out; have := HB3.out; simp; omega)
                  have c4 : w5.cell? ⟨xb, 4, none⟩ = _ := HROW5.out.cell 4 rfl
                  clear hal hp5 ho5 hcs HROWK HBV HO HP
                  by_cases he : e1 = 0
                  · subst he
                    go_wp2_with (at_builtin; refine append_int1 rfl _ _ rfl b3 _ _ rfl (HBV5.out.alloc _) w5.heap.size a1 rfl ?c1 ?c2 ?c3 ?c4)
                    case c1 => exact (Row.new w5 _ [_]).cell 0 rfl
                    case c2 => have := HBL.out; omega
                    case c3 => have := HO5.out.size; have := HB3.out; simp; omega
                    case c4 =>
                      intro v' w6 hv6 ho6 hb6
                      obtain ⟨va', vc', hve⟩ := hv6.len
                      obtain ⟨nb, hnb⟩ : ∃ z, z = (bs ++ [a1]).length := ⟨_, rfl⟩
                      rw [← hnb] at hve
                      subst hve
                      clear hnb hb6
                      have hown : ∀ x ∈ (Value.slice ba k bc).ownBlock.toList, b3 ≤ x := fun x hx => (HBV5.out.own x (by simpa using hx)).1
                      have hown1 : ∀ x ∈ (Value.slice ba k bc).ownBlock.toList, x < w5.heap.size := fun x hx => (HBV5.out.own x (by simpa using hx)).2
                      have hB := HB.out
                      have hB3 := HB3.out
                      have hr6 := ho6.row (HROW5.out.alloc (.cells #[.int .i64 a1] 3)) (fun hx => by have := hown _ hx; omega)
                      have f6 := hr6.free 4
                      have c6 : w6.cell? ⟨xb, 4, none⟩ = _ := hr6.cell 4 rfl
                      have HP7 : Hid (PRep (w6.setCell ⟨xb, 4, none⟩ (.slice va' nb vc')) p' b' Q1) :=
                        (((HP5.out.only ((Only.refl [] w5).alloc (.cells #[.int .i64 a1] 3)) (by simp) (by simp)).only ho6 (fun hx => by have := hown _ hx; omega) (fun hx => by have := hown _ hx; omega)).only ((Only.refl [xb] w6).set (p := ⟨xb, 4, none⟩) (.inl (by simp)) (.slice va' nb vc')) (by simp; omega) (by simp; omega))
                      have HV7 : Hid (Ints (w6.setCell ⟨xb, 4, none⟩ (.slice va' nb vc')) b3 (.slice va' nb vc') (bs ++ [a1])) := hv6.only ((Only.refl [xb] w6).set (p := ⟨xb, 4, none⟩) (.inl (by simp)) (.slice va' nb vc')) (fun g' hg' => by have := (hv6.own g' hg').1; simp; omega)
                      have HROW7 : Hid (Row (w6.setCell ⟨xb, 4, none⟩ (.slice va' nb vc')) xb 104 [.int .i64 kd, .int .i64 cl, .int .i64 n, .slice ra rn rc, (.slice va' nb vc')]) := hr6.set 4 (.slice va' nb vc')
                      have HO7 : Hid (Only [xb, b'] w3 (w6.setCell ⟨xb, 4, none⟩ (.slice va' nb vc'))) := ((HO5.out.alloc _).trans ho6 (fun x hx => .inr (by have := hown _ hx; omega))).set (.inl (by simp)) _
                      have HAN7 : Hid (True → allocN M.P (needs n) (k + 1) = some (bs ++ [a1], Q1)) := fun _ => by
                        rw [allocN_succ (HAN.out trivial), ← HC.out, ← HR.out]
                        rfl
                      clear hv6 ho6 hown hown1 hB hB3 hr6 HP5 HO5 HROW5 HBV5 c4 HAN
                      go_wp2_with fail
                      exact ⟨⟨k + 1, bs ++ [a1], Q1, (.slice va' nb vc'), by omega, by go_num, HAN7, HP7.out, HV7.out, HROW7.out, HO7.out⟩, by simp [intOf]; omega⟩
                  · have HADD : Hid (True → M.add o = (0, 14, M)) := fun _ => add_none (k := k + 1) (by rw [← HN.out, ← HSN.out]; omega) (by
                      rw [← HN.out, allocN_succ (HAN.out trivial), ← HC.out, ← HR.out]
                      show (if e1 = 0 then _ else _) = _
                      rw [if_neg he])
                    go_wp2_with fail
                    refine hR.out _ _ ?_
                    rw [HADD.out trivial]
                    exact HDid.none0 H.out (HO3.out.trans HO5.out (fun x hx => .inr (by have := HB.out; have := HO3.out.size; simp at hx; rcases hx with rfl | rfl <;> omega)))
                · obtain rfl : k = sn := by omega
                  obtain ⟨g4, hba, hbg, hbc⟩ : ∃ g4, ba = some ⟨g4, 0, none⟩ ∧ b3 ≤ g4 ∧ k ≤ bc := by
                    rcases HBV.out.form with ⟨e, e2⟩ | ⟨g4, c', e1, e2, _, e4, _⟩
                    · rw [e2] at HBL; have := HBL.out; simp at this; omega
                    · cases e1; rw [HBL.out] at e4; exact ⟨g4, rfl, e2, e4⟩
                  subst hba
                  have HG4 := Lib.hid hbg
                  have hcell : Hid (∀ i, i < k → ∀ wx F, Only F wr wx → g4 ∉ F → wx.cell? ⟨g4, i, none⟩ = some (.int .i64 (gI bs i))) := fun i hi wx F hox hgf => by
                    rcases HBV.out.form with ⟨e, _⟩ | ⟨g', c', e1, _, _, _, h5⟩
                    · cases e
                    · cases e1; exact hox.cell (h5 i (by rw [HBL.out]; exact hi)) hgf
                  have b0 := hcell.out 0 (by omega) wr [] (Only.refl _ _) (by simp)
                  have hset := setCell_rep wr p' b' Q HP.out (gI bs 0) hN
                  obtain ⟨a0, ha0⟩ : ∃ z, z = gI bs 0 := ⟨_, rfl⟩
                  rw [← ha0] at b0 hset
                  have HA0 := Lib.hid ha0
                  obtain ⟨r, hr⟩ : ∃ z, z = Q.setCell a0 hN := ⟨_, rfl⟩
                  rw [← hr] at hset
                  have HR := Lib.hid hr
                  obtain ⟨e1, Q1⟩ := r
                  clear hr ha0 hbg
                  go_wp2_with fail
                  refine hset.mono ?_
                  rintro e w5 ⟨rfl, hp5, ho5⟩
                  have HP5 : Hid (PRep w5 p' b' Q1) := hp5
                  have HO5 : Hid (Only [xb, b'] w3 w5) := HO.out.trans ho5 (fun x hx => .inl (by simp at hx; simp [hx]))
                  have HROW5 : Hid (Row w5 xb 104 [.int .i64 kd, .int .i64 cl, .int .i64 n, .slice ra rn rc, .slice (some ⟨g4, 0, none⟩) k bc]) := ho5.row HROWK.out (by have := HB.out; simp; omega)
                  have HBV5 : Hid (Ints w5 b3 (.slice (some ⟨g4, 0, none⟩) k bc) bs) := HBV.out.only ho5 (fun g' hg' => by have := (HBV.out.own g' hg').1; have := HB.out; have := HB3.out; simp; omega)
                  have c4' : w5.cell? ⟨xb, 4, none⟩ = _ := HROW5.out.cell 4 rfl
                  have ha384 : 0 ≤ a0 ∧ a0 ≤ 384 := by
                    have s := allocN_spec OK.out.p (l := needs n) (fun m hm => needs_isC _ hm) k (by have := HSN.out; omega) bs Q (HAN.out trivial)
                    have h1 := (s.new 0 (by omega)).range (needs_isC _ (by have := HSN.out; omega))
                    have h2 := s.n
                    have h3 := OK.out.n24
                    rw [← HA0.out] at h1
                    omega
                  have hcell5 : Hid (∀ i, i < k → ∀ wx, Only [b'] w5 wx → wx.cell? ⟨g4, i, none⟩ = some (.int .i64 (gI bs i))) := fun i hi wx hox => by
                    rcases HBV5.out.form with ⟨e, _⟩ | ⟨g', c', e1, _, _, _, h5⟩
                    · cases e
                    · cases e1; exact hox.cell (h5 i (by rw [HBL.out]; exact hi)) (by have := HG4.out; have := HB.out; have := HB3.out; simp; omega)
                  clear hset hp5 ho5 HROWK HBV HO HP c4 b0 hcell
                  by_cases hb1 : bc = 1
                  · subst hb1
                    obtain rfl : k = 1 := by omega
                    go_wp2_with fail
                    go_loopw [81] (fun iv wr => iv = .int .i64 0 ∧ w5 = wr) (fun _ _ => 0)
                    case atStart => exact ⟨rfl, rfl⟩
                    case round =>
                      obtain ⟨rfl, rfl⟩ := hrel
                      have HO9 : Hid (Only [xb, b'] w3 w5) := HO5
                      have HP9 : Hid (PRep w5 p' b' (headP Q hN bs)) := by
                        show PRep _ _ _ (headP Q hN bs)
                        have e : headP Q hN bs = Q1 := by
                          unfold headP
                          rw [HBL.out, ← HA0.out, ← HR.out]
                          rfl
                        rw [e]; exact HP5.out
                      have HROW9 := HROW5
                      have HBV9 := HBV5
                      clear HO5 HP5 HROW5 HBV5 c4' hcell5
                      generalize hw9 : w5 = w9 at *
                      clear hw9
                      have HO10 : Hid (Only [] w0 w9) := HO3.out.trans HO9.out (fun x hx => .inr (by have := HB.out; have := HO3.out.size; simp at hx; rcases hx with rfl | rfl <;> omega))
                      have hH9 := (H.out.only0 HO10.out)
                      have e0 := hH9.cells.1
                      have e1' := hH9.cells.2.1
                      have ef := hH9.cells.2.2 0
                      have hdone := addDone (w9 := w9) (o := o) (kd := kd) (cl := cl) (n := n) (rv := .slice ra rn rc) (T := 104) H.out OK.out (HLT.out trivial) (Q := Q) (bs := bs) (by
                          have := HAN.out trivial
                          rw [← HN.out, ← HSN.out]; exact this) (by rw [← HHN.out trivial]; exact HP9.out) HO10.out HROW9.out HKD.out HCL.out HN.out (HRV3.out.only HO9.out (fun g' hg' => by have := HRB.out g' hg'; have := HB.out; simp; omega)) HBV9.out (by have := HB.out; omega) HRB.out HB.out.1 HB.out.2.1 (by have := HB.out; have := HB3.out; omega) (by have := HB.out; have := HB3.out; omega)
                      rw [← HHN.out trivial] at hdone
                      obtain ⟨w11, hrun, hdid⟩ := hdone
                      have HDONE := Lib.hid hdid
                      clear hdid hH9 HP9 HROW9 HBV9
                      go_wp2_with fail
                      exact hR.out _ _ HDONE.out
                  · have hk1 : k - 1 < 7 := by omega
                    go_wp2_with fail
                    go_loopw [81] (fun iv wr => ∃ j : Nat, j ≤ k - 1 ∧ iv = .int .i64 j ∧ PRep wr p' b' (putN Q1 (a0 + 1) (bs.drop 1) j) ∧ Only [b'] w5 wr) (fun iv _ => 7 - (intOf iv).toNat)
                    case atStart => exact ⟨0, by omega, rfl, HP5.out, Only.refl _ _⟩
                    case round =>
                      obtain ⟨j, hj, rfl, hp, ho⟩ := hrel
                      have hROW : Row wr xb 104 [.int .i64 kd, .int .i64 cl, .int .i64 n, .slice ra rn rc, .slice (some ⟨g4, 0, none⟩) k bc] := ho.row HROW5.out (by have := HB.out; simp; omega)
                      have HPJ := Lib.hid hp
                      have HOJ := Lib.hid ho
                      by_cases hlt : j < k - 1
                      · have hj1 := hcell5.out (1 + j) (by omega) wr ho
                        have hj0 := hcell5.out 0 (by omega) wr ho
                        rw [← HA0.out] at hj0
                        have c9 : wr.cell? ⟨xb, 4, none⟩ = _ := hROW.cell 4 rfl
                        have hlt1 : (j : Int) < ((k - 1 : Nat) : Int) := by omega
                        have hj00 : (0 : Int) ≤ j := by omega
                        have hset := setCell_rep wr p' b' _ hp (a0 + 1 + (j : Int)) (gI bs (1 + j))
                        have HSTEP : Hid (True → putN Q1 (a0 + 1) (bs.drop 1) (j + 1) = ((putN Q1 (a0 + 1) (bs.drop 1) j).setCell (a0 + 1 + (j : Int)) (gI bs (1 + j))).2) := fun _ => by
                          show ((putN Q1 (a0 + 1) (bs.drop 1) j).setCell (a0 + 1 + (j : Int)) (gI (bs.drop 1) j)).2 = _
                          congr 2
                          unfold gI
                          rw [List.getElem?_drop]
                        generalize (putN Q1 (a0 + 1) (bs.drop 1) j).setCell (a0 + 1 + (j : Int)) (gI bs (1 + j)) = r at hset HSTEP
                        obtain ⟨f1, f2⟩ := r
                        generalize gI bs (1 + j) = y at hj1 hset
                        clear hp ho hROW
                        go_wp2_with fail
                        refine hset.mono ?_
                        rintro e w6 ⟨rfl, hp6, ho6⟩
                        have HP6 : Hid (PRep w6 p' b' (putN Q1 (a0 + 1) (bs.drop 1) (j + 1))) := by
                          show PRep _ _ _ _
                          rw [HSTEP.out trivial]; exact hp6
                        have HO6 : Hid (Only [b'] w5 w6) := HOJ.out.trans ho6 (fun x hx => .inl hx)
                        clear hp6 ho6 hset hj1 hj0 c9
                        go_wp2_with fail
                        exact ⟨⟨j + 1, by omega, by go_num, HP6.out, HO6.out⟩, by simp [intOf]; omega⟩
                      · have hjk : ¬ (j : Int) < ((k - 1 : Nat) : Int) := by omega
                        have HO9 : Hid (Only [xb, b'] w3 wr) := HO5.out.trans ho (fun x hx => .inl (by simp at hx; simp [hx]))
                        have HP9 : Hid (PRep wr p' b' (headP Q hN bs)) := by
                          show PRep _ _ _ (headP Q hN bs)
                          have e : headP Q hN bs = putN Q1 (a0 + 1) (bs.drop 1) j := by
                            unfold headP
                            rw [HBL.out, ← HA0.out, ← HR.out, show k - 1 = j by omega]
                          rw [e]; exact hp
                        have HROW9 : Hid (Row wr xb 104 [.int .i64 kd, .int .i64 cl, .int .i64 n, .slice ra rn rc, .slice (some ⟨g4, 0, none⟩) k bc]) := hROW
                        have HBV9 : Hid (Ints wr b3 (.slice (some ⟨g4, 0, none⟩) k bc) bs) := HBV5.out.only ho (fun g' hg' => by have := (HBV5.out.own g' hg').1; have := HB.out; have := HB3.out; simp; omega)
                        clear HO5 HP5 HROW5 HBV5 c4' hcell5 hp ho hROW HPJ HOJ
                        generalize hw9 : wr = w9 at *
                        clear hw9
                        have HO10 : Hid (Only [] w0 w9) := HO3.out.trans HO9.out (fun x hx => .inr (by have := HB.out; have := HO3.out.size; simp at hx; rcases hx with rfl | rfl <;> omega))
                        have hH9 := (H.out.only0 HO10.out)
                        have e0 := hH9.cells.1
                        have e1' := hH9.cells.2.1
                        have ef := hH9.cells.2.2 0
                        have hdone := addDone (w9 := w9) (o := o) (kd := kd) (cl := cl) (n := n) (rv := .slice ra rn rc) (T := 104) H.out OK.out (HLT.out trivial) (Q := Q) (bs := bs) (by
                            have := HAN.out trivial
                            rw [← HN.out, ← HSN.out]; exact this) (by rw [← HHN.out trivial]; exact HP9.out) HO10.out HROW9.out HKD.out HCL.out HN.out (HRV3.out.only HO9.out (fun g' hg' => by have := HRB.out g' hg'; have := HB.out; simp; omega)) HBV9.out (by have := HB.out; omega) HRB.out HB.out.1 HB.out.2.1 (by have := HB.out; have := HB3.out; omega) (by have := HB.out; have := HB3.out; omega)
                        rw [← HHN.out trivial] at hdone
                        obtain ⟨w11, hrun, hdid⟩ := hdone
                        have HDONE := Lib.hid hdid
                        clear hdid hH9 HP9 HROW9 HBV9
                        go_wp2_with fail
                        exact hR.out _ _ HDONE.out
        · have h7i : ¬ (7 : Int) < n := by omega
          have HNE : Hid ([fitC (1 + n)] = needs n) := (needs_small h7).symm
          have HCOPY := Lib.hid (copy_rep (w1.alloc (.cells #[.int .i64 (fitC (1 + n))] 3)) X.pp X.pb M.P (H.out.only0 (HO1.out.trans HO2.out (by simp))).pool)
          go_wp2_with fail
          generalize (w1.alloc (.cells #[.int .i64 (fitC (1 + n))] 3)) = w2 at *
          have HSG : Hid (xb < w1.heap.size) := hsz1
          generalize hsg : w1.heap.size = sg at *
          have HSZ0 := Lib.hid (show Ints w2 sg (.slice (some ⟨sg, 0, none⟩) 1 1) (needs n) by rw [← HNE.out]; exact HSZ.out)
          have HOB : Hid (Only [] w0 w2) := HO1.out.trans HO2.out (by simp)
          have HROW2 : Hid (Row w2 xb 104 [.int .i64 kd, .int .i64 cl, .int .i64 n, .slice ra rn rc, .slice none 0 0]) := HO2.out.row HROW.out (by simp)
          have HRV2 : Hid (Bls w2 w0.heap.size (.slice ra rn rc) o.rlist) := HRV1.out.only HO2.out (by simp)
          generalize Value.slice (some ⟨sg, 0, none⟩) 1 1 = v7 at *
          clear HSZ HNE hsg hw2 d0 d2 h7i HRV1 HROW
          obtain ⟨g, sc, hv7, hsgg, hg2, hsc⟩ : ∃ g sc, v7 = .slice (some ⟨g, 0, none⟩) (needs n).length sc ∧ sg ≤ g ∧ g < w2.heap.size ∧ (needs n).length ≤ sc := by
            rcases HSZ0.out.form with ⟨_, e⟩ | ⟨g, sc, e1, e2, e3, e4, _⟩
            · have := needs_pos n; rw [e] at this; simp at this
            · exact ⟨g, sc, e1, e2, e3, e4⟩
          subst hv7
          have hs1 := needs_pos n
          have hs7 := needs_le n hn48
          obtain ⟨sn, hsn⟩ : ∃ z, z = (needs n).length := ⟨_, rfl⟩
          rw [← hsn] at hs1 hs7 HSZ0 hsc ⊢
          have HSN := Lib.hid hsn
          clear hsn
          refine HCOPY.out.mono ?_
          rintro e w3 ⟨p', b', rfl, hp3, ho3, hp31, hb31⟩
          have HO3 : Hid (Only [] w0 w3) := HOB.out.trans ho3 (by simp)
          have HROW3 : Hid (Row w3 xb 104 [.int .i64 kd, .int .i64 cl, .int .i64 n, .slice ra rn rc, .slice none 0 0]) := ho3.row HROW2.out (by simp)
          have HRV3 : Hid (Bls w3 w0.heap.size (.slice ra rn rc) o.rlist) := HRV2.out.only ho3 (by simp)
          have HSZ3 : Hid (Ints w3 sg (.slice (some ⟨g, 0, none⟩) sn sc) (needs n)) := HSZ0.out.only ho3 (by simp)
          obtain ⟨_, _, _, _, hf1, hf2⟩ := hp3.facts
          have HB : Hid (xb < p' ∧ xb < b' ∧ g < b' ∧ xb < g ∧ p' < w3.heap.size ∧ b' < w3.heap.size ∧ p' ≠ b' ∧ w0.heap.size ≤ xb) := ⟨by have := HSG.out; omega, by have := HSG.out; omega, by omega, by have := HSG.out; omega, hf1, hf2, hp3.ne, HX.out⟩
          have HP3 := Lib.hid hp3
          clear HCOPY HO2 HO1 HOB HROW2 HRV2 HSZ0 ho3 hp31 hb31 hf1 hf2 hp3 hsgg hg2
          obtain ⟨b3, hb3⟩ : ∃ z, z = w3.heap.size := ⟨_, rfl⟩
          have HB3 := Lib.hid hb3
          clear hb3
          go_wp2_with fail
          go_loopw [51] (fun iv wr => ∃ (k : Nat) (bs : List Int) (Q : Pl) (bv : Value), k ≤ sn ∧ iv = .int .i64 k ∧ Hid (True → allocN M.P (needs n) k = some (bs, Q)) ∧ PRep wr p' b' Q ∧ Ints wr b3 bv bs ∧ Row wr xb 104 [.int .i64 kd, .int .i64 cl, .int .i64 n, .slice ra rn rc, bv] ∧ Only [xb, b'] w3 wr) (fun iv _ => sn - (intOf iv).toNat)
          case atStart => exact ⟨0, [], M.P, .slice none 0 0, by omega, rfl, fun _ => rfl, HP3.out, Ints.nil _ _, HROW3.out, Only.refl _ _⟩
          case round =>
            clear HP3 HROW3
            obtain ⟨k, bs, Q, bv, hk, rfl, HAN, hp, hbv, hrow, ho⟩ := hrel
            have hbl : bs.length = k := (allocN_spec OK.out.p (l := needs n) (fun m hm => needs_isC _ hm) k (by have := HSN.out; omega) bs Q (HAN.out trivial)).len
            obtain ⟨ba, bc, hbe⟩ := hbv.len
            rw [hbl] at hbe
            subst hbe
            have HBL := Lib.hid hbl
            have HP := Lib.hid hp
            have HBV := Lib.hid hbv
            have HROWK := Lib.hid hrow
            have HO := Lib.hid ho
            have c4 : wr.cell? ⟨xb, 4, none⟩ = _ := hrow.cell 4 rfl
            clear hp hbv hrow ho hbl
            by_cases hlt : k < sn
            · have hlt1 : (k : Int) < sn := by omega
              have hk0 : (0 : Int) ≤ k := by omega
              have hcs : wr.cell? ⟨g, k, none⟩ = some (.int .i64 (gI (needs n) k)) := by
                rcases (HSZ3.out.only HO.out (fun g' hg' => by cases hg'; have := HB.out; simp; omega)).form with ⟨e, _⟩ | ⟨g', c', e1, _, _, _, h5⟩
                · cases e
                · cases e1; exact h5 k (by have := HSN.out; omega)
              have hal := alloc_rep wr p' b' Q HP.out (gI (needs n) k)
              obtain ⟨c, hc⟩ : ∃ z, z = gI (needs n) k := ⟨_, rfl⟩
              rw [← hc] at hcs hal
              obtain ⟨r, hr⟩ : ∃ z, z = Q.alloc c := ⟨_, rfl⟩
              rw [← hr] at hal
              have HR := Lib.hid hr
              have HC := Lib.hid hc
              obtain ⟨a1, e1, Q1⟩ := r
              clear hr hc c4
              go_wp2_with fail
              refine hal.mono ?_
              rintro e w5 ⟨rfl, hp5, ho5⟩
              have HP5 : Hid (PRep w5 p' b' Q1) := hp5
              have HO5 : Hid (Only [xb, b'] w3 w5) := HO.out.trans ho5 (fun x hx => .inl (by simp at hx; simp [hx]))
              have HROW5 : Hid (Row w5 xb 104 [.int .i64 kd, .int .i64 cl, .int .i64 n, .slice ra rn rc, .slice ba k bc]) := ho5.row HROWK.out (by have := HB.out; simp; omega)
              have HBV5 : Hid (Ints w5 b3 (.slice ba k bc) bs) := HBV.out.only ho5 (fun g' hg' => by have := (HBV.out.own g' hg').1; have := HB.out; have := HB3.out; simp; omega)
              have c4 : w5.cell? ⟨xb, 4, none⟩ = _ := HROW5.out.cell 4 rfl
              clear hal hp5 ho5 hcs HROWK HBV HO HP
              by_cases he : e1 = 0
              · subst he
                go_wp2_with (at_builtin; refine append_int1 rfl _ _ rfl b3 _ _ rfl (HBV5.out.alloc _) w5.heap.size a1 rfl ?c1 ?c2 ?c3 ?c4)
                case c1 => exact (Row.new w5 _ [_]).cell 0 rfl
                case c2 => have := HBL.out; omega
                case c3 => have := HO5.out.size; have := HB3.out; simp; omega
                case c4 =>
                  intro v' w6 hv6 ho6 hb6
                  obtain ⟨va', vc', hve⟩ := hv6.len
                  obtain ⟨nb, hnb⟩ : ∃ z, z = (bs ++ [a1]).length := ⟨_, rfl⟩
                  rw [← hnb] at hve
                  subst hve
                  clear hnb hb6
                  have hown : ∀ x ∈ (Value.slice ba k bc).ownBlock.toList, b3 ≤ x := fun x hx => (HBV5.out.own x (by simpa using hx)).1
                  have hown1 : ∀ x ∈ (Value.slice ba k bc).ownBlock.toList, x < w5.heap.size := fun x hx => (HBV5.out.own x (by simpa using hx)).2
                  have hB := HB.out
                  have hB3 := HB3.out
                  have hr6 := ho6.row (HROW5.out.alloc (.cells #[.int .i64 a1] 3)) (fun hx => by have := hown _ hx; omega)
                  have f6 := hr6.free 4
                  have c6 : w6.cell? ⟨xb, 4, none⟩ = _ := hr6.cell 4 rfl
                  have HP7 : Hid (PRep (w6.setCell ⟨xb, 4, none⟩ (.slice va' nb vc')) p' b' Q1) :=
                    (((HP5.out.only ((Only.refl [] w5).alloc (.cells #[.int .i64 a1] 3)) (by simp) (by simp)).only ho6 (fun hx => by have := hown _ hx; omega) (fun hx => by have := hown _ hx; omega)).only ((Only.refl [xb] w6).set (p := ⟨xb, 4, none⟩) (.inl (by simp)) (.slice va' nb vc')) (by simp; omega) (by simp; omega))
                  have HV7 : Hid (Ints (w6.setCell ⟨xb, 4, none⟩ (.slice va' nb vc')) b3 (.slice va' nb vc') (bs ++ [a1])) := hv6.only ((Only.refl [xb] w6).set (p := ⟨xb, 4, none⟩) (.inl (by simp)) (.slice va' nb vc')) (fun g' hg' => by have := (hv6.own g' hg').1; simp; omega)
                  have HROW7 : Hid (Row (w6.setCell ⟨xb, 4, none⟩ (.slice va' nb vc')) xb 104 [.int .i64 kd, .int .i64 cl, .int .i64 n, .slice ra rn rc, (.slice va' nb vc')]) := hr6.set 4 (.slice va' nb vc')
                  have HO7 : Hid (Only [xb, b'] w3 (w6.setCell ⟨xb, 4, none⟩ (.slice va' nb vc'))) := ((HO5.out.alloc _).trans ho6 (fun x hx => .inr (by have := hown _ hx; omega))).set (.inl (by simp)) _
                  have HAN7 : Hid (True → allocN M.P (needs n) (k + 1) = some (bs ++ [a1], Q1)) := fun _ => by
                    rw [allocN_succ (HAN.out trivial), ← HC.out, ← HR.out]
                    rfl
                  clear hv6 ho6 hown hown1 hB hB3 hr6 HP5 HO5 HROW5 HBV5 c4 HAN
                  go_wp2_with fail
                  exact ⟨⟨k + 1, bs ++ [a1], Q1, (.slice va' nb vc'), by omega, by go_num, HAN7, HP7.out, HV7.out, HROW7.out, HO7.out⟩, by simp [intOf]; omega⟩
              · have HADD : Hid (True → M.add o = (0, 14, M)) := fun _ => add_none (k := k + 1) (by rw [← HN.out, ← HSN.out]; omega) (by
                  rw [← HN.out, allocN_succ (HAN.out trivial), ← HC.out, ← HR.out]
                  show (if e1 = 0 then _ else _) = _
                  rw [if_neg he])
                go_wp2_with fail
                refine hR.out _ _ ?_
                rw [HADD.out trivial]
                exact HDid.none0 H.out (HO3.out.trans HO5.out (fun x hx => .inr (by have := HB.out; have := HO3.out.size; simp at hx; rcases hx with rfl | rfl <;> omega)))
            · obtain rfl : k = sn := by omega
              obtain ⟨g4, hba, hbg, hbc⟩ : ∃ g4, ba = some ⟨g4, 0, none⟩ ∧ b3 ≤ g4 ∧ k ≤ bc := by
                rcases HBV.out.form with ⟨e, e2⟩ | ⟨g4, c', e1, e2, _, e4, _⟩
                · rw [e2] at HBL; have := HBL.out; simp at this; omega
                · cases e1; rw [HBL.out] at e4; exact ⟨g4, rfl, e2, e4⟩
              subst hba
              have HG4 := Lib.hid hbg
              have hcell : Hid (∀ i, i < k → ∀ wx F, Only F wr wx → g4 ∉ F → wx.cell? ⟨g4, i, none⟩ = some (.int .i64 (gI bs i))) := fun i hi wx F hox hgf => by
                rcases HBV.out.form with ⟨e, _⟩ | ⟨g', c', e1, _, _, _, h5⟩
                · cases e
                · cases e1; exact hox.cell (h5 i (by rw [HBL.out]; exact hi)) hgf
              have b0 := hcell.out 0 (by omega) wr [] (Only.refl _ _) (by simp)
              have hset := setCell_rep wr p' b' Q HP.out (gI bs 0) hN
              obtain ⟨a0, ha0⟩ : ∃ z, z = gI bs 0 := ⟨_, rfl⟩
              rw [← ha0] at b0 hset
              have HA0 := Lib.hid ha0
              obtain ⟨r, hr⟩ : ∃ z, z = Q.setCell a0 hN := ⟨_, rfl⟩
              rw [← hr] at hset
              have HR := Lib.hid hr
              obtain ⟨e1, Q1⟩ := r
              clear hr ha0 hbg
              go_wp2_with fail
              refine hset.mono ?_
              rintro e w5 ⟨rfl, hp5, ho5⟩
              have HP5 : Hid (PRep w5 p' b' Q1) := hp5
              have HO5 : Hid (Only [xb, b'] w3 w5) := HO.out.trans ho5 (fun x hx => .inl (by simp at hx; simp [hx]))
              have HROW5 : Hid (Row w5 xb 104 [.int .i64 kd, .int .i64 cl, .int .i64 n, .slice ra rn rc, .slice (some ⟨g4, 0, none⟩) k bc]) := ho5.row HROWK.out (by have := HB.out; simp; omega)
              have HBV5 : Hid (Ints w5 b3 (.slice (some ⟨g4, 0, none⟩) k bc) bs) := HBV.out.only ho5 (fun g' hg' => by have := (HBV.out.own g' hg').1; have := HB.out; have := HB3.out; simp; omega)
              have c4' : w5.cell? ⟨xb, 4, none⟩ = _ := HROW5.out.cell 4 rfl
              have ha384 : 0 ≤ a0 ∧ a0 ≤ 384 := by
                have s := allocN_spec OK.out.p (l := needs n) (fun m hm => needs_isC _ hm) k (by have := HSN.out; omega) bs Q (HAN.out trivial)
                have h1 := (s.new 0 (by omega)).range (needs_isC _ (by have := HSN.out; omega))
                have h2 := s.n
                have h3 := OK.out.n24
                rw [← HA0.out] at h1
                omega
              have hcell5 : Hid (∀ i, i < k → ∀ wx, Only [b'] w5 wx → wx.cell? ⟨g4, i, none⟩ = some (.int .i64 (gI bs i))) := fun i hi wx hox => by
                rcases HBV5.out.form with ⟨e, _⟩ | ⟨g', c', e1, _, _, _, h5⟩
                · cases e
                · cases e1; exact hox.cell (h5 i (by rw [HBL.out]; exact hi)) (by have := HG4.out; have := HB.out; have := HB3.out; simp; omega)
              clear hset hp5 ho5 HROWK HBV HO HP c4 b0 hcell
              by_cases hb1 : bc = 1
              · subst hb1
                obtain rfl : k = 1 := by omega
                go_wp2_with fail
                go_loopw [81] (fun iv wr => iv = .int .i64 0 ∧ w5 = wr) (fun _ _ => 0)
                case atStart => exact ⟨rfl, rfl⟩
                case round =>
                  obtain ⟨rfl, rfl⟩ := hrel
                  have HO9 : Hid (Only [xb, b'] w3 w5) := HO5
                  have HP9 : Hid (PRep w5 p' b' (headP Q hN bs)) := by
                    show PRep _ _ _ (headP Q hN bs)
                    have e : headP Q hN bs = Q1 := by
                      unfold headP
                      rw [HBL.out, ← HA0.out, ← HR.out]
                      rfl
                    rw [e]; exact HP5.out
                  have HROW9 := HROW5
                  have HBV9 := HBV5
                  clear HO5 HP5 HROW5 HBV5 c4' hcell5
                  generalize hw9 : w5 = w9 at *
                  clear hw9
                  have HO10 : Hid (Only [] w0 w9) := HO3.out.trans HO9.out (fun x hx => .inr (by have := HB.out; have := HO3.out.size; simp at hx; rcases hx with rfl | rfl <;> omega))
                  have hH9 := (H.out.only0 HO10.out)
                  have e0 := hH9.cells.1
                  have e1' := hH9.cells.2.1
                  have ef := hH9.cells.2.2 0
                  have hdone := addDone (w9 := w9) (o := o) (kd := kd) (cl := cl) (n := n) (rv := .slice ra rn rc) (T := 104) H.out OK.out (HLT.out trivial) (Q := Q) (bs := bs) (by
                      have := HAN.out trivial
                      rw [← HN.out, ← HSN.out]; exact this) (by rw [← HHN.out trivial]; exact HP9.out) HO10.out HROW9.out HKD.out HCL.out HN.out (HRV3.out.only HO9.out (fun g' hg' => by have := HRB.out g' hg'; have := HB.out; simp; omega)) HBV9.out (by have := HB.out; omega) HRB.out HB.out.1 HB.out.2.1 (by have := HB.out; have := HB3.out; omega) (by have := HB.out; have := HB3.out; omega)
                  rw [← HHN.out trivial] at hdone
                  obtain ⟨w11, hrun, hdid⟩ := hdone
                  have HDONE := Lib.hid hdid
                  clear hdid hH9 HP9 HROW9 HBV9
                  go_wp2_with fail
                  exact hR.out _ _ HDONE.out
              · have hk1 : k - 1 < 7 := by omega
                go_wp2_with fail
                go_loopw [81] (fun iv wr => ∃ j : Nat, j ≤ k - 1 ∧ iv = .int .i64 j ∧ PRep wr p' b' (putN Q1 (a0 + 1) (bs.drop 1) j) ∧ Only [b'] w5 wr) (fun iv _ => 7 - (intOf iv).toNat)
                case atStart => exact ⟨0, by omega, rfl, HP5.out, Only.refl _ _⟩
                case round =>
                  obtain ⟨j, hj, rfl, hp, ho⟩ := hrel
                  have hROW : Row wr xb 104 [.int .i64 kd, .int .i64 cl, .int .i64 n, .slice ra rn rc, .slice (some ⟨g4, 0, none⟩) k bc] := ho.row HROW5.out (by have := HB.out; simp; omega)
                  have HPJ := Lib.hid hp
                  have HOJ := Lib.hid ho
                  by_cases hlt : j < k - 1
                  · have hj1 := hcell5.out (1 + j) (by omega) wr ho
                    have hj0 := hcell5.out 0 (by omega) wr ho
                    rw [← HA0.out] at hj0
                    have c9 : wr.cell? ⟨xb, 4, none⟩ = _ := hROW.cell 4 rfl
                    have hlt1 : (j : Int) < ((k - 1 : Nat) : Int) := by omega
                    have hj00 : (0 : Int) ≤ j := by omega
                    have hset := setCell_rep wr p' b' _ hp (a0 + 1 + (j : Int)) (gI bs (1 + j))
                    have HSTEP : Hid (True → putN Q1 (a0 + 1) (bs.drop 1) (j + 1) = ((putN Q1 (a0 + 1) (bs.drop 1) j).setCell (a0 + 1 + (j : Int)) (gI bs (1 + j))).2) := fun _ => by
                      show ((putN Q1 (a0 + 1) (bs.drop 1) j).setCell (a0 + 1 + (j : Int)) (gI (bs.drop 1) j)).2 = _
                      congr 2
                      unfold gI
                      rw [List.getElem?_drop]
                    generalize (putN Q1 (a0 + 1) (bs.drop 1) j).setCell (a0 + 1 + (j : Int)) (gI bs (1 + j)) = r at hset HSTEP
                    obtain ⟨f1, f2⟩ := r
                    generalize gI bs (1 + j) = y at hj1 hset
                    clear hp ho hROW
                    go_wp2_with fail
                    refine hset.mono ?_
                    rintro e w6 ⟨rfl, hp6, ho6⟩
                    have HP6 : Hid (PRep w6 p' b' (putN Q1 (a0 + 1) (bs.drop 1) (j + 1))) := by
                      show PRep _ _ _ _
                      rw [HSTEP.out trivial]; exact hp6
                    have HO6 : Hid (Only [b'] w5 w6) := HOJ.out.trans ho6 (fun x hx => .inl hx)
                    clear hp6 ho6 hset hj1 hj0 c9
                    go_wp2_with fail
                    exact ⟨⟨j + 1, by omega, by go_num, HP6.out, HO6.out⟩, by simp [intOf]; omega⟩
                  · have hjk : ¬ (j : Int) < ((k - 1 : Nat) : Int) := by omega
                    have HO9 : Hid (Only [xb, b'] w3 wr) := HO5.out.trans ho (fun x hx => .inl (by simp at hx; simp [hx]))
                    have HP9 : Hid (PRep wr p' b' (headP Q hN bs)) := by
                      show PRep _ _ _ (headP Q hN bs)
                      have e : headP Q hN bs = putN Q1 (a0 + 1) (bs.drop 1) j := by
                        unfold headP
                        rw [HBL.out, ← HA0.out, ← HR.out, show k - 1 = j by omega]
                      rw [e]; exact hp
                    have HROW9 : Hid (Row wr xb 104 [.int .i64 kd, .int .i64 cl, .int .i64 n, .slice ra rn rc, .slice (some ⟨g4, 0, none⟩) k bc]) := hROW
                    have HBV9 : Hid (Ints wr b3 (.slice (some ⟨g4, 0, none⟩) k bc) bs) := HBV5.out.only ho (fun g' hg' => by have := (HBV5.out.own g' hg').1; have := HB.out; have := HB3.out; simp; omega)
                    clear HO5 HP5 HROW5 HBV5 c4' hcell5 hp ho hROW HPJ HOJ
                    generalize hw9 : wr = w9 at *
                    clear hw9
                    have HO10 : Hid (Only [] w0 w9) := HO3.out.trans HO9.out (fun x hx => .inr (by have := HB.out; have := HO3.out.size; simp at hx; rcases hx with rfl | rfl <;> omega))
                    have hH9 := (H.out.only0 HO10.out)
                    have e0 := hH9.cells.1
                    have e1' := hH9.cells.2.1
                    have ef := hH9.cells.2.2 0
                    have hdone := addDone (w9 := w9) (o := o) (kd := kd) (cl := cl) (n := n) (rv := .slice ra rn rc) (T := 104) H.out OK.out (HLT.out trivial) (Q := Q) (bs := bs) (by
                        have := HAN.out trivial
                        rw [← HN.out, ← HSN.out]; exact this) (by rw [← HHN.out trivial]; exact HP9.out) HO10.out HROW9.out HKD.out HCL.out HN.out (HRV3.out.only HO9.out (fun g' hg' => by have := HRB.out g' hg'; have := HB.out; simp; omega)) HBV9.out (by have := HB.out; omega) HRB.out HB.out.1 HB.out.2.1 (by have := HB.out; have := HB3.out; omega) (by have := HB.out; have := HB3.out; omega)
                    rw [← HHN.out trivial] at hdone
                    obtain ⟨w11, hrun, hdid⟩ := hdone
                    have HDONE := Lib.hid hdid
                    clear hdid hH9 HP9 HROW9 HBV9
                    go_wp2_with fail
                    exact hR.out _ _ HDONE.out
end
end Go.Proofs.Ythflghdaejbdkaa
