/- Lemmas of this claim. -/
import Derived.Test.YtkacgbigeobncaaGreatTaInv
namespace Go.Proofs.YtkacgbigeobncaaGreat
open Go.RowKit Go.Maps
set_option maxHeartbeats 6400000
set_option maxRecDepth 100000
set_option linter.unusedVariables false
set_option linter.unusedSimpArgs false
theorem put_eval (a : Act) (d t : Nat) (v : Value) (hd : d < a.tmps.size) : (a.put (some d) v).tmps.getD t undef = if t = d then v else a.tmps.getD t undef := by
  show (a.tmps.setIfInBounds d v).getD t undef = _
  rw [Array.getD_eq_getD_getElem?, Array.getElem?_setIfInBounds, Array.getD_eq_getD_getElem?]
  by_cases e : t = d
  · subst e; simp [hd]
  · rw [if_neg (fun h => e h.symm), if_neg e]
def sl (b n : Nat) : Value := .slice (some ⟨b, 0, none⟩) n n
def zeroShape : List Value := [.slice none 0 0, .slice none 0 0, .slice none 0 0, .slice none 0 0, .int .i64 0, .bool false]
def fullShape (B : Nat → Nat) (n : Nat) : List Value := [sl (B 1) n, sl (B 3) n, sl (B 5) n, sl (B 7) n, .int .i64 0, .bool true]
structure ShInv (w0 : World) (a0 : Act) (n : Nat) (T3 : Nat) (B : Nat → Nat) (l : Nat → Bool) (a : Act) (w : World) : Prop where
  sz : a.tmps.size = 170
  df : a.defers = a0.defers
  fr : ∀ t, t ≠ 4 → ¬ (12 ≤ t ∧ t ≤ 20) → a.tmps.getD t undef = a0.tmps.getD t undef
  mv : ∀ i, (i = 0 ∨ i = 2 ∨ i = 4 ∨ i = 6) → l i = true → a.tmps.getD (12 + i) undef = .int .i64 n
  mks : ∀ i, (i = 1 ∨ i = 3 ∨ i = 5 ∨ i = 7) → l i = true → a.tmps.getD (12 + i) undef = sl (B i) n ∧ Row w (B i) 3 (nmV n (fun _ => 0))
  bd : l 8 = true → a.tmps.getD 20 undef = .agg (fullShape B n).toArray
  al : l 9 = true → a.tmps.getD 4 undef = .pointer (some ⟨B 9, 0, none⟩) ∧ Row w (B 9) 186 (if l 10 = true then fullShape B n else zeroShape)
  ap : ∀ i j, (i = 1 ∨ i = 3 ∨ i = 5 ∨ i = 7 ∨ i = 9) → (j = 1 ∨ j = 3 ∨ j = 5 ∨ j = 7 ∨ j = 9) → i ≠ j → l i = true → l j = true → B i ≠ B j
  ge : ∀ i, (i = 1 ∨ i = 3 ∨ i = 5 ∨ i = 7 ∨ i = 9) → l i = true → w0.heap.size ≤ B i ∧ B i < w.heap.size
  on : Only [] w0 w
section
variable {w0 w : World} {a0 a : Act} {n T3 : Nat} {B : Nat → Nat} {l : Nat → Bool}
def setB (l : Nat → Bool) (i : Nat) : Nat → Bool := fun j => if j = i then true else l j
def setN (B : Nat → Nat) (i v : Nat) : Nat → Nat := fun j => if j = i then v else B j
theorem ShInv.move (h : ShInv w0 a0 n T3 B l a w) {i : Nat} (hi : i = 0 ∨ i = 2 ∨ i = 4 ∨ i = 6) : ShInv w0 a0 n T3 B (setB l i) (a.put (some (12 + i)) (.int .i64 n)) w := by
  have hd : 12 + i < a.tmps.size := by rw [h.sz]; omega
  have hl : ∀ j, j ≠ i → setB l i j = l j := fun j hj => if_neg hj
  refine ⟨by show (a.tmps.setIfInBounds _ _).size = _; simp [h.sz], h.df, fun t h1 h2 => ?_, fun j hj hlj => ?_, fun j hj hlj => ?_, fun h8 => ?_, fun h9 => ?_, fun j k hj hk hne h1 h2 => ?_, fun j hj h1 => ?_, h.on⟩
  · rw [put_eval _ _ _ _ hd, if_neg (by omega)]; exact h.fr t h1 h2
  · rw [put_eval _ _ _ _ hd]
    by_cases e : j = i
    · subst e; rw [if_pos rfl]
    · rw [if_neg (by omega)]; exact h.mv j hj (by rwa [hl j e] at hlj)
  · rw [put_eval _ _ _ _ hd, if_neg (by omega)]
    exact h.mks j hj (by rwa [hl j (by omega)] at hlj)
  · rw [put_eval _ _ _ _ hd, if_neg (by omega)]
    exact h.bd (by rwa [hl 8 (by omega)] at h8)
  · rw [put_eval _ _ _ _ hd, if_neg (by omega), hl 10 (by omega)]
    exact h.al (by rwa [hl 9 (by omega)] at h9)
  · exact h.ap j k hj hk hne (by rwa [hl j (by omega)] at h1) (by rwa [hl k (by omega)] at h2)
  · exact h.ge j hj (by rwa [hl j (by omega)] at h1)
theorem ShInv.make (h : ShInv w0 a0 n T3 B l a w) {i : Nat} (hi : i = 1 ∨ i = 3 ∨ i = 5 ∨ i = 7) (hn : l i = false) (h8 : l 8 = false) (h10 : l 10 = false) {C : Array Value} (hC : C = (nmV n (fun _ => 0)).toArray) :
    ShInv w0 a0 n T3 (setN B i w.heap.size) (setB l i) (a.put (some (12 + i)) (.slice (some ⟨w.heap.size, 0, none⟩) n n)) (w.alloc (.cells C 3)) := by
  subst hC
  have hd : 12 + i < a.tmps.size := by rw [h.sz]; omega
  have hl : ∀ j, j ≠ i → setB l i j = l j := fun j hj => if_neg hj
  have hB : ∀ j, j ≠ i → setN B i w.heap.size j = B j := fun j hj => if_neg hj
  have hBi : setN B i w.heap.size i = w.heap.size := if_pos rfl
  have hs0 := h.on.size
  refine ⟨by show (a.tmps.setIfInBounds _ _).size = _; simp [h.sz], h.df, fun t h1 h2 => ?_, fun j hj hlj => ?_, fun j hj hlj => ?_, fun hb => ?_, fun h9 => ?_, fun j k hj hk hne h1 h2 => ?_, fun j hj h1 => ?_, h.on.alloc _⟩
  · rw [put_eval _ _ _ _ hd, if_neg (by omega)]; exact h.fr t h1 h2
  · rw [put_eval _ _ _ _ hd, if_neg (by omega)]
    exact h.mv j hj (by rwa [hl j (by omega)] at hlj)
  · rw [put_eval _ _ _ _ hd]
    by_cases e : j = i
    · subst e
      rw [if_pos rfl, hBi]
      exact ⟨rfl, Row.new w 3 (nmV n (fun _ => 0))⟩
    · rw [if_neg (by omega), hB j e]
      have := h.mks j hj (by rwa [hl j e] at hlj)
      exact ⟨this.1, this.2.alloc _⟩
  · rw [hl 8 (by omega), h8] at hb; cases hb
  · rw [put_eval _ _ _ _ hd, if_neg (by omega), hl 10 (by omega), h10, hB 9 (by omega)]
    have := h.al (by rwa [hl 9 (by omega)] at h9)
    rw [h10] at this
    exact ⟨this.1, this.2.alloc _⟩
  · by_cases e : j = i
    · subst e
      rw [hBi, hB k (by omega)]
      have := (h.ge k hk (by rwa [hl k (by omega)] at h2)).2
      omega
    · by_cases e2 : k = i
      · subst e2
        rw [hBi, hB j e]
        have := (h.ge j hj (by rwa [hl j e] at h1)).2
        omega
      · rw [hB j e, hB k e2]
        exact h.ap j k hj hk hne (by rwa [hl j e] at h1) (by rwa [hl k e2] at h2)
  · have hsz : (w.alloc (.cells (nmV n (fun _ => 0)).toArray 3)).heap.size = w.heap.size + 1 := by simp
    by_cases e : j = i
    · subst e; rw [hBi, hsz]; omega
    · rw [hB j e, hsz]
      have := h.ge j hj (by rwa [hl j e] at h1)
      omega
theorem ShInv.mem (h : ShInv w0 a0 n T3 B l a w) (hn : l 9 = false) (h10 : l 10 = false) :
    ShInv w0 a0 n T3 (setN B 9 w.heap.size) (setB l 9) (a.put (some 4) (.pointer (some ⟨w.heap.size, 0, none⟩))) (w.alloc (.cells zeroShape.toArray 186)) := by
  have hd : 4 < a.tmps.size := by rw [h.sz]; omega
  have hl : ∀ j, j ≠ 9 → setB l 9 j = l j := fun j hj => if_neg hj
  have hB : ∀ j, j ≠ 9 → setN B 9 w.heap.size j = B j := fun j hj => if_neg hj
  have hBi : setN B 9 w.heap.size 9 = w.heap.size := if_pos rfl
  have hs0 := h.on.size
  refine ⟨by show (a.tmps.setIfInBounds _ _).size = _; simp [h.sz], h.df, fun t h1 h2 => ?_, fun j hj hlj => ?_, fun j hj hlj => ?_, fun hb => ?_, fun h9 => ?_, fun j k hj hk hne h1 h2 => ?_, fun j hj h1 => ?_, h.on.alloc _⟩
  · rw [put_eval _ _ _ _ hd, if_neg (by omega)]; exact h.fr t h1 h2
  · rw [put_eval _ _ _ _ hd, if_neg (by omega)]
    exact h.mv j hj (by rwa [hl j (by omega)] at hlj)
  · rw [put_eval _ _ _ _ hd, if_neg (by omega), hB j (by omega)]
    have := h.mks j hj (by rwa [hl j (by omega)] at hlj)
    exact ⟨this.1, this.2.alloc _⟩
  · rw [put_eval _ _ _ _ hd, if_neg (by omega)]
    have := h.bd (by rwa [hl 8 (by omega)] at hb)
    rw [this]
    unfold fullShape
    rw [hB 1 (by omega), hB 3 (by omega), hB 5 (by omega), hB 7 (by omega)]
  · rw [put_eval _ _ _ _ hd, if_pos rfl, hl 10 (by omega), h10, hBi]
    exact ⟨rfl, Row.new w 186 zeroShape⟩
  · by_cases e : j = 9
    · subst e
      rw [hBi, hB k (by omega)]
      have := (h.ge k hk (by rwa [hl k (by omega)] at h2)).2
      omega
    · by_cases e2 : k = 9
      · subst e2
        rw [hBi, hB j e]
        have := (h.ge j hj (by rwa [hl j e] at h1)).2
        omega
      · rw [hB j e, hB k e2]
        exact h.ap j k hj hk hne (by rwa [hl j e] at h1) (by rwa [hl k e2] at h2)
  · have hsz : (w.alloc (.cells zeroShape.toArray 186)).heap.size = w.heap.size + 1 := by simp
    by_cases e : j = 9
    · subst e; rw [hBi, hsz]; omega
    · rw [hB j e, hsz]
      have := h.ge j hj (by rwa [hl j e] at h1)
      omega
theorem ShInv.build (h : ShInv w0 a0 n T3 B l a w) : ShInv w0 a0 n T3 B (setB l 8) (a.put (some 20) (.agg (fullShape B n).toArray)) w := by
  have hd : 20 < a.tmps.size := by rw [h.sz]; omega
  have hl : ∀ j, j ≠ 8 → setB l 8 j = l j := fun j hj => if_neg hj
  refine ⟨by show (a.tmps.setIfInBounds _ _).size = _; simp [h.sz], h.df, fun t h1 h2 => ?_, fun j hj hlj => ?_, fun j hj hlj => ?_, fun hb => ?_, fun h9 => ?_, fun j k hj hk hne h1 h2 => ?_, fun j hj h1 => ?_, h.on⟩
  · rw [put_eval _ _ _ _ hd, if_neg (by omega)]; exact h.fr t h1 h2
  · rw [put_eval _ _ _ _ hd, if_neg (by omega)]; exact h.mv j hj (by rwa [hl j (by omega)] at hlj)
  · rw [put_eval _ _ _ _ hd, if_neg (by omega)]; exact h.mks j hj (by rwa [hl j (by omega)] at hlj)
  · rw [put_eval _ _ _ _ hd, if_pos rfl]
  · rw [put_eval _ _ _ _ hd, if_neg (by omega), hl 10 (by omega)]; exact h.al (by rwa [hl 9 (by omega)] at h9)
  · exact h.ap j k hj hk hne (by rwa [hl j (by omega)] at h1) (by rwa [hl k (by omega)] at h2)
  · exact h.ge j hj (by rwa [hl j (by omega)] at h1)
theorem Only.setRow {F : List Nat} {a w : World} (h : Only F a w) {g : Nat} (hg : g ∈ F ∨ a.heap.size ≤ g) (cs : Array Value) : Only F a (w.setRow g cs) :=
  ⟨h.os, h.tape, h.output, by rw [setRow_size]; exact h.size, fun k hk hF => by
    rw [setRow_other _ _ _ _ (by rintro rfl; rcases hg with hg | hg; exact hF hg; omega)]; exact h.block k hk hF⟩
theorem Row.otherRow {w : World} {b T g : Nat} {cs : List Value} (h : Row w b T cs) (hb : b ≠ g) (ds : Array Value) : Row (w.setRow g ds) b T cs := by
  unfold Row at *
  rw [setRow_other _ _ _ _ hb]
  exact h
theorem Row.setRow {w : World} {b T : Nat} {cs ds : List Value} (h : Row w b T cs) : Row (w.setRow b ds.toArray) b T ds := by
  unfold Row at *
  exact setRow_heap _ _ _ _ _ _ h
theorem ShInv.store (h : ShInv w0 a0 n T3 B l a w) (h9 : l 9 = true) (h10 : l 10 = false) : ShInv w0 a0 n T3 B (setB l 10) a (w.setRow (B 9) (fullShape B n).toArray) := by
  have hl : ∀ j, j ≠ 10 → setB l 10 j = l j := fun j hj => if_neg hj
  have h9' := h.al h9
  rw [h10] at h9'
  have hg9 := h.ge 9 (by omega) h9
  refine ⟨h.sz, h.df, h.fr, fun j hj hlj => h.mv j hj (by rwa [hl j (by omega)] at hlj), fun j hj hlj => ?_, fun hb => h.bd (by rwa [hl 8 (by omega)] at hb), fun _ => ?_, fun j k hj hk hne h1 h2 => h.ap j k hj hk hne (by rwa [hl j (by omega)] at h1) (by rwa [hl k (by omega)] at h2), fun j hj h1 => ?_, h.on.setRow (.inr hg9.1) _⟩
  · have hlj' : l j = true := by rwa [hl j (by omega)] at hlj
    have := h.mks j hj hlj'
    exact ⟨this.1, this.2.otherRow (h.ap j 9 (by omega) (by omega) (by omega) hlj' h9) _⟩
  · refine ⟨h9'.1, ?_⟩
    rw [show setB l 10 10 = true from if_pos rfl, if_pos rfl]
    exact h9'.2.setRow
  · have := h.ge j hj (by rwa [hl j (by omega)] at h1)
    rw [setRow_size]
    exact this
theorem actEq (a : Act) {t : Array Value} {d} (h1 : a.tmps = t) (h2 : a.defers = d) : a = ⟨t, d⟩ := by cases a; simp only at h1 h2; subst h1 h2; rfl
theorem getD_set (x : Array Value) (d t : Nat) (v : Value) (hd : d < x.size) : (x.setIfInBounds d v).getD t undef = if t = d then v else x.getD t undef := by
  rw [Array.getD_eq_getD_getElem?, Array.getElem?_setIfInBounds, Array.getD_eq_getD_getElem?]
  by_cases e : t = d
  · subst e; simp [hd]
  · rw [if_neg (fun h => e h.symm), if_neg e]
theorem arr_eq {x y : Array Value} (h : x.size = y.size) (h2 : ∀ t, x.getD t undef = y.getD t undef) : x = y := by
  refine Array.ext h fun i h1 h3 => ?_
  have := h2 i
  rw [Array.getD_eq_getD_getElem?, Array.getD_eq_getD_getElem?, Array.getElem?_eq_getElem h1, Array.getElem?_eq_getElem h3] at this
  exact this
theorem ShInv.done (h : ShInv w0 a0 n T3 B l a w) (h170 : a0.tmps.size = 170) (l0 : l 0 = true) (l1 : l 1 = true) (l2 : l 2 = true) (l3 : l 3 = true) (l4 : l 4 = true) (l5 : l 5 = true) (l6 : l 6 = true) (l7 : l 7 = true) (l8 : l 8 = true) (l9 : l 9 = true) (l10 : l 10 = true) :
    a.tmps = (((((((((a0.tmps.setIfInBounds 4 (.pointer (some ⟨B 9, 0, none⟩))).setIfInBounds 12 (.int .i64 n)).setIfInBounds 13 (sl (B 1) n)).setIfInBounds 14 (.int .i64 n)).setIfInBounds 15 (sl (B 3) n)).setIfInBounds 16 (.int .i64 n)).setIfInBounds 17 (sl (B 5) n)).setIfInBounds 18 (.int .i64 n)).setIfInBounds 19 (sl (B 7) n)).setIfInBounds 20 (.agg (fullShape B n).toArray) ∧
      Row w (B 9) 186 (fullShape B n) := by
  have ha := h.al l9
  rw [l10, if_pos rfl] at ha
  refine ⟨arr_eq (by simp [h.sz, h170]) fun t => ?_, ha.2⟩
  simp only [getD_set, Array.size_setIfInBounds, h170, Nat.reduceLT]
  by_cases e20 : t = 20
  · subst e20; rw [if_pos rfl]; exact h.bd l8
  rw [if_neg e20]
  by_cases e19 : t = 19
  · subst e19; rw [if_pos rfl]; exact (h.mks 7 (by decide) l7).1
  rw [if_neg e19]
  by_cases e18 : t = 18
  · subst e18; rw [if_pos rfl]; exact h.mv 6 (by decide) l6
  rw [if_neg e18]
  by_cases e17 : t = 17
  · subst e17; rw [if_pos rfl]; exact (h.mks 5 (by decide) l5).1
  rw [if_neg e17]
  by_cases e16 : t = 16
  · subst e16; rw [if_pos rfl]; exact h.mv 4 (by decide) l4
  rw [if_neg e16]
  by_cases e15 : t = 15
  · subst e15; rw [if_pos rfl]; exact (h.mks 3 (by decide) l3).1
  rw [if_neg e15]
  by_cases e14 : t = 14
  · subst e14; rw [if_pos rfl]; exact h.mv 2 (by decide) l2
  rw [if_neg e14]
  by_cases e13 : t = 13
  · subst e13; rw [if_pos rfl]; exact (h.mks 1 (by decide) l1).1
  rw [if_neg e13]
  by_cases e12 : t = 12
  · subst e12; rw [if_pos rfl]; exact h.mv 0 (by decide) l0
  rw [if_neg e12]
  by_cases e4 : t = 4
  · subst e4; rw [if_pos rfl]; exact ha.1
  rw [if_neg e4]
  exact h.fr t e4 (by omega)
theorem zStep {P : Program} {ops : Array Oper} {K : Act → World → Prop} {Q : Exit → Act → World → Prop} {E : Prop} {o : Oper} (hg : o.guard = none) {v : Value} {w2 : World} (hr : (execOp a.eval o).run P w = .ok (.value v) w2) (h : K (a.put o.dst v) w2) :
    if Region.wanted o (yielded ops a.tmps) = true then Oper.wp P o a w K Q else E := by
  rw [if_pos (by simp [Region.wanted, hg])]
  unfold Oper.wp
  rw [hr]
  exact h
theorem zStore {P : Program} {ops : Array Oper} {K : Act → World → Prop} {Q : Exit → Act → World → Prop} {E : Prop} {o : Oper} (hg : o.guard = none) (hd : o.dst = none) (ty : TypeId) (x y : Operand) (ho : o.op = .store ty x y)
    (g T : Nat) (old cells : List Value) (hx : a.eval x = .pointer (some ⟨g, 0, none⟩)) (hy : a.eval y = .agg cells.toArray) (hr : Row w g T old) (hi : (P.info? ty).map (·.size) = some cells.length) (hold : old.length = cells.length) (h1 : cells.all (·.oneCell') = true)
    (h : K a (w.setRow g cells.toArray)) : if Region.wanted o (yielded ops a.tmps) = true then Oper.wp P o a w K Q else E := by
  rw [if_pos (by simp [Region.wanted, hg])]
  refine wp_store_row ty x y ho g cells.toArray hx hy T old.toArray hr (by simpa using hi) (by simpa using hold) (by simpa using h1) ?_
  have e : a.put o.dst undef = a := by rw [hd]; rfl
  rw [e]
  exact h
end
end Go.Proofs.YtkacgbigeobncaaGreat
