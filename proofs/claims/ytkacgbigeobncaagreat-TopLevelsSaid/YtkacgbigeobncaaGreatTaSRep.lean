/- Lemmas of this claim. -/
import Derived.Test.YtkacgbigeobncaaGreatTaSPmB
import Derived.Test.YtkacgbigeobncaaGreatTaSNear
import Derived.Test.YtkacgbigeobncaaGreatTaLib
import Derived.Maps.RangeWalk
import Derived.Maps.Ext
import Derived.WalkSpells
namespace Go.Proofs.YtkacgbigeobncaaGreat
open Go.RowKit Go.Maps
set_option linter.unusedVariables false
structure OnlyP (S : Nat → Prop) (w w' : World) : Prop where
  os : w'.os = w.os
  tape : w'.tape = w.tape
  output : w'.output = w.output
  size : w.heap.size ≤ w'.heap.size
  block : ∀ k, k < w.heap.size → ¬ S k → w'.heap[k]? = w.heap[k]?
section
variable {S S' : Nat → Prop} {a b w w' : World}
theorem OnlyP.refl (S : Nat → Prop) (w : World) : OnlyP S w w := ⟨rfl, rfl, rfl, Nat.le_refl _, fun _ _ _ => rfl⟩
theorem Only.toP {F : List Nat} (h : Only F w w') (hF : ∀ x ∈ F, S x ∨ w.heap.size ≤ x) : OnlyP S w w' :=
  ⟨h.os, h.tape, h.output, h.size, fun k hk hS => h.block k hk (fun hm => by rcases hF k hm with h1 | h1; exact hS h1; omega)⟩
theorem Only.toP0 (h : Only [] w w') : OnlyP S w w' := h.toP (by simp)
theorem OnlyP.trans (h : OnlyP S a b) (k : OnlyP S' b w) (hS : ∀ x, S' x → S x ∨ a.heap.size ≤ x) : OnlyP S a w :=
  ⟨k.os.trans h.os, k.tape.trans h.tape, k.output.trans h.output, Nat.le_trans h.size k.size, fun i hi hF => by
    rw [k.block i (Nat.lt_of_lt_of_le hi h.size) (fun hg => by rcases hS i hg with h1 | h1; exact hF h1; omega)]
    exact h.block i hi hF⟩
theorem OnlyP.mono (h : OnlyP S w w') (hS : ∀ x, S x → S' x ∨ w.heap.size ≤ x) : OnlyP S' w w' := (OnlyP.refl S' w).trans h hS
theorem OnlyP.drew (h : OnlyP S a w) : OnlyP S a w.drew := ⟨h.os, h.tape, h.output, h.size, h.block⟩
theorem OnlyP.drewN (h : OnlyP S a w) (n : Nat) : OnlyP S a (w.drewN n) := ⟨h.os, h.tape, h.output, h.size, h.block⟩
theorem OnlyP.set (h : OnlyP S a w) {p : Addr} (hp : S p.block ∨ a.heap.size ≤ p.block) (v : Value) : OnlyP S a (w.setCell p v) :=
  ⟨h.os, h.tape, h.output, by simpa [World.setCell] using h.size, fun k hk hF => by
    rw [Below.heap_setCell _ _ _ _ (by rintro rfl; rcases hp with hp | hp; exact hF hp; omega)]; exact h.block k hk hF⟩
theorem OnlyP.alloc (h : OnlyP S a w) (o : Obj) : OnlyP S a (w.alloc o) :=
  ⟨h.os, h.tape, h.output, by have := h.size; simp; omega, fun k hk hF => by rw [Below.heap_alloc _ _ _ (Nat.lt_of_lt_of_le hk h.size)]; exact h.block k hk hF⟩
theorem OnlyP.row (h : OnlyP S w w') {b T : Nat} {cs : List Value} (hr : Row w b T cs) (hb : ¬ S b) : Row w' b T cs := by
  have := hr.lt
  unfold Row at *
  rw [h.block b this hb]
  exact hr
theorem OnlyP.cell (h : OnlyP S w w') {a : Addr} {v : Value} (hc : w.cell? a = some v) (ha : ¬ S a.block) : w'.cell? a = some v := by
  have hlt := World.block_lt_of_cell? w _ hc
  simp only [World.cell?] at hc ⊢
  rw [h.block a.block hlt ha]
  exact hc
theorem OnlyP.below {B : Nat} (h : OnlyP S w w') (hB : B ≤ w.heap.size) (hS : ∀ x, S x → B ≤ x) : Below B w w' :=
  ⟨h.os, h.tape, h.output, h.size, fun k hk => h.block k (by omega) (fun hk' => by have := hS k hk'; omega)⟩
theorem OnlyP.ofBelow (h : Below w.heap.size w w') : OnlyP S w w' := ⟨h.os, h.tape, h.output, h.size, fun k hk _ => h.block k hk⟩
theorem OnlyP.grown (h : OnlyP S a w) {row : Option Nat} (hg : w.grownBy w' row) (hr : ∀ k, row = some k → S k ∨ a.heap.size ≤ k) : OnlyP S a w' :=
  ⟨hg.os.trans h.os, hg.tape.trans h.tape, hg.output.trans h.output, Nat.le_trans h.size hg.size, fun k hk hF => by
    rw [hg.block k (Nat.lt_of_lt_of_le hk h.size) (fun e => by rcases hr k e.symm with h1 | h1; exact hF h1; omega)]
    exact h.block k hk hF⟩
theorem OnlyP.setCells (h : OnlyP S a w) {b : Nat} (hp : S b ∨ a.heap.size ≤ b) : ∀ (vs : List Value) (o : Nat), OnlyP S a (w.setCells b o vs) := by
  intro vs
  induction vs generalizing w with
  | nil => intro o; exact h
  | cons v r ih => intro o; exact ih (h.set (p := ⟨b, o, none⟩) hp v) (o + 1)
theorem Ints.onlyP {base : Nat} {v : Value} {l : List Int} (h : Ints w base v l) (hg : OnlyP S w w') (hF : ∀ k, v.ownBlock = some k → ¬ S k) : Ints w' base v l := by
  refine ⟨h.1, ?_⟩
  rcases h.2 with h2 | ⟨g, cap, cur, hv, hb, hh, r⟩
  · exact .inl h2
  · exact .inr ⟨g, cap, cur, hv, hb, by rw [hg.block g (Array.getElem?_eq_some_iff.1 hh).1 (hF g (by rw [hv]; rfl))]; exact hh, r⟩
end
def mkP : Option Nat → Value | some b => .pointer (some ⟨b, 0, none⟩) | none => .pointer none
def datP : Option Nat → DataW Unit | some b => .lit (.int .i64 b) | none => .nil
def ptrElem : Value → Option (DataW Unit × List MemPlace)
  | .pointer none => some (.nil, [])
  | .pointer (some ⟨b, 0, none⟩) => some (.lit (.int .i64 b), [])
  | _ => none
theorem ptrElem_mk (o : Option Nat) : ptrElem (mkP o) = some (datP o, []) := by cases o <;> rfl
theorem ptrElem_inv {v : Value} {y : DataW Unit × List MemPlace} (h : ptrElem v = some y) : ∃ o, v = mkP o ∧ y = (datP o, []) := by
  unfold ptrElem at h
  split at h
  · cases h; exact ⟨none, rfl, rfl⟩
  · rename_i b; cases h; exact ⟨some b, rfl, rfl⟩
  · cases h
theorem datP_inj {a b : Option Nat} (h : datP a = datP b) : a = b := by
  cases a <;> cases b <;> simp_all [datP]
  omega
theorem mkP_inj {a b : Option Nat} (h : mkP a = mkP b) : a = b := by
  cases a <;> cases b <;> simp_all [mkP]
abbrev wfI (k : Int) : Prop := (Lit.int .i64 k).wf = true
theorem wfI_mk {k : Int} (h : -9223372036854775808 ≤ k ∧ k ≤ 9223372036854775807) : wfI k := WalkArith.wf_i64 h
theorem keyedI : Maps.Keyed Tryz.prog 3 := Maps.int_keyed Tryz.underlying3
theorem keyI {k : Int} (h : wfI k) : keyOf Tryz.prog 3 (.int .i64 k) = some (.int .i64 k) := Maps.keyOf_int_mk Tryz.underlying3 h
theorem isKeyI (k : Int) (h : wfI k) : WideAt.IsKeyLit (.int .i64 k) := keyedI.key (keyI h)
def MapAt (w : World) (mb n : Nat) (f : Int → Option Nat) : Prop :=
  ∃ D : DataW Unit, w.ownsMap Tryz.prog 3 ptrElem mb n D ∧ ∀ k, wfI k → Maps.has D (.int .i64 k) = (f k).isSome ∧ ∀ b, f k = some b → ∀ z, D.atKey (.int .i64 k) z = .lit (.int .i64 b)
theorem zeroThing (w : World) : (zeroValue 53).run Tryz.prog w = .ok (.pointer none) w := by kernel_rfl
section
variable {w w' : World} {mb n : Nat} {f : Int → Option Nat}
theorem MapAt.lt (h : MapAt w mb n f) : mb < w.heap.size := by obtain ⟨D, h, _⟩ := h; exact h.lt
theorem MapAt.only {S : Nat → Prop} (h : MapAt w mb n f) (hg : OnlyP S w w') (hS : ¬ S mb) : MapAt w' mb n f := by
  obtain ⟨D, hD, hf⟩ := h
  have hlt := hD.lt
  obtain ⟨es, clock, hb, r⟩ := hD
  exact ⟨D, ⟨es, clock, (hg.block mb hlt hS).trans hb, r⟩, hf⟩
theorem MapAt.mono (h : MapAt w mb n f) {m : Nat} (hm : n ≤ m) : MapAt w mb m f := by
  obtain ⟨D, hD, hf⟩ := h
  exact ⟨D, hD.mono hm, hf⟩
theorem MapAt.look (h : MapAt w mb n f) {k : Int} (hk : wfI k) : (Instr.lookup 41 (.map (some mb)) (.int .i64 k) false).run Tryz.prog w = .ok (mkP (f k)) w := by
  obtain ⟨D, hD, hf⟩ := h
  obtain ⟨v, ps, hrun, hv⟩ := hD.lookup keyedI Tryz.underlying41 (zeroThing w) (zd := .nil) (zp := []) rfl (keyI hk)
  obtain ⟨o, rfl, hy⟩ := ptrElem_inv hv
  rw [hrun]
  obtain ⟨h1, h2⟩ := hf k hk
  cases hfk : f k with
  | none =>
    rw [hfk] at h1
    have h3 := Maps.atKey_of_not_has h1 (.nil : DataW Unit)
    rw [h3] at hy
    have : datP o = datP none := (congrArg Prod.fst hy).symm
    rw [datP_inj this]
  | some b =>
    rw [h2 b hfk] at hy
    have : datP o = datP (some b) := (congrArg Prod.fst hy).symm
    rw [datP_inj this]
theorem MapAt.made (w : World) : MapAt (w.alloc (.map #[] 0)) w.heap.size 0 (fun _ => none) :=
  ⟨.map [], World.ownsMap_made _ _ _ _, fun k _ => ⟨rfl, fun b h => by cases h⟩⟩
theorem ne_key {j k : Int} (h : j ≠ k) : Lit.int .i64 j ≠ Lit.int .i64 k := fun e => by cases e; exact h rfl
theorem MapAt.put_dat {D : DataW Unit} (hm : Maps.IsMap D) (hf : ∀ k, wfI k → Maps.has D (.int .i64 k) = (f k).isSome ∧ ∀ b, f k = some b → ∀ z, D.atKey (.int .i64 k) z = .lit (.int .i64 b)) {k : Int} (hk : wfI k) (b : Nat) :
    ∀ j, wfI j → Maps.has (D.put (.int .i64 k) (.lit (.int .i64 b))) (.int .i64 j) = ((if j = k then some b else f j).isSome) ∧ ∀ c, (if j = k then some b else f j) = some c → ∀ z, (D.put (.int .i64 k) (.lit (.int .i64 b))).atKey (.int .i64 j) z = .lit (.int .i64 c) := by
  intro j hj
  by_cases e : j = k
  · subst e
    rw [if_pos rfl]
    exact ⟨Maps.has_put_same hm (isKeyI j hj) _, fun c hc z => by cases hc; exact Maps.atKey_put_same hm (isKeyI j hj) _ z⟩
  · rw [if_neg e]
    refine ⟨by rw [Maps.has_put_other (ne_key e)]; exact (hf j hj).1, fun c hc z => ?_⟩
    rw [Maps.atKey_put_other (ne_key e)]
    exact (hf j hj).2 c hc z
theorem MapAt.store (h : MapAt w mb n f) (hn : n < 1000000) {k : Int} (hk : wfI k) (b : Nat) : ∃ w', (Instr.mapUpdate 41 (.map (some mb)) (.int .i64 k) (.pointer (some ⟨b, 0, none⟩))).run Tryz.prog w = .ok () w' ∧
    MapAt w' mb (n + 1) (fun j => if j = k then some b else f j) ∧ w.grownBy w' (some mb) := by
  obtain ⟨D, hD, hf⟩ := h
  obtain ⟨w', h1, h2, h3⟩ := hD.update keyedI Tryz.underlying41 (by simp only [maxLen]; omega) (keyI hk) (ptrElem_mk (some b))
  exact ⟨w', h1, ⟨_, h2, MapAt.put_dat hD.isMap hf hk b⟩, h3⟩
end
inductive Lb where | mem | scp | stk (t : Nat) | map | th (k : Int) | rf (k : Int)
  deriving DecidableEq
def Sp.fld (s : Sp) : Nat → Int | 0 => s.size | 1 => s.room | 2 => s.users | 3 => s.parent | _ => s.portal
def ScAt (w : World) (L : Nat → Option Lb) (v : Value) (l : List Sp) : Prop :=
  (l = [] ∧ v = .slice none 0 0) ∨ ∃ g cap T cs, v = .slice (some ⟨g, 0, none⟩) l.length cap ∧ Row w g T cs ∧ L g = some .scp ∧ ∀ j s, l[j]? = some s → ∀ r, r < 5 → cs[j * 5 + r]? = some (.int .i64 (s.fld r))
def ThAt (w : World) (L : Nat → Option Lb) (k : Int) (b : Nat) (v : Value) (t : Th) : Prop :=
  (∃ T, Row w b T [.int .i64 t.area, .int .i64 t.blocks, v]) ∧ L b = some (.th k) ∧ Ints w 0 v t.refs ∧ ∀ g, v.ownBlock = some g → L g = some (.rf k)
structure PX where
  scv : Value
  sv : Nat → Value
  mb : Nat
  blk : Int → Nat
  rv : Int → Value
def memRow (X : PX) (made : Nat) : List Value := [X.scv, X.sv 0, X.sv 1, X.sv 2, X.sv 3, X.sv 4, .map (some X.mb), .int .i64 made]
structure PRep (w : World) (L : Nat → Option Lb) (p : Nat) (P : Pm) (X : PX) : Prop where
  lt : ∀ k, L k ≠ none → k < w.heap.size
  mem : ∃ T, Row w p T (memRow X P.made)
  Lm : L p = some .mem
  sc : ScAt w L X.scv P.scs
  st : ∀ t, t < 5 → Ints w 0 (X.sv t) (P.stk t) ∧ ∀ g, (X.sv t).ownBlock = some g → L g = some (.stk t)
  mp : MapAt w X.mb P.made (fun k => (P.ob k).map fun _ => X.blk k)
  Lp : L X.mb = some .map
  th : ∀ k t, P.ob k = some t → ThAt w L k (X.blk k) (X.rv k) t
section
variable {w w' : World} {S : Nat → Prop} {L L' : Nat → Option Lb} {p : Nat} {P : Pm} {X : PX}
theorem ScAt.only {v : Value} {l : List Sp} (h : ScAt w L v l) (hg : OnlyP S w w') (hS : ∀ k, S k → L k ≠ some .scp) : ScAt w' L v l := by
  rcases h with h | ⟨g, cap, T, cs, h1, h2, h3, h4⟩
  · exact .inl h
  · exact .inr ⟨g, cap, T, cs, h1, hg.row h2 (fun x => hS g x h3), h3, h4⟩
theorem ThAt.only {k : Int} {b : Nat} {v : Value} {t : Th} (h : ThAt w L k b v t) (hg : OnlyP S w w') (hS : ∀ x, S x → L x ≠ some (.th k) ∧ L x ≠ some (.rf k)) : ThAt w' L k b v t := by
  obtain ⟨⟨T, h1⟩, h2, h3, h4⟩ := h
  exact ⟨⟨T, hg.row h1 (fun x => (hS b x).1 h2)⟩, h2, h3.onlyP hg (fun g hgv x => (hS g x).2 (h4 g hgv)), h4⟩
theorem PRep.only (h : PRep w L p P X) (hg : OnlyP S w w') (hS : ∀ k, S k → L k = none) : PRep w' L p P X := by
  have hne : ∀ k ℓ, S k → L k ≠ some ℓ := fun k ℓ hk e => by rw [hS k hk] at e; cases e
  refine ⟨fun k hk => Nat.lt_of_lt_of_le (h.lt k hk) hg.size, ?_, h.Lm, h.sc.only hg (fun k hk => hne k _ hk), fun t ht => ⟨(h.st t ht).1.onlyP hg (fun g hgv x => hne g _ x ((h.st t ht).2 g hgv)), (h.st t ht).2⟩,
    h.mp.only hg (fun x => hne _ _ x h.Lp), h.Lp, fun k t hk => (h.th k t hk).only hg (fun x hx => ⟨hne x _ hx, hne x _ hx⟩)⟩
  obtain ⟨T, hr⟩ := h.mem
  exact ⟨T, hg.row hr (fun x => hne _ _ x h.Lm)⟩
theorem PRep.only0 (h : PRep w L p P X) (hg : Only [] w w') : PRep w' L p P X := h.only (hg.toP0 (S := fun _ => False)) (fun _ x => x.elim)
theorem PRep.drewN (h : PRep w L p P X) (n : Nat) : PRep (w.drewN n) L p P X := h.only ((OnlyP.refl (fun _ => False) w).drewN n) (fun _ x => x.elim)
theorem PRep.drew (h : PRep w L p P X) : PRep w.drew L p P X := h.only ((OnlyP.refl (fun _ => False) w).drew) (fun _ x => x.elim)
theorem ScAt.lab {v : Value} {l : List Sp} (h : ScAt w L v l) (hL : ∀ k, L k ≠ none → L' k = L k) : ScAt w L' v l := by
  rcases h with h | ⟨g, cap, T, cs, h1, h2, h3, h4⟩
  · exact .inl h
  · exact .inr ⟨g, cap, T, cs, h1, h2, by rw [hL g (by rw [h3]; simp)]; exact h3, h4⟩
theorem lab_of {ℓ : Lb} {g : Nat} (hL : ∀ k, L k ≠ none → L' k = L k) (h : L g = some ℓ) : L' g = some ℓ := by rw [hL g (by rw [h]; simp)]; exact h
theorem ThAt.lab {k : Int} {b : Nat} {v : Value} {t : Th} (h : ThAt w L k b v t) (hL : ∀ k, L k ≠ none → L' k = L k) : ThAt w L' k b v t :=
  ⟨h.1, lab_of hL h.2.1, h.2.2.1, fun g hg => lab_of hL (h.2.2.2 g hg)⟩
theorem PRep.lab (h : PRep w L p P X) (hL : ∀ k, L k ≠ none → L' k = L k) (hlt : ∀ k, L' k ≠ none → k < w.heap.size) : PRep w L' p P X :=
  ⟨hlt, h.mem, lab_of hL h.Lm, h.sc.lab hL, fun t ht => ⟨(h.st t ht).1, fun g hg => lab_of hL ((h.st t ht).2 g hg)⟩, h.mp, lab_of hL h.Lp, fun k t hk => (h.th k t hk).lab hL⟩
theorem ScAt.at {v : Value} {l : List Sp} (h : ScAt w L v l) {j : Nat} (hj : j < l.length) : ∃ g cap, v = .slice (some ⟨g, 0, none⟩) l.length cap ∧ L g = some .scp ∧ ∀ r, r < 5 → w.cell? ⟨g, j * 5 + r, none⟩ = some (.int .i64 (l[j].fld r)) ∧ w.frozen? ⟨g, j * 5 + r, none⟩ = false := by
  rcases h with ⟨h, _⟩ | ⟨g, cap, T, cs, h1, h2, h3, h4⟩
  · subst h; simp at hj
  · exact ⟨g, cap, h1, h3, fun r hr => ⟨h2.cell _ (h4 j _ (List.getElem?_eq_getElem hj) r hr), h2.free _⟩⟩
theorem PRep.spAt (h : PRep w L p P X) {a : Int} (h2 : 2 ≤ a) (ha : a < (P.n : Int) + 2) : ∃ g cap, X.scv = .slice (some ⟨g, 0, none⟩) P.n cap ∧ L g = some .scp ∧ ∀ r, r < 5 → w.cell? ⟨g, (a.toNat - 2) * 5 + r, none⟩ = some (.int .i64 ((P.sp a).fld r)) ∧ w.frozen? ⟨g, (a.toNat - 2) * 5 + r, none⟩ = false := by
  have hj : a.toNat - 2 < P.scs.length := by unfold Pm.n at ha; omega
  obtain ⟨g, cap, h1, h3, h4⟩ := h.sc.at hj
  have e : P.sp a = P.scs[a.toNat - 2] := by unfold Pm.sp; rw [List.getElem?_eq_getElem hj]; rfl
  rw [e]
  exact ⟨g, cap, h1, h3, h4⟩
end
end Go.Proofs.YtkacgbigeobncaaGreat
