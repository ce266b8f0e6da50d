/- Lemmas of this claim. -/
import Derived.Test.YthflghdaejbdkaaKInts
import Derived.Test.YthflghdaejbdkaaKLib
import Derived.Maps.RangeWalk
import Derived.Maps.Ext
import Derived.WalkSpells
import Derived.Test.YthflghdaejbdkaaKOModel
namespace Go.Proofs.Ythflghdaejbdkaa
open Go.RowKit Go.Maps
set_option maxHeartbeats 1600000
set_option maxRecDepth 100000
set_option linter.unusedVariables false
structure OnlyP (S : Nat → Prop) (w w' : World) : Prop where
  os : w'.os = w.os
  tape : w'.tape = w.tape
  output : w'.output = w.output
  size : w.heap.size ≤ w'.heap.size
  block : ∀ k, k < w.heap.size → ¬ S k → w'.heap[k]? = w.heap[k]?
section
variable {S S' : Nat → Prop} {a b w w' : World}
theorem OnlyP.refl (S : Nat → Prop) (w : World) : OnlyP S w w := ⟨rfl, rfl, rfl, Nat.le_refl _, fun _ _ _ => rfl⟩
theorem Only.toP {F : List Nat} (h : Only F w w') (hF : ∀ x ∈ F, S x ∨ w.heap.size ≤ x) : OnlyP S w w' :=
  ⟨h.os, h.tape, h.output, h.size, fun k hk hS => h.block k hk (fun hm => by rcases hF k hm with h1 | h1; exact hS h1; omega)⟩
theorem Only.toP0 (h : Only [] w w') : OnlyP S w w' := h.toP (by simp)
theorem OnlyP.trans (h : OnlyP S a b) (k : OnlyP S' b w) (hS : ∀ x, S' x → S x ∨ a.heap.size ≤ x) : OnlyP S a w :=
  ⟨k.os.trans h.os, k.tape.trans h.tape, k.output.trans h.output, Nat.le_trans h.size k.size, fun i hi hF => by
    rw [k.block i (Nat.lt_of_lt_of_le hi h.size) (fun hg => by rcases hS i hg with h1 | h1; exact hF h1; omega)]
    exact h.block i hi hF⟩
theorem OnlyP.mono (h : OnlyP S w w') (hS : ∀ x, S x → S' x ∨ w.heap.size ≤ x) : OnlyP S' w w' := (OnlyP.refl S' w).trans h hS
theorem OnlyP.drew (h : OnlyP S a w) : OnlyP S a w.drew := ⟨h.os, h.tape, h.output, h.size, h.block⟩
theorem OnlyP.drewN (h : OnlyP S a w) (n : Nat) : OnlyP S a (w.drewN n) := ⟨h.os, h.tape, h.output, h.size, h.block⟩
theorem OnlyP.set (h : OnlyP S a w) {p : Addr} (hp : S p.block ∨ a.heap.size ≤ p.block) (v : Value) : OnlyP S a (w.setCell p v) :=
  ⟨h.os, h.tape, h.output, by simpa [World.setCell] using h.size, fun k hk hF => by
    rw [Below.heap_setCell _ _ _ _ (by rintro rfl; rcases hp with hp | hp; exact hF hp; omega)]; exact h.block k hk hF⟩
theorem OnlyP.alloc (h : OnlyP S a w) (o : Obj) : OnlyP S a (w.alloc o) :=
  ⟨h.os, h.tape, h.output, by have := h.size; simp; omega, fun k hk hF => by rw [Below.heap_alloc _ _ _ (Nat.lt_of_lt_of_le hk h.size)]; exact h.block k hk hF⟩
theorem OnlyP.row (h : OnlyP S w w') {b T : Nat} {cs : List Value} (hr : Row w b T cs) (hb : ¬ S b) : Row w' b T cs := by
  have := hr.lt
  unfold Row at *
  rw [h.block b this hb]
  exact hr
theorem OnlyP.cell (h : OnlyP S w w') {a : Addr} {v : Value} (hc : w.cell? a = some v) (ha : ¬ S a.block) : w'.cell? a = some v := by
  have hlt := World.block_lt_of_cell? w _ hc
  simp only [World.cell?] at hc ⊢
  rw [h.block a.block hlt ha]
  exact hc
theorem OnlyP.grown (h : OnlyP S a w) {row : Option Nat} (hg : w.grownBy w' row) (hr : ∀ k, row = some k → S k ∨ a.heap.size ≤ k) : OnlyP S a w' :=
  ⟨hg.os.trans h.os, hg.tape.trans h.tape, hg.output.trans h.output, Nat.le_trans h.size hg.size, fun k hk hF => by
    rw [hg.block k (Nat.lt_of_lt_of_le hk h.size) (fun e => by rcases hr k e.symm with h1 | h1; exact hF h1; omega)]
    exact h.block k hk hF⟩
theorem OnlyP.setCells (h : OnlyP S a w) {b : Nat} (hp : S b ∨ a.heap.size ≤ b) : ∀ (vs : List Value) (o : Nat), OnlyP S a (w.setCells b o vs) := by
  intro vs
  induction vs generalizing w with
  | nil => intro o; exact h
  | cons v r ih => intro o; exact ih (h.set (p := ⟨b, o, none⟩) hp v) (o + 1)
theorem Ints.onlyP {base : Nat} {v : Value} {l : List Int} (h : Ints w base v l) (hg : OnlyP S w w') (hF : ∀ k, v.ownBlock = some k → ¬ S k) : Ints w' base v l := by
  refine ⟨h.1, ?_⟩
  rcases h.2 with h2 | ⟨g, cap, cur, hv, hb, hh, r⟩
  · exact .inl h2
  · exact .inr ⟨g, cap, cur, hv, hb, by rw [hg.block g (Array.getElem?_eq_some_iff.1 hh).1 (hF g (by rw [hv]; rfl))]; exact hh, r⟩
end
def mkP : Option Nat → Value | some b => .pointer (some ⟨b, 0, none⟩) | none => .pointer none
def datP : Option Nat → DataW Unit | some b => .lit (.int .i64 b) | none => .nil
def ptrElem : Value → Option (DataW Unit × List MemPlace)
  | .pointer none => some (.nil, [])
  | .pointer (some ⟨b, 0, none⟩) => some (.lit (.int .i64 b), [])
  | _ => none
theorem ptrElem_mk (o : Option Nat) : ptrElem (mkP o) = some (datP o, []) := by cases o <;> rfl
theorem ptrElem_inv {v : Value} {y : DataW Unit × List MemPlace} (h : ptrElem v = some y) : ∃ o, v = mkP o ∧ y = (datP o, []) := by
  unfold ptrElem at h
  split at h
  · cases h; exact ⟨none, rfl, rfl⟩
  · rename_i b; cases h; exact ⟨some b, rfl, rfl⟩
  · cases h
theorem datP_inj {a b : Option Nat} (h : datP a = datP b) : a = b := by
  cases a <;> cases b <;> simp_all [datP]
  omega
abbrev wfI (k : Int) : Prop := (Lit.int .i64 k).wf = true
theorem wfI_mk {k : Int} (h : -9223372036854775808 ≤ k ∧ k ≤ 9223372036854775807) : wfI k := WalkArith.wf_i64 h
theorem keyedI : Maps.Keyed Try.prog 3 := Maps.int_keyed Try.underlying3
theorem keyI {k : Int} (h : wfI k) : keyOf Try.prog 3 (.int .i64 k) = some (.int .i64 k) := Maps.keyOf_int_mk Try.underlying3 h
theorem isKeyI (k : Int) (h : wfI k) : WideAt.IsKeyLit (.int .i64 k) := keyedI.key (keyI h)
def MapAt (w : World) (mb n : Nat) (f : Int → Option Nat) : Prop :=
  ∃ D : DataW Unit, w.ownsMap Try.prog 3 ptrElem mb n D ∧ ∀ k, wfI k → Maps.has D (.int .i64 k) = (f k).isSome ∧ ∀ b, f k = some b → ∀ z, D.atKey (.int .i64 k) z = .lit (.int .i64 b)
theorem zeroThing (w : World) : (zeroValue 106).run Try.prog w = .ok (.pointer none) w := by kernel_rfl
section
variable {w w' : World} {mb n : Nat} {f : Int → Option Nat}
theorem MapAt.lt (h : MapAt w mb n f) : mb < w.heap.size := by obtain ⟨D, h, _⟩ := h; exact h.lt
theorem MapAt.only {S : Nat → Prop} (h : MapAt w mb n f) (hg : OnlyP S w w') (hS : ¬ S mb) : MapAt w' mb n f := by
  obtain ⟨D, hD, hf⟩ := h
  have hlt := hD.lt
  obtain ⟨es, clock, hb, r⟩ := hD
  exact ⟨D, ⟨es, clock, (hg.block mb hlt hS).trans hb, r⟩, hf⟩
theorem MapAt.mono (h : MapAt w mb n f) {m : Nat} (hm : n ≤ m) : MapAt w mb m f := by
  obtain ⟨D, hD, hf⟩ := h
  exact ⟨D, hD.mono hm, hf⟩
theorem MapAt.look (h : MapAt w mb n f) {k : Int} (hk : wfI k) : (Instr.lookup 96 (.map (some mb)) (.int .i64 k) false).run Try.prog w = .ok (mkP (f k)) w := by
  obtain ⟨D, hD, hf⟩ := h
  obtain ⟨v, ps, hrun, hv⟩ := hD.lookup keyedI Try.underlying96 (zeroThing w) (zd := .nil) (zp := []) rfl (keyI hk)
  obtain ⟨o, rfl, hy⟩ := ptrElem_inv hv
  rw [hrun]
  obtain ⟨h1, h2⟩ := hf k hk
  cases hfk : f k with
  | none =>
    rw [hfk] at h1
    have h3 := Maps.atKey_of_not_has h1 (.nil : DataW Unit)
    rw [h3] at hy
    have : datP o = datP none := (congrArg Prod.fst hy).symm
    rw [datP_inj this]
  | some b =>
    rw [h2 b hfk] at hy
    have : datP o = datP (some b) := (congrArg Prod.fst hy).symm
    rw [datP_inj this]
theorem MapAt.made (w : World) : MapAt (w.alloc (.map #[] 0)) w.heap.size 0 (fun _ => none) :=
  ⟨.map [], World.ownsMap_made _ _ _ _, fun k _ => ⟨rfl, fun b h => by cases h⟩⟩
theorem ne_key {j k : Int} (h : j ≠ k) : Lit.int .i64 j ≠ Lit.int .i64 k := fun e => by cases e; exact h rfl
theorem MapAt.put_dat {D : DataW Unit} (hm : Maps.IsMap D) (hf : ∀ k, wfI k → Maps.has D (.int .i64 k) = (f k).isSome ∧ ∀ b, f k = some b → ∀ z, D.atKey (.int .i64 k) z = .lit (.int .i64 b)) {k : Int} (hk : wfI k) (b : Nat) :
    ∀ j, wfI j → Maps.has (D.put (.int .i64 k) (.lit (.int .i64 b))) (.int .i64 j) = ((if j = k then some b else f j).isSome) ∧ ∀ c, (if j = k then some b else f j) = some c → ∀ z, (D.put (.int .i64 k) (.lit (.int .i64 b))).atKey (.int .i64 j) z = .lit (.int .i64 c) := by
  intro j hj
  by_cases e : j = k
  · subst e
    rw [if_pos rfl]
    exact ⟨Maps.has_put_same hm (isKeyI j hj) _, fun c hc z => by cases hc; exact Maps.atKey_put_same hm (isKeyI j hj) _ z⟩
  · rw [if_neg e]
    refine ⟨by rw [Maps.has_put_other (ne_key e)]; exact (hf j hj).1, fun c hc z => ?_⟩
    rw [Maps.atKey_put_other (ne_key e)]
    exact (hf j hj).2 c hc z
theorem MapAt.store (h : MapAt w mb n f) (hn : n < 1000000) {k : Int} (hk : wfI k) (b : Nat) : ∃ w', (Instr.mapUpdate 96 (.map (some mb)) (.int .i64 k) (.pointer (some ⟨b, 0, none⟩))).run Try.prog w = .ok () w' ∧
    MapAt w' mb (n + 1) (fun j => if j = k then some b else f j) ∧ w.grownBy w' (some mb) := by
  obtain ⟨D, hD, hf⟩ := h
  obtain ⟨w', h1, h2, h3⟩ := hD.update keyedI Try.underlying96 (by simp only [maxLen]; omega) (keyI hk) (ptrElem_mk (some b))
  exact ⟨w', h1, ⟨_, h2, MapAt.put_dat hD.isMap hf hk b⟩, h3⟩
end
section
variable {w : World} {ops : Array Oper} {rest : List Oper} {o : Oper} {a : Act} {Q : Exit → Act → World → Prop}
end
theorem MapAt.congr {w : World} {mb n : Nat} {f g : Int → Option Nat} (h : MapAt w mb n f) (he : ∀ k, f k = g k) : MapAt w mb n g := by
  rw [show g = f from (funext he).symm]; exact h
section
variable {w : World} {m1 m2 n1 n2 : Nat} {D1 D2 : DataW Unit} {f1 f2 : Int → Option Nat} {g : Int → Bool}
end
theorem MapAt.bound {w : World} {mb n : Nat} {f : Int → Option Nat} (h : MapAt w mb n f) (hs : ∀ k, (f k).isSome = true → 1 ≤ k ∧ k ≤ 192) : MapAt w mb 192 f := by
  obtain ⟨D, hD, hf⟩ := h
  refine ⟨D, ?_, hf⟩
  have c := hD.canon keyedI
  have h1 := (nodup_len (keysD_nodup c) (l2 := (List.range 192).map fun (i : Nat) => Lit.int .i64 ((i : Int) + 1)) (fun x hx => by
    have hx' := (keysD_mem c x).1 hx
    obtain ⟨z, rfl, hz⟩ := ownsMap_key hD hx'
    have h2 := hs z (by rw [← (hf z hz).1]; exact hx')
    exact List.mem_map.2 ⟨z.toNat - 1, by simp; omega, by congr 1; omega⟩)).1
  rw [keysD_len c] at h1
  simp only [List.length_map, List.length_range] at h1
  obtain ⟨es, clock, hb, F, hn, rfl⟩ := hD
  have e1 : Maps.size (DataW.map ((es.toList.map (WideElems.rg Try.prog 3 ptrElem)).foldr DataW.insert [])) = es.size := by simp [Maps.size, length_sorted]
  exact ⟨es, clock, hb, F, by omega, rfl⟩
end Go.Proofs.Ythflghdaejbdkaa
namespace Go.Proofs.Ythflghdaejbdkaa
open Go.RowKit
set_option maxHeartbeats 1600000
set_option maxRecDepth 100000
set_option linter.unusedVariables false
def Bls (w : World) (base : Nat) (v : Value) (l : List Bool) : Prop := w.ownsRow base 4 1 v l.length (l.map (Value.bool))
theorem infoBool : (Try.prog.info? 4).map (fun i => (i.zero, i.size, i.bytes)) = some (some (.bool false), 1, 1) := by kernel_rfl
theorem Bls.nil (w : World) (base : Nat) : Bls w base (.slice none 0 0) [] := World.ownsRow_nil _ _ _ _
theorem Bls.alloc {w : World} {base : Nat} {v : Value} {l : List Bool} (h : Bls w base v l) (o : Obj) : Bls (w.alloc o) base v l := World.ownsRow.alloc h o
theorem Bls.base {w : World} {base b : Nat} {v : Value} {l : List Bool} (h : Bls w base v l) (hb : b ≤ base) : Bls w b v l := by
  refine ⟨h.1, ?_⟩
  rcases h.2 with h2 | ⟨g, cap, cur, hv, hg, r⟩
  · exact .inl h2
  · exact .inr ⟨g, cap, cur, hv, Nat.le_trans hb hg, r⟩
theorem Bls.form {w : World} {base : Nat} {v : Value} {l : List Bool} (h : Bls w base v l) :
    (v = .slice none 0 0 ∧ l = []) ∨ ∃ g cap, v = .slice (some ⟨g, 0, none⟩) l.length cap ∧ base ≤ g ∧ g < w.heap.size ∧ l.length ≤ cap ∧ (∀ i, i < l.length → w.cell? ⟨g, i, none⟩ = some (.bool (gB l i))) := by
  rcases h.2 with ⟨h1, h2⟩ | ⟨g, cap, cur, hv, hg, hh, hc, hm, hs, ht⟩
  · exact .inl ⟨h1, List.eq_nil_of_length_eq_zero h2⟩
  · refine .inr ⟨g, cap, hv, hg, (Array.getElem?_eq_some_iff.1 hh).1, hc, fun i hi => ?_⟩
    have h3 := World.ownsRow.cells h (g := g) (by rw [hv]; rfl) i (.bool (gB l i)) (by simp [hi, gB])
    rwa [show (⟨g, 0, none⟩ : Addr).add i = ⟨g, i, none⟩ by unfold Addr.add; split <;> simp_all] at h3
theorem Bls.len {w : World} {base : Nat} {v : Value} {l : List Bool} (h : Bls w base v l) : ∃ a cap, v = .slice a l.length cap := by
  rcases h.form with ⟨h1, h2⟩ | ⟨g, cap, h1, _⟩
  · exact ⟨none, 0, by rw [h1, h2]; rfl⟩
  · exact ⟨_, cap, h1⟩
theorem Bls.only {w w' : World} {base : Nat} {v : Value} {l : List Bool} {F : List Nat} (h : Bls w base v l) (hg : Only F w w') (hF : ∀ k, v.ownBlock = some k → k ∉ F) : Bls w' base v l := by
  refine ⟨h.1, ?_⟩
  rcases h.2 with h2 | ⟨g, cap, cur, hv, hb, hh, r⟩
  · exact .inl h2
  · exact .inr ⟨g, cap, cur, hv, hb, by rw [hg.block g (Array.getElem?_eq_some_iff.1 hh).1 (hF g (by rw [hv]; rfl))]; exact hh, r⟩
theorem Bls.own {w : World} {base : Nat} {v : Value} {l : List Bool} (h : Bls w base v l) : ∀ k, v.ownBlock = some k → base ≤ k ∧ k < w.heap.size := World.ownsRow.lt h
theorem append_bls {w : World} {ops : Array Oper} {rest : List Oper} {o : Oper} {a : Act} {Q : Exit → Act → World → Prop} (hgd : o.guard = none) (s x : Operand)
    (ho : o.op = .call { callee := .builtin .append, args := #[s, x], argTypes := #[63, 63] })
    (base : Nat) (v : Value) (l : List Bool) (hs : a.eval s = v) (hown : Bls w base v l)
    (ad : Addr) (m c : Nat) (news : List Bool) (hx : a.eval x = .slice (some ad) m c) (hl : news.length = m) (hnews : ∀ j u, news[j]? = some u → w.cell? (ad.add j) = some (.bool u))
    (hbytes : (l.length + m) * 1 ≤ 140737488355328) (hbase : base ≤ w.heap.size)
    (h : ∀ v' w', Bls w' base v' (l ++ news) → Only v.ownBlock.toList w w' → (v' = .slice none 0 0 ↔ v = .slice none 0 0 ∧ m = 0) → (v'.ownBlock = v.ownBlock ∨ v'.ownBlock = some w.heap.size) → wpList Try.prog ops Q rest (a.put o.dst v') w') : wpList Try.prog ops Q (o :: rest) a w := by
  obtain ⟨i0, hi, hz0, hz1, hz2⟩ := info_parts infoBool
  refine wpList_append_own2 hgd s x 63 ho base 4 i0 (.bool false) 1 1 Try.underlying63 hi hz0 hz1 hz2 rfl (by decide) v l.length _ hs hown ad m c (news.map (Value.bool)) hx (by simp [hl])
    (fun j u hu => ?_) (fun u hu => ?_) (by simp only [maxLen]; omega) hbytes hbase (fun v' w' h1 h2 h3 h5 => h v' w' ?_ ?_ h3 h5)
  · simp only [List.getElem?_map, Option.map_eq_some_iff] at hu
    obtain ⟨y, hy, rfl⟩ := hu
    exact hnews j y hy
  · simp only [List.mem_map] at hu
    obtain ⟨y, _, rfl⟩ := hu
    rfl
  · unfold Bls
    rw [List.length_append, hl, List.map_append]
    exact h1
  · exact (Only.refl _ _).grown h2 (fun k hk => .inl (by rw [hk]; simp))
theorem made_bls (n : Nat) : (madeCells (Value.bool false).cells (n * 1)).toList = List.replicate n (Value.bool false) := by
  apply List.ext_getElem
  · simp [madeCells]
  · intro i h1 h2
    simp [madeCells, Value.cells, Nat.mod_one]
theorem Bls.made (w : World) : Bls (w.alloc (.cells #[] 4)) w.heap.size (.slice (some ⟨w.heap.size, 0, none⟩) 0 0) [] :=
  World.ownsRow_made w #[] 0 (Nat.le_refl _) (by simp [maxLen]) rfl
set_option maxHeartbeats 400000 in
theorem clone_bnil (w : World) : Calls Try.prog 41 #[.slice none 0 0] w (Exact w (.slice none 0 0)) := by
  have hn := fun (wx : World) => Lib.run_eql_slice_nil (P := Try.prog) wx 63 4 none 0 0 0 0 Try.underlying63
  refine calls_abs fun R hR => ?_
  go_enter Try.func41, Try.ntmps41
  go_wp2_with fail
  exact hR.out _ _ ⟨rfl, rfl⟩
section
variable {S : Nat → Prop} {w w' : World}
theorem Bls.onlyP {base : Nat} {v : Value} {l : List Bool} (h : Bls w base v l) (hg : OnlyP S w w') (hF : ∀ k, v.ownBlock = some k → ¬ S k) : Bls w' base v l := by
  refine ⟨h.1, ?_⟩
  rcases h.2 with h2 | ⟨g, cap, cur, hv, hb, hh, r⟩
  · exact .inl h2
  · exact .inr ⟨g, cap, cur, hv, hb, by rw [hg.block g (Array.getElem?_eq_some_iff.1 hh).1 (hF g (by rw [hv]; rfl))]; exact hh, r⟩
end
end Go.Proofs.Ythflghdaejbdkaa
