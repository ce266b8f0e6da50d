/- Lemmas of this claim. -/
import Derived.Test.YthflghdaejbdkaaRows
import Derived.Test.YthflghdaejbdkaaKLib
import Derived.Test.YthflghdaejbdkaaKQModel
import Derived.Laws.AppendOwnNone
import Derived.Maps.RangeWalk
import Derived.Maps.Ext
namespace Go.Proofs.Ythflghdaejbdkaa
open Go.RowKit
def Ints (w : World) (base : Nat) (v : Value) (l : List Int) : Prop := w.ownsRow base 3 1 v l.length (l.map (Value.int .i64))
theorem infoInt : (Try.prog.info? 3).map (fun i => (i.zero, i.size, i.bytes)) = some (some (.int .i64 0), 1, 8) := by kernel_rfl
theorem Ints.nil (w : World) (base : Nat) : Ints w base (.slice none 0 0) [] := World.ownsRow_nil _ _ _ _
theorem Ints.drewN {w : World} {base : Nat} {v : Value} {l : List Int} (h : Ints w base v l) (n : Nat) : Ints (w.drewN n) base v l := h
theorem Ints.drew {w : World} {base : Nat} {v : Value} {l : List Int} (h : Ints w base v l) : Ints w.drew base v l := h
theorem Ints.alloc {w : World} {base : Nat} {v : Value} {l : List Int} (h : Ints w base v l) (o : Obj) : Ints (w.alloc o) base v l := World.ownsRow.alloc h o
theorem Ints.base {w : World} {base b : Nat} {v : Value} {l : List Int} (h : Ints w base v l) (hb : b ≤ base) : Ints w b v l := by
  refine ⟨h.1, ?_⟩
  rcases h.2 with h2 | ⟨g, cap, cur, hv, hg, r⟩
  · exact .inl h2
  · exact .inr ⟨g, cap, cur, hv, Nat.le_trans hb hg, r⟩
theorem Ints.form {w : World} {base : Nat} {v : Value} {l : List Int} (h : Ints w base v l) :
    (v = .slice none 0 0 ∧ l = []) ∨ ∃ g cap, v = .slice (some ⟨g, 0, none⟩) l.length cap ∧ base ≤ g ∧ g < w.heap.size ∧ l.length ≤ cap ∧ (∀ i, i < l.length → w.cell? ⟨g, i, none⟩ = some (.int .i64 (gI l i))) := by
  rcases h.2 with ⟨h1, h2⟩ | ⟨g, cap, cur, hv, hg, hh, hc, hm, hs, ht⟩
  · exact .inl ⟨h1, List.eq_nil_of_length_eq_zero h2⟩
  · refine .inr ⟨g, cap, hv, hg, (Array.getElem?_eq_some_iff.1 hh).1, hc, fun i hi => ?_⟩
    have h3 := World.ownsRow.cells h (g := g) (by rw [hv]; rfl) i (.int .i64 (gI l i)) (by simp [hi, gI])
    rwa [show (⟨g, 0, none⟩ : Addr).add i = ⟨g, i, none⟩ by unfold Addr.add; split <;> simp_all] at h3
theorem Ints.len {w : World} {base : Nat} {v : Value} {l : List Int} (h : Ints w base v l) : ∃ a cap, v = .slice a l.length cap := by
  rcases h.form with ⟨h1, h2⟩ | ⟨g, cap, h1, _⟩
  · exact ⟨none, 0, by rw [h1, h2]; rfl⟩
  · exact ⟨_, cap, h1⟩
theorem Ints.only {w w' : World} {base : Nat} {v : Value} {l : List Int} {F : List Nat} (h : Ints w base v l) (hg : Only F w w') (hF : ∀ k, v.ownBlock = some k → k ∉ F) : Ints w' base v l := by
  refine ⟨h.1, ?_⟩
  rcases h.2 with h2 | ⟨g, cap, cur, hv, hb, hh, r⟩
  · exact .inl h2
  · exact .inr ⟨g, cap, cur, hv, hb, by rw [hg.block g (Array.getElem?_eq_some_iff.1 hh).1 (hF g (by rw [hv]; rfl))]; exact hh, r⟩
theorem Ints.own {w : World} {base : Nat} {v : Value} {l : List Int} (h : Ints w base v l) : ∀ k, v.ownBlock = some k → base ≤ k ∧ k < w.heap.size := World.ownsRow.lt h
theorem append_ints {w : World} {ops : Array Oper} {rest : List Oper} {o : Oper} {a : Act} {Q : Exit → Act → World → Prop} (hgd : o.guard = none) (s x : Operand)
    (ho : o.op = .call { callee := .builtin .append, args := #[s, x], argTypes := #[23, 23] })
    (base : Nat) (v : Value) (l : List Int) (hs : a.eval s = v) (hown : Ints w base v l)
    (ad : Addr) (m c : Nat) (news : List Int) (hx : a.eval x = .slice (some ad) m c) (hl : news.length = m) (hnews : ∀ j u, news[j]? = some u → w.cell? (ad.add j) = some (.int .i64 u))
    (hbytes : (l.length + m) * 8 ≤ 140737488355328) (hbase : base ≤ w.heap.size)
    (h : ∀ v' w', Ints w' base v' (l ++ news) → Only v.ownBlock.toList w w' → (v' = .slice none 0 0 ↔ v = .slice none 0 0 ∧ m = 0) → (v'.ownBlock = v.ownBlock ∨ v'.ownBlock = some w.heap.size) → wpList Try.prog ops Q rest (a.put o.dst v') w') : wpList Try.prog ops Q (o :: rest) a w := by
  obtain ⟨i0, hi, hz0, hz1, hz2⟩ := info_parts infoInt
  refine wpList_append_own2 hgd s x 23 ho base 3 i0 (.int .i64 0) 1 8 Try.underlying23 hi hz0 hz1 hz2 rfl (by decide) v l.length _ hs hown ad m c (news.map (Value.int .i64)) hx (by simp [hl])
    (fun j u hu => ?_) (fun u hu => ?_) (by simp only [maxLen]; omega) hbytes hbase (fun v' w' h1 h2 h3 h5 => h v' w' ?_ ?_ h3 h5)
  · simp only [List.getElem?_map, Option.map_eq_some_iff] at hu
    obtain ⟨y, hy, rfl⟩ := hu
    exact hnews j y hy
  · simp only [List.mem_map] at hu
    obtain ⟨y, _, rfl⟩ := hu
    rfl
  · unfold Ints
    rw [List.length_append, hl, List.map_append]
    exact h1
  · exact (Only.refl _ _).grown h2 (fun k hk => .inl (by rw [hk]; simp))
theorem append_intsO {w : World} {ops : Array Oper} {rest : List Oper} {o : Oper} {a : Act} {Q : Exit → Act → World → Prop} (hgd : o.guard = none) (s x : Operand)
    (ho : o.op = .call { callee := .builtin .append, args := #[s, x], argTypes := #[23, 23] })
    (base : Nat) (v : Value) (l : List Int) (hs : a.eval s = v) (hown : Ints w base v l)
    (oa : Option Addr) (m c : Nat) (news : List Int) (hx : a.eval x = .slice oa m c) (hoa : oa = none → m = 0 ∧ c = 0) (hl : news.length = m) (hnews : ∀ ad, oa = some ad → ∀ j u, news[j]? = some u → w.cell? (ad.add j) = some (.int .i64 u))
    (hbytes : (l.length + m) * 8 ≤ 140737488355328) (hbase : base ≤ w.heap.size)
    (h : ∀ v' w', Ints w' base v' (l ++ news) → Only v.ownBlock.toList w w' → (v'.ownBlock = v.ownBlock ∨ v'.ownBlock = some w.heap.size) → wpList Try.prog ops Q rest (a.put o.dst v') w') : wpList Try.prog ops Q (o :: rest) a w := by
  cases oa with
  | some ad => exact append_ints hgd s x ho base v l hs hown ad m c news hx hl (hnews ad rfl) hbytes hbase (fun v' w' h1 h2 _ h5 => h v' w' h1 h2 h5)
  | none =>
    obtain ⟨rfl, rfl⟩ := hoa rfl
    have : news = [] := List.eq_nil_of_length_eq_zero hl
    subst this
    obtain ⟨i0, hi, hz0, hz1, hz2⟩ := info_parts infoInt
    refine wpList_append_own_none hgd s x 23 ho base 3 i0 1 Try.underlying23 hi v l.length _ hs hown hx (h v w (by simpa using hown) (Only.refl _ _) (.inl rfl))
theorem append_int1 {w : World} {ops : Array Oper} {rest : List Oper} {o : Oper} {a : Act} {Q : Exit → Act → World → Prop} (hgd : o.guard = none) (s x : Operand)
    (ho : o.op = .call { callee := .builtin .append, args := #[s, x], argTypes := #[23, 23] })
    (base : Nat) (v : Value) (l : List Int) (hs : a.eval s = v) (hown : Ints w base v l)
    (b : Nat) (y : Int) (hx : a.eval x = .slice (some ⟨b, 0, none⟩) 1 1) (hnews : w.cell? ⟨b, 0, none⟩ = some (.int .i64 y))
    (hbytes : l.length + 1 ≤ 17592186044416) (hbase : base ≤ w.heap.size)
    (h : ∀ v' w', Ints w' base v' (l ++ [y]) → Only v.ownBlock.toList w w' → (v'.ownBlock = v.ownBlock ∨ v'.ownBlock = some w.heap.size) → wpList Try.prog ops Q rest (a.put o.dst v') w') : wpList Try.prog ops Q (o :: rest) a w := by
  refine append_ints hgd s x ho base v l hs hown ⟨b, 0, none⟩ 1 1 [y] hx rfl (fun j u hu => ?_) (by omega) hbase (fun v' w' h1 h2 _ h5 => h v' w' h1 h2 h5)
  cases j with
  | zero => simp at hu; subst hu; exact hnews
  | succ j => simp at hu
theorem made_ints (n : Nat) : (madeCells (Value.int .i64 0).cells (n * 1)).toList = List.replicate n (Value.int .i64 0) := by
  apply List.ext_getElem
  · simp [madeCells]
  · intro i h1 h2
    simp [madeCells, Value.cells, Nat.mod_one]
theorem Ints.made (w : World) : Ints (w.alloc (.cells #[] 3)) w.heap.size (.slice (some ⟨w.heap.size, 0, none⟩) 0 0) [] :=
  World.ownsRow_made w #[] 0 (Nat.le_refl _) (by simp [maxLen]) rfl
set_option maxHeartbeats 400000 in
theorem clone_nil (w : World) : Calls Try.prog 35 #[.slice none 0 0] w (Exact w (.slice none 0 0)) := by
  have hn := fun (wx : World) => Lib.run_eql_slice_nil (P := Try.prog) wx 23 3 none 0 0 0 0 Try.underlying23
  refine calls_abs fun R hR => ?_
  go_enter Try.func35, Try.ntmps35
  go_wp2_with fail
  exact hR.out _ _ ⟨rfl, rfl⟩
set_option maxHeartbeats 400000 in
theorem clone_ints (w : World) (b n c : Nat) (l : List Int) (hl : l.length = n) (hn : n ≤ 17592186044416) (hc : ∀ i, i < n → w.cell? ⟨b, i, none⟩ = some (.int .i64 (gI l i))) :
    Calls Try.prog 35 #[.slice (some ⟨b, 0, none⟩) n c] w fun e w' => ∃ v, e = .returned v ∧ Ints w' w.heap.size v l ∧ Only [] w w' ∧ v ≠ .slice none 0 0 := by
  have hq := fun (wx : World) => Lib.run_eql_slice_nil (P := Try.prog) wx 23 3 (some ⟨b, 0, none⟩) n c 0 0 Try.underlying23
  have HL := Lib.hid hl
  have HC := Lib.hid hc
  clear hl hc
  refine calls_abs fun R hR => ?_
  go_enter Try.func35, Try.ntmps35
  go_wp2_with (at_builtin; refine append_ints rfl _ _ rfl w.heap.size _ _ rfl (Ints.made w) ⟨b, 0, none⟩ n c l rfl ?_ ?_ ?_ ?_ ?_)
  · exact HL.out
  · intro j u hu
    have hj : j < n := by have := (List.getElem?_eq_some_iff.1 hu).1; have := HL.out; omega
    have h1 := HC.out j hj
    rw [show (⟨b, 0, none⟩ : Addr).add j = ⟨b, j, none⟩ by unfold Addr.add; split <;> simp_all]
    rw [World.cell?_alloc_past _ _ _ (World.block_lt_of_cell? w _ h1), h1, gI, hu]
    rfl
  · simp; omega
  · simp
  · intro v w1 hv ho hn hblk
    have HN : Hid (v ≠ .slice none 0 0) := by intro e; simp [e] at hn
    clear hn
    go_wp2_with fail
    exact hR.out _ _ ⟨v, rfl, hv, ((Only.refl _ _).alloc _).trans ho (fun x hx => .inr (by simp [Value.ownBlock] at hx; omega)), HN.out⟩
end Go.Proofs.Ythflghdaejbdkaa
namespace Go.Proofs.Ythflghdaejbdkaa
open Go.RowKit
set_option linter.unusedVariables false
def Read (w : World) (v : Value) (l : List Int) : Prop :=
  (∃ b o c, v = .slice (some ⟨b, o, none⟩) l.length c ∧ ∀ i, i < l.length → w.cell? ⟨b, o + i, none⟩ = some (.int .i64 (gI l i))) ∨ (∃ oa c, v = .slice oa 0 c ∧ l = [])
theorem Ints.read {w : World} {base : Nat} {v : Value} {l : List Int} (h : Ints w base v l) : Read w v l := by
  rcases h.form with ⟨h1, h2⟩ | ⟨g, cap, h1, _, _, _, h2⟩
  · exact .inr ⟨none, 0, h1, h2⟩
  · exact .inl ⟨g, 0, cap, h1, fun i hi => by rw [Nat.zero_add]; exact h2 i hi⟩
theorem Read.len {w : World} {v : Value} {l : List Int} (h : Read w v l) : ∃ a c, v = .slice a l.length c := by
  rcases h with ⟨b, o, c, h1, _⟩ | ⟨oa, c, h1, h2⟩
  · exact ⟨_, _, h1⟩
  · exact ⟨oa, c, by rw [h1, h2]; rfl⟩
theorem Read.only {w w' : World} {v : Value} {l : List Int} {F : List Nat} (h : Read w v l) (ho : Only F w w') (hF : ∀ k, v.ownBlock = some k → k ∉ F) : Read w' v l := by
  rcases h with ⟨b, o, c, h1, h2⟩ | h1
  · exact .inl ⟨b, o, c, h1, fun i hi => ho.cell (h2 i hi) (hF b (by rw [h1]; rfl))⟩
  · exact .inr h1
end Go.Proofs.Ythflghdaejbdkaa
namespace Go.Proofs.Ythflghdaejbdkaa
open Go.RowKit
set_option maxHeartbeats 1600000
set_option maxRecDepth 100000
set_option linter.unusedVariables false
open Go.Maps Go.WideShapes in
section
theorem nodup_len {α : Type} : ∀ {l1 l2 : List α}, l1.Nodup → (∀ x ∈ l1, x ∈ l2) → l1.length ≤ l2.length ∧ (l2.length ≤ l1.length → ∀ x ∈ l2, x ∈ l1)
  | [], l2, _, _ => ⟨by simp, fun h x hx => by cases l2 with | nil => exact hx | cons a r => simp at h⟩
  | a :: r, l2, hn, hs => by
    obtain ⟨h1, h2⟩ := List.nodup_cons.1 hn
    obtain ⟨s, t, rfl⟩ := List.append_of_mem (hs a (by simp))
    have h3 : ∀ x ∈ r, x ∈ s ++ t := fun x hx => by
      have := hs x (List.mem_cons_of_mem _ hx)
      simp only [List.mem_append, List.mem_cons] at this ⊢
      rcases this with h | h | h
      · exact .inl h
      · subst h; exact absurd hx h1
      · exact .inr h
    obtain ⟨h4, h5⟩ := nodup_len h2 h3
    simp only [List.length_append, List.length_cons] at h4 h5 ⊢
    refine ⟨by omega, fun h x hx => ?_⟩
    by_cases e : x = a
    · rw [e]; simp
    · refine List.mem_cons_of_mem _ (h5 (by omega) x ?_)
      simp only [List.mem_append, List.mem_cons] at hx ⊢
      rcases hx with h | h | h
      · exact .inl h
      · exact absurd h e
      · exact .inr h
def keysD {H : Type} : DataW H → List Lit | .map es => es.map Prod.fst | _ => []
theorem keysD_len {H : Type} {D : DataW H} (c : Canon D) : (keysD D).length = Maps.size D := by obtain ⟨es, rfl, _⟩ := c; simp [keysD, Maps.size]
theorem keysD_nodup {H : Type} {D : DataW H} (c : Canon D) : (keysD D).Nodup := by
  obtain ⟨es, rfl, h, _⟩ := c
  exact List.pairwise_map.2 (apart_of_rising h)
theorem keysD_mem {H : Type} {D : DataW H} (c : Canon D) (k : Lit) : k ∈ keysD D ↔ Maps.has D k = true := by
  obtain ⟨es, rfl, _, h⟩ := c
  constructor
  · intro hk
    obtain ⟨p, hp, rfl⟩ := List.mem_map.1 hk
    exact List.any_eq_true.2 ⟨p, hp, WideAt.sameKey_self (h p hp)⟩
  · intro hk
    obtain ⟨p, hp, hs⟩ := List.any_eq_true.1 hk
    exact List.mem_map.2 ⟨p, hp, WideAt.sameKey_eq hs⟩
theorem ownsMap_key {H : Type} {R : Value → Option (DataW H × List MemPlace)} {w : World} {b n : Nat} {D : DataW H} (h : w.ownsMap Try.prog 3 R b n D) {k : Lit} (hk : Maps.has D k = true) : ∃ x, k = .int .i64 x ∧ (Lit.int .i64 x).wf = true := by
  obtain ⟨es, clock, _, F, _, rfl⟩ := h
  obtain ⟨p, hp, hpk⟩ := List.any_eq_true.1 hk
  obtain ⟨x, hx, rfl⟩ := List.mem_map.1 (mem_sorted.1 hp)
  obtain ⟨y, hy⟩ := F.reads x hx
  have h1 := WideAt.sameKey_eq hpk
  rw [WideElems.rg_of hy] at h1
  obtain ⟨z, _, e, hw⟩ := Maps.keyOf_int_inv Try.underlying3 (WideElems.rd_key hy)
  exact ⟨z, by rw [← h1, e], hw⟩
end
end Go.Proofs.Ythflghdaejbdkaa
