/- Slices of int that the call itself made: append, in the program's own numbers. -/
import Derived.Test.YtbjmgbbggbbidaaRows
import Derived.Test.YtbjmgbbggbbidaaLib
import Derived.Test.YtbjmgbbggbbidaaQModel
import Derived.Laws.AppendOwnNone
namespace Go.Proofs.Ytbjmgbbggbbidaa
open Go.RowKit

/-- The slice value v is one of the call's own (from block base on) and holds the numbers l. -/
def Ints (w : World) (base : Nat) (v : Value) (l : List Int) : Prop := w.ownsRow base 3 1 v l.length (l.map (Value.int .i64))

theorem infoInt : (Try.prog.info? 3).map (fun i => (i.zero, i.size, i.bytes)) = some (some (.int .i64 0), 1, 8) := by kernel_rfl

theorem Ints.nil (w : World) (base : Nat) : Ints w base (.slice none 0 0) [] := World.ownsRow_nil _ _ _ _
theorem Ints.drewN {w : World} {base : Nat} {v : Value} {l : List Int} (h : Ints w base v l) (n : Nat) : Ints (w.drewN n) base v l := h
theorem Ints.drew {w : World} {base : Nat} {v : Value} {l : List Int} (h : Ints w base v l) : Ints w.drew base v l := h
theorem Ints.alloc {w : World} {base : Nat} {v : Value} {l : List Int} (h : Ints w base v l) (o : Obj) : Ints (w.alloc o) base v l := World.ownsRow.alloc h o
theorem Ints.base {w : World} {base b : Nat} {v : Value} {l : List Int} (h : Ints w base v l) (hb : b ≤ base) : Ints w b v l := by
  refine ⟨h.1, ?_⟩
  rcases h.2 with h2 | ⟨g, cap, cur, hv, hg, r⟩
  · exact .inl h2
  · exact .inr ⟨g, cap, cur, hv, Nat.le_trans hb hg, r⟩
/-- The value's form. -/
theorem Ints.form {w : World} {base : Nat} {v : Value} {l : List Int} (h : Ints w base v l) :
    (v = .slice none 0 0 ∧ l = []) ∨ ∃ g cap, v = .slice (some ⟨g, 0, none⟩) l.length cap ∧ base ≤ g ∧ g < w.heap.size ∧ l.length ≤ cap ∧ (∀ i, i < l.length → w.cell? ⟨g, i, none⟩ = some (.int .i64 (gI l i))) := by
  rcases h.2 with ⟨h1, h2⟩ | ⟨g, cap, cur, hv, hg, hh, hc, hm, hs, ht⟩
  · exact .inl ⟨h1, List.eq_nil_of_length_eq_zero h2⟩
  · refine .inr ⟨g, cap, hv, hg, (Array.getElem?_eq_some_iff.1 hh).1, hc, fun i hi => ?_⟩
    have h3 := World.ownsRow.cells h (g := g) (by rw [hv]; rfl) i (.int .i64 (gI l i)) (by simp [hi, gI])
    rwa [show (⟨g, 0, none⟩ : Addr).add i = ⟨g, i, none⟩ by unfold Addr.add; split <;> simp_all] at h3
theorem Ints.len {w : World} {base : Nat} {v : Value} {l : List Int} (h : Ints w base v l) : ∃ a cap, v = .slice a l.length cap := by
  rcases h.form with ⟨h1, h2⟩ | ⟨g, cap, h1, _⟩
  · exact ⟨none, 0, by rw [h1, h2]; rfl⟩
  · exact ⟨_, cap, h1⟩
/-- The length of a slice value: for measures. -/
def sLen : Value → Nat | .slice _ n _ => n | _ => 0
theorem Ints.sLen {w : World} {base : Nat} {v : Value} {l : List Int} (h : Ints w base v l) : sLen v = l.length := by
  obtain ⟨a, cap, rfl⟩ := h.len
  rfl
theorem Ints.kept {w w' : World} {base : Nat} {v : Value} {l : List Int} {F : List Nat} (h : Ints w base v l) (hg : Only F w w') (hF : ∀ x ∈ F, x < base) : Ints w' base v l := by
  refine ⟨h.1, ?_⟩
  rcases h.2 with h2 | ⟨g, cap, cur, hv, hb, hh, r⟩
  · exact .inl h2
  · exact .inr ⟨g, cap, cur, hv, hb, by rw [hg.block g (Array.getElem?_eq_some_iff.1 hh).1 (fun hm => by have := hF g hm; omega)]; exact hh, r⟩
theorem Ints.only {w w' : World} {base : Nat} {v : Value} {l : List Int} {F : List Nat} (h : Ints w base v l) (hg : Only F w w') (hF : ∀ k, v.ownBlock = some k → k ∉ F) : Ints w' base v l := by
  refine ⟨h.1, ?_⟩
  rcases h.2 with h2 | ⟨g, cap, cur, hv, hb, hh, r⟩
  · exact .inl h2
  · exact .inr ⟨g, cap, cur, hv, hb, by rw [hg.block g (Array.getElem?_eq_some_iff.1 hh).1 (hF g (by rw [hv]; rfl))]; exact hh, r⟩
theorem Ints.own {w : World} {base : Nat} {v : Value} {l : List Int} (h : Ints w base v l) : ∀ k, v.ownBlock = some k → base ≤ k ∧ k < w.heap.size := World.ownsRow.lt h

/-- s[:n]. -/
theorem Ints.take {w : World} {base g m cap n : Nat} {l : List Int} (h : Ints w base (.slice (some ⟨g, 0, none⟩) m cap) l) (hn : n ≤ l.length) : Ints w base (.slice (some ⟨g, 0, none⟩) n cap) (l.take n) := by
  rcases h.2 with ⟨h1, _⟩ | ⟨g', cap', cur, hv, hg, hh, hc, hm, hs, ht⟩
  · simp at h1
  · simp only [Value.slice.injEq, Option.some.injEq, Addr.mk.injEq] at hv
    obtain ⟨⟨rfl, _⟩, _, rfl⟩ := hv
    have e : (l.take n).length = n := by rw [List.length_take]; omega
    refine ⟨by simp, .inr ⟨g, cap, cur, by rw [e], hg, hh, by omega, hm, hs, ?_⟩⟩
    rw [e, List.map_take, ← ht, List.take_take]
    congr 1
    omega

/-- append(s, x...) where s is the call's own: s or a new block holds both behind it. -/
theorem append_ints {w : World} {ops : Array Oper} {rest : List Oper} {o : Oper} {a : Act} {Q : Exit → Act → World → Prop} (hgd : o.guard = none) (s x : Operand)
    (ho : o.op = .call { callee := .builtin .append, args := #[s, x], argTypes := #[22, 22] })
    (base : Nat) (v : Value) (l : List Int) (hs : a.eval s = v) (hown : Ints w base v l)
    (ad : Addr) (m c : Nat) (news : List Int) (hx : a.eval x = .slice (some ad) m c) (hl : news.length = m) (hnews : ∀ j u, news[j]? = some u → w.cell? (ad.add j) = some (.int .i64 u))
    (hbytes : (l.length + m) * 8 ≤ 140737488355328) (hbase : base ≤ w.heap.size)
    (h : ∀ v' w', Ints w' base v' (l ++ news) → Only v.ownBlock.toList w w' → (v' = .slice none 0 0 ↔ v = .slice none 0 0 ∧ m = 0) → (v'.ownBlock = v.ownBlock ∨ v'.ownBlock = some w.heap.size) → wpList Try.prog ops Q rest (a.put o.dst v') w') : wpList Try.prog ops Q (o :: rest) a w := by
  obtain ⟨i0, hi, hz0, hz1, hz2⟩ := info_parts infoInt
  refine wpList_append_own2 hgd s x 22 ho base 3 i0 (.int .i64 0) 1 8 Try.underlying22 hi hz0 hz1 hz2 rfl (by decide) v l.length _ hs hown ad m c (news.map (Value.int .i64)) hx (by simp [hl])
    (fun j u hu => ?_) (fun u hu => ?_) (by simp only [maxLen]; omega) hbytes hbase (fun v' w' h1 h2 h3 h5 => h v' w' ?_ ?_ h3 h5)
  · simp only [List.getElem?_map, Option.map_eq_some_iff] at hu
    obtain ⟨y, hy, rfl⟩ := hu
    exact hnews j y hy
  · simp only [List.mem_map] at hu
    obtain ⟨y, _, rfl⟩ := hu
    rfl
  · unfold Ints
    rw [List.length_append, hl, List.map_append]
    exact h1
  · exact (Only.refl _ _).grown h2 (fun k hk => .inl (by rw [hk]; simp))

/-- append(s, nil...). -/
theorem append_ints_none {w : World} {ops : Array Oper} {rest : List Oper} {o : Oper} {a : Act} {Q : Exit → Act → World → Prop} (hgd : o.guard = none) (s x : Operand)
    (ho : o.op = .call { callee := .builtin .append, args := #[s, x], argTypes := #[22, 22] })
    (base : Nat) (v : Value) (l : List Int) (hs : a.eval s = v) (hown : Ints w base v l) (hx : a.eval x = .slice none 0 0)
    (h : wpList Try.prog ops Q rest (a.put o.dst v) w) : wpList Try.prog ops Q (o :: rest) a w := by
  obtain ⟨i0, hi, hz0, hz1, hz2⟩ := info_parts infoInt
  exact wpList_append_own_none hgd s x 22 ho base 3 i0 1 Try.underlying22 hi v l.length _ hs hown hx h

/-- append(s, x...) where x may be nil. -/
theorem append_intsO {w : World} {ops : Array Oper} {rest : List Oper} {o : Oper} {a : Act} {Q : Exit → Act → World → Prop} (hgd : o.guard = none) (s x : Operand)
    (ho : o.op = .call { callee := .builtin .append, args := #[s, x], argTypes := #[22, 22] })
    (base : Nat) (v : Value) (l : List Int) (hs : a.eval s = v) (hown : Ints w base v l)
    (oa : Option Addr) (m c : Nat) (news : List Int) (hx : a.eval x = .slice oa m c) (hoa : oa = none → m = 0 ∧ c = 0) (hl : news.length = m) (hnews : ∀ ad, oa = some ad → ∀ j u, news[j]? = some u → w.cell? (ad.add j) = some (.int .i64 u))
    (hbytes : (l.length + m) * 8 ≤ 140737488355328) (hbase : base ≤ w.heap.size)
    (h : ∀ v' w', Ints w' base v' (l ++ news) → Only v.ownBlock.toList w w' → (v'.ownBlock = v.ownBlock ∨ v'.ownBlock = some w.heap.size) → wpList Try.prog ops Q rest (a.put o.dst v') w') : wpList Try.prog ops Q (o :: rest) a w := by
  cases oa with
  | some ad => exact append_ints hgd s x ho base v l hs hown ad m c news hx hl (hnews ad rfl) hbytes hbase (fun v' w' h1 h2 _ h5 => h v' w' h1 h2 h5)
  | none =>
    obtain ⟨rfl, rfl⟩ := hoa rfl
    have : news = [] := List.eq_nil_of_length_eq_zero hl
    subst this
    obtain ⟨i0, hi, hz0, hz1, hz2⟩ := info_parts infoInt
    refine wpList_append_own_none hgd s x 22 ho base 3 i0 1 Try.underlying22 hi v l.length _ hs hown hx (h v w (by simpa using hown) (Only.refl _ _) (.inl rfl))

/-- append(s, x) of one number. -/
theorem append_int1 {w : World} {ops : Array Oper} {rest : List Oper} {o : Oper} {a : Act} {Q : Exit → Act → World → Prop} (hgd : o.guard = none) (s x : Operand)
    (ho : o.op = .call { callee := .builtin .append, args := #[s, x], argTypes := #[22, 22] })
    (base : Nat) (v : Value) (l : List Int) (hs : a.eval s = v) (hown : Ints w base v l)
    (b : Nat) (y : Int) (hx : a.eval x = .slice (some ⟨b, 0, none⟩) 1 1) (hnews : w.cell? ⟨b, 0, none⟩ = some (.int .i64 y))
    (hbytes : l.length + 1 ≤ 17592186044416) (hbase : base ≤ w.heap.size)
    (h : ∀ v' w', Ints w' base v' (l ++ [y]) → Only v.ownBlock.toList w w' → (v'.ownBlock = v.ownBlock ∨ v'.ownBlock = some w.heap.size) → wpList Try.prog ops Q rest (a.put o.dst v') w') : wpList Try.prog ops Q (o :: rest) a w := by
  refine append_ints hgd s x ho base v l hs hown ⟨b, 0, none⟩ 1 1 [y] hx rfl (fun j u hu => ?_) (by omega) hbase (fun v' w' h1 h2 _ h5 => h v' w' h1 h2 h5)
  cases j with
  | zero => simp at hu; subst hu; exact hnews
  | succ j => simp at hu

theorem made_ints (n : Nat) : (madeCells (Value.int .i64 0).cells (n * 1)).toList = List.replicate n (Value.int .i64 0) := by
  apply List.ext_getElem
  · simp [madeCells]
  · intro i h1 h2
    simp [madeCells, Value.cells, Nat.mod_one]

/-- make([]int, n). -/
theorem make_ints {w : World} {ops : Array Oper} {rest : List Oper} {o : Oper} {a : Act} {Q : Exit → Act → World → Prop} (hgd : o.guard = none) (x y : Operand)
    (ho : o.op = Op.makeSlice 22 x y) (kl kc : IntKind) (L C : Int) (n : Nat) (hl : a.eval x = .int kl L) (hc : a.eval y = .int kc C) (hL : L = (n : Int)) (hC : C = (n : Int)) (hn : n ≤ 17592186044416)
    (h : ∀ w', Row w' w.heap.size 3 (List.replicate n (.int .i64 0)) → Only [] w w' → wpList Try.prog ops Q rest (a.put o.dst (.slice (some ⟨w.heap.size, 0, none⟩) n n)) w') : wpList Try.prog ops Q (o :: rest) a w := by
  obtain ⟨i0, hi, hz0, hz1, hz2⟩ := info_parts infoInt
  refine wpList_make_full w hgd x y 22 ho w.heap.size 3 i0 (.int .i64 0) 1 Try.underlying22 hi hz0 hz1 kl kc L C n hl hc hL hC (by rw [hz2]; omega) (by simp only [maxLen]; omega) (Nat.le_refl _) (fun w' h1 h2 => h w' ?_ ?_)
  · rw [made_ints] at h1
    rcases h1.2 with ⟨h3, _⟩ | ⟨g, cap, cur, hv, hg, hh, hcc, hm, hs, ht⟩
    · simp at h3
    · simp only [Value.slice.injEq, Option.some.injEq, Addr.mk.injEq] at hv
      obtain ⟨⟨rfl, _⟩, _, rfl⟩ := hv
      unfold Row
      rw [hh]
      have e : cur.toList = List.replicate n (Value.int .i64 0) := by
        rw [← ht, List.take_of_length_le (by simp [hs])]
      rw [← e]
  · exact (Only.refl _ _).grown h2 (fun k hk => by simp at hk)

/-- slices.Clone of a slice that holds the numbers l. -/
theorem Ints.made (w : World) : Ints (w.alloc (.cells #[] 3)) w.heap.size (.slice (some ⟨w.heap.size, 0, none⟩) 0 0) [] :=
  World.ownsRow_made w #[] 0 (Nat.le_refl _) (by simp [maxLen]) rfl
set_option maxHeartbeats 400000 in
theorem clone_nil (w : World) : Calls Try.prog 50 #[.slice none 0 0] w (Exact w (.slice none 0 0)) := by
  have hn := fun (wx : World) => Lib.run_eql_slice_nil (P := Try.prog) wx 22 3 none 0 0 0 0 Try.underlying22
  refine calls_abs fun R hR => ?_
  go_enter Try.func50, Try.ntmps50
  go_wp2_with fail
  exact hR.out _ _ ⟨rfl, rfl⟩

set_option maxHeartbeats 400000 in
theorem clone_ints (w : World) (b n c : Nat) (l : List Int) (hl : l.length = n) (hn : n ≤ 17592186044416) (hc : ∀ i, i < n → w.cell? ⟨b, i, none⟩ = some (.int .i64 (gI l i))) :
    Calls Try.prog 50 #[.slice (some ⟨b, 0, none⟩) n c] w fun e w' => ∃ v, e = .returned v ∧ Ints w' w.heap.size v l ∧ Only [] w w' ∧ v ≠ .slice none 0 0 := by
  have hq := fun (wx : World) => Lib.run_eql_slice_nil (P := Try.prog) wx 22 3 (some ⟨b, 0, none⟩) n c 0 0 Try.underlying22
  have HL := Lib.hid hl
  have HC := Lib.hid hc
  clear hl hc
  refine calls_abs fun R hR => ?_
  go_enter Try.func50, Try.ntmps50
  go_wp2_with (at_builtin; refine append_ints rfl _ _ rfl w.heap.size _ _ rfl (Ints.made w) ⟨b, 0, none⟩ n c l rfl ?_ ?_ ?_ ?_ ?_)
  · exact HL.out
  · intro j u hu
    have hj : j < n := by have := (List.getElem?_eq_some_iff.1 hu).1; have := HL.out; omega
    have h1 := HC.out j hj
    rw [show (⟨b, 0, none⟩ : Addr).add j = ⟨b, j, none⟩ by unfold Addr.add; split <;> simp_all]
    rw [World.cell?_alloc_past _ _ _ (World.block_lt_of_cell? w _ h1), h1, gI, hu]
    rfl
  · simp; omega
  · simp
  · intro v w1 hv ho hn hblk
    have HN : Hid (v ≠ .slice none 0 0) := by intro e; simp [e] at hn
    clear hn
    go_wp2_with fail
    exact hR.out _ _ ⟨v, rfl, hv, ((Only.refl _ _).alloc _).trans ho (fun x hx => .inr (by simp [Value.ownBlock] at hx; omega)), HN.out⟩
end Go.Proofs.Ytbjmgbbggbbidaa
