/- Lemmas of this claim. -/
import Derived.Test.YthflghdaejbdkaaGreatVRObjQ
import Derived.Deep.Upon
namespace Go.Proofs.YthflghdaejbdkaaGreat
open Go.RowKit Go.Maps
set_option maxHeartbeats 3200000
set_option maxRecDepth 100000
set_option linter.unusedVariables false
section
variable {w w' : World}
def HasSt (b o : Nat) (w : World) : Prop := (∃ v, w.cell? ⟨b, o, none⟩ = some v) ∧ w.frozen? ⟨b, o, none⟩ = false
theorem HasSt.alloc {b o : Nat} (h : HasSt b o w) (x : Obj) : HasSt b o (w.alloc x) := by
  obtain ⟨⟨v, h1⟩, h2⟩ := h
  have hlt := World.block_lt_of_cell? w _ h1
  exact ⟨⟨v, ((Only.refl [] w).alloc x).cell h1 (by simp)⟩, by rw [World.frozen?_alloc_past _ _ _ hlt]; exact h2⟩
theorem HasSt.set {b o : Nat} (h : HasSt b o w) (v : Value) : HasSt b o (w.setCell ⟨b, o, none⟩ v) := by
  obtain ⟨⟨u, h1⟩, h2⟩ := h
  exact ⟨⟨v, World.cell?_setCell_same _ _ _ h1⟩, by rw [World.frozen?_setCell]; exact h2⟩
theorem step_app {ops : Array Oper} {o : Oper} {ac : Act} {wl : World} {K : Act → World → Prop} {Q : Exit → Act → World → Prop} {E : Prop} (hgd : o.guard = none) (s x : Operand)
    (ho : o.op = .call { callee := .builtin .append, args := #[s, x], argTypes := #[23, 23] }) (w0 : World) (hO : Only [] w0 wl)
    (v : Value) (l : List Int) (hs : ac.eval s = v) (hown : Ints wl w0.heap.size v l) (ad : Addr) (m c : Nat) (news : List Int) (hx : ac.eval x = .slice (some ad) m c) (hl : news.length = m) (hnews : ∀ j u, news[j]? = some u → wl.cell? (ad.add j) = some (.int .i64 u)) (hm : 0 < m) (n : Nat) (hn : l.length + m = n) (hb : n ≤ 1000000)
    (h : ∀ g cap w', Ints w' w0.heap.size (.slice (some ⟨g, 0, none⟩) n cap) (l ++ news) → Only [] w0 w' → (∀ B u, v.ownBlock ≠ some B → wl.cell? ⟨B, 0, none⟩ = some u → w'.cell? ⟨B, 0, none⟩ = some u) → K (ac.put o.dst (.slice (some ⟨g, 0, none⟩) n cap)) w') :
    if Region.wanted o (yielded ops ac.tmps) = true then Oper.wp Tryz.prog o ac wl K Q else E := by
  obtain ⟨i0, hi0, hz0, hz1, hz2⟩ := info_parts infoInt
  subst hn
  refine step_append_lies _ hgd s x 23 ho w0.heap.size 3 i0 _ 1 8 Tryz.underlying23 hi0 hz0 hz1 hz2 rfl (by omega) v l.length (l.map (.int .i64)) hs hown ad m c (news.map (.int .i64)) hx (by simp [hl]) (fun j u hu => ?_) (fun u hu => ?_) hm (by simp only [maxLen]; omega) (by omega) hO.size wl.heap.size rfl ?_
  · simp only [List.getElem?_map, Option.map_eq_some_iff] at hu
    obtain ⟨y, hy, rfl⟩ := hu
    exact hnews j y hy
  · simp only [List.mem_map] at hu
    obtain ⟨y, _, rfl⟩ := hu
    rfl
  · intro g cap w' h1 h2 h3 h4
    refine h g cap w' ?_ (hO.grown h2 (fun k hk => .inr (hown.own k hk).1)) (fun B u hB hc => ?_)
    · unfold Ints
      rw [List.length_append, hl, List.map_append]
      exact h1
    · exact (h2.cell_far ⟨B, 0, none⟩ (World.block_lt_of_cell? wl _ hc) (fun e => hB e.symm)).trans hc
theorem only_a1 (w : World) (o : Obj) : Only [] w (w.alloc o).drew := ((Only.refl [] w).alloc o).drew
theorem only_a2 (w : World) (o o' : Obj) : Only [] w ((w.alloc o).alloc o').drew := (((Only.refl [] w).alloc o).alloc o').drew
theorem Only.cell0 {w0 wl : World} (h : Only [] w0 wl) {a : Addr} {v : Value} (hc : w0.cell? a = some v) : wl.cell? a = some v := h.cell hc (by simp)
theorem Only.frozen0 {w0 wl : World} (h : Only [] w0 wl) {a : Addr} {v : Value} (hc : w0.cell? a = some v) (hf : w0.frozen? a = false) : wl.frozen? a = false := by
  rw [World.frozen?_of_block (h.block a.block (World.block_lt_of_cell? w0 _ hc) (by simp))]
  exact hf
theorem has_of {w0 wl : World} (h : Only [] w0 wl) {b o : Nat} {v : Value} (hc : w0.cell? ⟨b, o, none⟩ = some v) (hf : w0.frozen? ⟨b, o, none⟩ = false) : HasSt b o wl := ⟨⟨v, h.cell0 hc⟩, h.frozen0 hc hf⟩
theorem one_second (w : World) (T1 T2 : TypeId) (a : Int) : ((w.alloc (.cells #[] T1)).alloc (.cells #[.int .i64 a] T2)).drew.cell? ⟨w.heap.size + 1, 0, none⟩ = some (.int .i64 a) := by
  have := (Row.new (w.alloc (.cells #[] T1)) T2 [.int .i64 a]).cell 0 rfl
  rw [World.size_alloc] at this
  exact this
theorem one_first (w : World) (T1 T2 : TypeId) (a : Int) : ((w.alloc (.cells #[.int .i64 a] T2)).alloc (.cells #[] T1)).drew.cell? ⟨w.heap.size, 0, none⟩ = some (.int .i64 a) :=
  ((Row.new w T2 [.int .i64 a]).alloc (.cells #[] T1)).cell 0 rfl
theorem own_succ (b : Nat) : (Value.slice (some ⟨b, 0, none⟩) 0 0).ownBlock ≠ some (b + 1) := by simp [Value.ownBlock]
theorem own_pred (b : Nat) : (Value.slice (some ⟨b + 1, 0, none⟩) 0 0).ownBlock ≠ some b := by simp [Value.ownBlock]
theorem made_first (w : World) (T2 : TypeId) (C : Array Value) : Ints (((w.alloc (.cells #[] 3)).alloc (.cells C T2)).drew) w.heap.size (.slice (some ⟨w.heap.size, 0, none⟩) 0 0) [] := (Ints.made w).alloc _
theorem made_alone (w : World) : Ints ((w.alloc (.cells #[] 3)).drew) w.heap.size (.slice (some ⟨w.heap.size, 0, none⟩) 0 0) [] := Ints.made w
theorem made_second (w : World) (T2 : TypeId) (C : Array Value) : Ints (((w.alloc (.cells C T2)).alloc (.cells #[] 3)).drew) w.heap.size (.slice (some ⟨w.heap.size + 1, 0, none⟩) 0 0) [] := by
  have := (Ints.made (w.alloc (.cells C T2))).base (b := w.heap.size) (by simp)
  rw [World.size_alloc] at this
  exact this
theorem news_of_one {w : World} {b : Nat} {a : Int} (h : w.cell? ⟨b, 0, none⟩ = some (.int .i64 a)) : ∀ j u, [a][j]? = some u → w.cell? ((⟨b, 0, none⟩ : Addr).add j) = some (.int .i64 u) := by
  intro j u hu
  cases j with
  | zero => simp at hu; subst hu; rw [addr_add]; exact h
  | succ j => simp at hu
theorem news_of_new (w : World) (T : TypeId) (a : Int) : ∀ j u, [a][j]? = some u → (w.alloc (.cells #[.int .i64 a] T)).cell? ((⟨w.heap.size, 0, none⟩ : Addr).add j) = some (.int .i64 u) :=
  news_of_one ((Row.new w T [.int .i64 a]).cell 0 rfl)
theorem step_app0 {ops : Array Oper} {o : Oper} {ac : Act} {wl : World} {K : Act → World → Prop} {Q : Exit → Act → World → Prop} {E : Prop} (hgd : o.guard = none) (s x : Operand)
    (ho : o.op = .call { callee := .builtin .append, args := #[s, x], argTypes := #[23, 23] }) (b : Option Addr) (n c : Nat) (hn : n ≤ c) (va : Option Addr) (vc : Nat) (hs : ac.eval s = .slice b n c) (hx : ac.eval x = .slice va 0 vc) (h : K (ac.put o.dst (.slice b n c)) wl) :
    if Region.wanted o (yielded ops ac.tmps) = true then Oper.wp Tryz.prog o ac wl K Q else E := by
  have hw : Region.wanted o (yielded ops ac.tmps) = true := by simp [Region.wanted, hgd]
  rw [if_pos hw]
  obtain ⟨i0, hi0, hz0, hz1, hz2⟩ := info_parts infoInt
  have hsrc : Src Tryz.prog i0.size 23 (.slice va 0 vc) 0 [] wl := by
    cases va with
    | none => exact Src.ofNil wl Tryz.underlying23 vc
    | some a => exact Src.ofSlice wl Tryz.underlying23 a 0 vc [] (by simp) (fun j u hu => by simp at hu) (fun u hu => by simp at hu)
  have hr := run_append_nothing (P := Tryz.prog) wl 23 23 o.type 3 i0 Tryz.underlying23 hi0 b n c hn (.slice va 0 vc) hsrc
  unfold Oper.wp execOp
  simp only [ho, resolve, invoke, builtin, Sem.run_bind, Sem.run_pure, Result.andThen_ok, List.map_toArray, List.map_cons, List.map_nil, hs, hx, hr]
  exact h
theorem step_cp {ops : Array Oper} {o : Oper} {ac : Act} {wl : World} {K : Act → World → Prop} {Q : Exit → Act → World → Prop} {E : Prop} (hgd : o.guard = none) (s x : Operand)
    (ho : o.op = .call { callee := .builtin .append, args := #[s, x], argTypes := #[23, 23] }) (w0 : World) (hO : Only [] w0 wl) (b : Nat) (hs : ac.eval s = .slice (some ⟨b, 0, none⟩) 0 0) (hown : Ints wl w0.heap.size (.slice (some ⟨b, 0, none⟩) 0 0) [])
    (va : Option Addr) (n vc : Nat) (l : List Int) (hx : ac.eval x = .slice va n vc) (hl : n = l.length) (hr : Read w0 (.slice va n vc) l) (hb : n ≤ 1000000)
    (h : ∀ g cap w', Ints w' w0.heap.size (.slice (some ⟨g, 0, none⟩) n cap) l → Only [] w0 w' → (∀ B u, (Value.slice (some ⟨b, 0, none⟩) 0 0).ownBlock ≠ some B → wl.cell? ⟨B, 0, none⟩ = some u → w'.cell? ⟨B, 0, none⟩ = some u) → K (ac.put o.dst (.slice (some ⟨g, 0, none⟩) n cap)) w') :
    if Region.wanted o (yielded ops ac.tmps) = true then Oper.wp Tryz.prog o ac wl K Q else E := by
  by_cases h0 : n = 0
  · subst h0
    have hnil : l = [] := List.eq_nil_of_length_eq_zero hl.symm
    subst hnil
    exact step_app0 hgd s x ho (some ⟨b, 0, none⟩) 0 0 (Nat.le_refl _) va vc hs hx (h b 0 wl hown hO (fun _ _ _ hc => hc))
  · rcases hr with ⟨rb, ro, rc, e1, e2⟩ | ⟨oa, rc, e1, e2⟩
    · simp only [Value.slice.injEq] at e1
      obtain ⟨rfl, _, rfl⟩ := e1
      exact step_app hgd s x ho w0 hO _ [] hs hown ⟨rb, ro, none⟩ n vc l hx hl.symm (fun j u hu => by
        have hj := (List.getElem?_eq_some_iff.1 hu).1
        have := e2 j hj
        rw [gI, hu] at this
        rw [addr_add]
        exact hO.cell this (by simp)) (by omega) n (by simp) hb (fun g cap w' h1 h2 h3 => h g cap w' (by simpa using h1) h2 h3)
    · exact absurd (by rw [hl, e2]; rfl) h0
end
end Go.Proofs.YthflghdaejbdkaaGreat
