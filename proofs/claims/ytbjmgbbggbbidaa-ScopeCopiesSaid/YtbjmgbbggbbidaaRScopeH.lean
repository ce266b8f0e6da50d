/- Contracts of the reference's memories: what a store turns; Enter. -/
import Derived.Test.YtbjmgbbggbbidaaRScopeG
import Derived.Deep.RegionHeld3
namespace Go.Proofs.Ytbjmgbbggbbidaa
open Go.RowKit Go.Maps
set_option maxHeartbeats 3200000
set_option maxRecDepth 100000
set_option linter.unusedVariables false
section
variable {w w' : World} {L L' : Nat → Option Rb} {q : Nat} {M : Sc} {X : RX}
def RDid (w : World) (L : Nat → Option Rb) (q : Nat) (r : Value) (M' : Sc) (e : Ending) (w' : World) : Prop :=
  e = .returned r ∧ ∃ L' X', RRep w' L' q M' X' ∧ (∀ k, L' k ≠ none → L k ≠ none ∨ w.heap.size ≤ k) ∧ OnlyP (fun k => L k ≠ none) w w'
theorem rdid_none {r : Value} (h : RRep w L q M X) (ho : Drew w w') : RDid w L q r M (.returned r) w' := by
  obtain ⟨n, rfl⟩ := ho
  exact ⟨rfl, L, X, h.drewN n, fun k hk => .inl hk, (OnlyP.refl _ _).drewN n⟩
/-- One more row that is only read. -/
def withRo (L : Nat → Option Rb) (v : Value) : Nat → Option Rb := fun k => if v.ownBlock = some k then some .ro else L k
theorem withRo_keep {v : Value} (hb : ∀ g, v.ownBlock = some g → L g = none) : ∀ k, L k ≠ none → withRo L v k = L k := fun k hk => by
  unfold withRo
  rw [if_neg (fun e => hk (hb k e))]
theorem withRo_own {v : Value} {g : Nat} (h : v.ownBlock = some g) : withRo L v g = some .ro := if_pos h
theorem withRo_new {v : Value} {k : Nat} (h : withRo L v k ≠ none) : L k ≠ none ∨ v.ownBlock = some k := by
  unfold withRo at h
  by_cases e : v.ownBlock = some k
  · exact .inr e
  · rw [if_neg e] at h; exact .inl h
/-- A stack is stored. -/
theorem RRep.setStk (h : RRep w L q M X) {t : Nat} (ht : t < 5) {v : Value} {l : List Int} (hi : Ints w 0 v l) (hb : ∀ g, v.ownBlock = some g → L g = none) :
    RRep (w.setCell ⟨X.sg, t, none⟩ v) (withRo L v) q { M with stk := upd M.stk t l } { X with sv := upd X.sv t v } := by
  have hL := withRo_keep hb
  have hO : OnlyP (fun k => L k = some .stk) w (w.setCell ⟨X.sg, t, none⟩ v) := (OnlyP.refl _ w).set (.inl h.Lsg) v
  have hne : ∀ k ℓ, ℓ ≠ Rb.stk → L k = some .stk → L k ≠ some ℓ := fun k ℓ h1 hk e => by rw [hk] at e; cases e; exact h1 rfl
  obtain ⟨T1, m1⟩ := h.mem
  obtain ⟨T2, c2, m2, n2⟩ := h.sr
  obtain ⟨T3, c3, m3, n3⟩ := h.pr
  have hvs : v.ownBlock ≠ some X.sg := fun e => by have := hb _ e; rw [h.Lsg] at this; cases this
  have hiv := hi.only ((Only.refl [X.sg] w).set (p := ⟨X.sg, t, none⟩) (by simp) v) (fun k hk => by simp; rintro rfl; exact hvs hk)
  refine ⟨fun k hk => ?_, ⟨T1, hO.row m1 (fun x => hne _ .mem (by simp) x h.Lm)⟩, rlab_of hL h.Lm, h.sz.onlyP hO (fun g hgv x => hne g .ro (by simp) x (h.Ls g hgv)), fun g hg => rlab_of hL (h.Ls g hg), ⟨T2, _, m2.set t v, fun s hs => ?_⟩, rlab_of hL h.Lsg, fun s hs => ?_,
    (h.ob.only hO (fun k hk => ⟨hne k .obs (by simp) hk, hne k .ro (by simp) hk⟩)).lab hL, ⟨T3, c3, hO.row m3 (fun x => hne _ .por (by simp) x h.Lpg), n3⟩, rlab_of hL h.Lpg⟩
  · have h1 : (w.setCell ⟨X.sg, t, none⟩ v).heap.size = w.heap.size := by simp [World.setCell]
    rw [h1]
    rcases withRo_new hk with e | e
    · exact h.lt k e
    · exact (hi.own k e).2
  · show (c2.set t v)[s]? = some (upd X.sv t v s)
    rw [List.getElem?_set]
    have hl : t < c2.length := (List.getElem?_eq_some_iff.1 (n2 t ht)).1
    by_cases e : t = s
    · subst e; rw [if_pos rfl, if_pos hl, upd_same]
    · rw [if_neg e, upd_other _ _ (Ne.symm e)]; exact n2 s hs
  · show Ints _ 0 (upd X.sv t v s) (upd M.stk t l s) ∧ ∀ g, (upd X.sv t v s).ownBlock = some g → withRo L v g = some .ro
    by_cases e : s = t
    · subst e
      rw [upd_same, upd_same]
      exact ⟨hiv, fun g hg => withRo_own hg⟩
    · rw [upd_other _ _ e, upd_other _ _ e]
      exact ⟨(h.st s hs).1.onlyP hO (fun g hgv x => hne g .ro (by simp) x ((h.st s hs).2 g hgv)), fun g hg => rlab_of hL ((h.st s hs).2 g hg)⟩
/-- A cell that may be written. -/
def HasSt (b o : Nat) (w : World) : Prop := (∃ v, w.cell? ⟨b, o, none⟩ = some v) ∧ w.frozen? ⟨b, o, none⟩ = false
theorem HasSt.alloc {b o : Nat} (h : HasSt b o w) (x : Obj) : HasSt b o (w.alloc x) := by
  obtain ⟨⟨v, h1⟩, h2⟩ := h
  have hlt := World.block_lt_of_cell? w _ h1
  exact ⟨⟨v, ((Only.refl [] w).alloc x).cell h1 (by simp)⟩, by rw [World.frozen?_alloc_past _ _ _ hlt]; exact h2⟩
theorem HasSt.set {b o : Nat} (h : HasSt b o w) (v : Value) : HasSt b o (w.setCell ⟨b, o, none⟩ v) := by
  obtain ⟨⟨u, h1⟩, h2⟩ := h
  exact ⟨⟨v, World.cell?_setCell_same _ _ _ h1⟩, by rw [World.frozen?_setCell]; exact h2⟩
/-- append to a slice of the call's own, as one step of a region. -/
theorem step_app {ops : Array Oper} {o : Oper} {ac : Act} {wl : World} {K : Act → World → Prop} {Q : Exit → Act → World → Prop} {E : Prop} (hgd : o.guard = none) (s x : Operand)
    (ho : o.op = .call { callee := .builtin .append, args := #[s, x], argTypes := #[22, 22] }) (w0 : World) (hO : Only [] w0 wl)
    (v : Value) (l : List Int) (hs : ac.eval s = v) (hown : Ints wl w0.heap.size v l) (ad : Addr) (m c : Nat) (news : List Int) (hx : ac.eval x = .slice (some ad) m c) (hl : news.length = m) (hnews : ∀ j u, news[j]? = some u → wl.cell? (ad.add j) = some (.int .i64 u)) (hm : 0 < m) (n : Nat) (hn : l.length + m = n) (hb : n ≤ 1000000)
    (h : ∀ g cap w', Ints w' w0.heap.size (.slice (some ⟨g, 0, none⟩) n cap) (l ++ news) → Only [] w0 w' → (∀ B u, v.ownBlock ≠ some B → wl.cell? ⟨B, 0, none⟩ = some u → w'.cell? ⟨B, 0, none⟩ = some u) → K (ac.put o.dst (.slice (some ⟨g, 0, none⟩) n cap)) w') :
    if Region.wanted o (yielded ops ac.tmps) = true then Oper.wp Try.prog o ac wl K Q else E := by
  obtain ⟨i0, hi0, hz0, hz1, hz2⟩ := info_parts infoInt
  subst hn
  refine step_append_lies _ hgd s x 22 ho w0.heap.size 3 i0 _ 1 8 Try.underlying22 hi0 hz0 hz1 hz2 rfl (by omega) v l.length (l.map (.int .i64)) hs hown ad m c (news.map (.int .i64)) hx (by simp [hl]) (fun j u hu => ?_) (fun u hu => ?_) hm (by simp only [maxLen]; omega) (by omega) hO.size wl.heap.size rfl ?_
  · simp only [List.getElem?_map, Option.map_eq_some_iff] at hu
    obtain ⟨y, hy, rfl⟩ := hu
    exact hnews j y hy
  · simp only [List.mem_map] at hu
    obtain ⟨y, _, rfl⟩ := hu
    rfl
  · intro g cap w' h1 h2 h3 h4
    refine h g cap w' ?_ (hO.grown h2 (fun k hk => .inr (hown.own k hk).1)) (fun B u hB hc => ?_)
    · unfold Ints
      rw [List.length_append, hl, List.map_append]
      exact h1
    · exact (h2.cell_far ⟨B, 0, none⟩ (World.block_lt_of_cell? wl _ hc) (fun e => hB e.symm)).trans hc
theorem only_a1 (w : World) (o : Obj) : Only [] w (w.alloc o).drew := ((Only.refl [] w).alloc o).drew
theorem only_a2 (w : World) (o o' : Obj) : Only [] w ((w.alloc o).alloc o').drew := (((Only.refl [] w).alloc o).alloc o').drew
theorem Only.cell0 {w0 wl : World} (h : Only [] w0 wl) {a : Addr} {v : Value} (hc : w0.cell? a = some v) : wl.cell? a = some v := h.cell hc (by simp)
theorem Only.frozen0 {w0 wl : World} (h : Only [] w0 wl) {a : Addr} {v : Value} (hc : w0.cell? a = some v) (hf : w0.frozen? a = false) : wl.frozen? a = false := by
  rw [World.frozen?_of_block (h.block a.block (World.block_lt_of_cell? w0 _ hc) (by simp))]
  exact hf
/-- The world with an empty row, and one with a row of one number: in both orders. -/
theorem has_of {w0 wl : World} (h : Only [] w0 wl) {b o : Nat} {v : Value} (hc : w0.cell? ⟨b, o, none⟩ = some v) (hf : w0.frozen? ⟨b, o, none⟩ = false) : HasSt b o wl := ⟨⟨v, h.cell0 hc⟩, h.frozen0 hc hf⟩
theorem one_second (w : World) (T1 T2 : TypeId) (a : Int) : ((w.alloc (.cells #[] T1)).alloc (.cells #[.int .i64 a] T2)).drew.cell? ⟨w.heap.size + 1, 0, none⟩ = some (.int .i64 a) := by
  have := (Row.new (w.alloc (.cells #[] T1)) T2 [.int .i64 a]).cell 0 rfl
  rw [World.size_alloc] at this
  exact this
theorem one_first (w : World) (T1 T2 : TypeId) (a : Int) : ((w.alloc (.cells #[.int .i64 a] T2)).alloc (.cells #[] T1)).drew.cell? ⟨w.heap.size, 0, none⟩ = some (.int .i64 a) :=
  ((Row.new w T2 [.int .i64 a]).alloc (.cells #[] T1)).cell 0 rfl
theorem own_succ (b : Nat) : (Value.slice (some ⟨b, 0, none⟩) 0 0).ownBlock ≠ some (b + 1) := by simp [Value.ownBlock]
theorem own_pred (b : Nat) : (Value.slice (some ⟨b + 1, 0, none⟩) 0 0).ownBlock ≠ some b := by simp [Value.ownBlock]
theorem made_first (w : World) (T2 : TypeId) (C : Array Value) : Ints (((w.alloc (.cells #[] 3)).alloc (.cells C T2)).drew) w.heap.size (.slice (some ⟨w.heap.size, 0, none⟩) 0 0) [] := (Ints.made w).alloc _
theorem made_alone (w : World) : Ints ((w.alloc (.cells #[] 3)).drew) w.heap.size (.slice (some ⟨w.heap.size, 0, none⟩) 0 0) [] := Ints.made w
theorem made_second (w : World) (T2 : TypeId) (C : Array Value) : Ints (((w.alloc (.cells C T2)).alloc (.cells #[] 3)).drew) w.heap.size (.slice (some ⟨w.heap.size + 1, 0, none⟩) 0 0) [] := by
  have := (Ints.made (w.alloc (.cells C T2))).base (b := w.heap.size) (by simp)
  rw [World.size_alloc] at this
  exact this
theorem news_of_one {w : World} {b : Nat} {a : Int} (h : w.cell? ⟨b, 0, none⟩ = some (.int .i64 a)) : ∀ j u, [a][j]? = some u → w.cell? ((⟨b, 0, none⟩ : Addr).add j) = some (.int .i64 u) := by
  intro j u hu
  cases j with
  | zero => simp at hu; subst hu; rw [addr_add]; exact h
  | succ j => simp at hu
theorem news_of_new (w : World) (T : TypeId) (a : Int) : ∀ j u, [a][j]? = some u → (w.alloc (.cells #[.int .i64 a] T)).cell? ((⟨w.heap.size, 0, none⟩ : Addr).add j) = some (.int .i64 u) :=
  news_of_one ((Row.new w T [.int .i64 a]).cell 0 rfl)
/-- A stack has been laid anew and is stored. -/
theorem stk_end {w2 : World} {v : Value} {l : List Int} {t : Nat} {r : Value} (H : RRep w L q M X) (ht : t < 5) (hs : Only [] w w2) (hi : Ints w2 w.heap.size v l) : RDid w L q r { M with stk := upd M.stk t l } (.returned r) (w2.setCell ⟨X.sg, t, none⟩ v) := by
  have h2 := (H.only0 hs).setStk (t := t) ht (hi.base (Nat.zero_le _)) (fun g hg => by
    cases e : L g with
    | none => rfl
    | some ℓ => have := H.lt g (by rw [e]; simp); have := (hi.own g hg).1; omega)
  exact ⟨rfl, _, _, h2, fun k hk => (withRo_new hk).imp id (fun e => (hi.own k e).1), (hs.toP0 (S := fun k => L k ≠ none)).set (.inl (by rw [H.Lsg]; simp)) v⟩
end
end Go.Proofs.Ytbjmgbbggbbidaa
