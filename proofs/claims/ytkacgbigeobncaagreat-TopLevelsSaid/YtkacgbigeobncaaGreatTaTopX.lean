/- Lemmas of this claim. -/
import Derived.Test.YtkacgbigeobncaaGreatTaScopeN
import Derived.Test.YtkacgbigeobncaaGreatTaCdS
import Derived.Test.YtkacgbigeobncaaGreatTaSnM
import Derived.Test.YtkacgbigeobncaaGreatTaSModel
namespace Go.Proofs.YtkacgbigeobncaaGreat
open Go.RowKit Go.Maps
set_option maxHeartbeats 6400000
set_option maxRecDepth 100000
set_option linter.unusedVariables false
set_option linter.unusedSimpArgs false
theorem tyPr : TyZ 27 31 2 (.agg #[.int .i64 0, .int .i64 0]) 16 := ⟨Tryz.underlying27, by kernel_rfl, rfl, by decide⟩
def prow (x : Int × Nat) : List Value := [.int .i64 x.1, .int .i64 x.2]
theorem rowPr : RowZ prow 2 := ⟨fun _ => rfl, fun x u hu => by simp [prow] at hu; rcases hu with rfl | rfl <;> rfl⟩
structure SMt (w : World) (base p : Nat) (M : Sc) (v : Value) (l : List (Int × Nat)) : Prop where
  ex : ∃ L X, PRep w L p M.toP X ∧ (∀ k, L k ≠ none → base ≤ k) ∧ ∀ k, v.ownBlock = some k → L k = none
  ok : M.Ok
  own : Own 31 prow 2 w base v l
section
variable {w w' : World} {base p : Nat} {M M' : Sc} {v v' : Value} {l l' : List (Int × Nat)}
theorem Own.onlyP {α : Type} {row : α → List Value} {T z : Nat} {v : Value} {l : List α} {S : Nat → Prop} (h : Own T row z w base v l) (hg : OnlyP S w w') (hS : ∀ k, v.ownBlock = some k → ¬ S k) : Own T row z w' base v l := by
  refine ⟨h.1, ?_⟩
  rcases h.2 with h2 | ⟨g, cap, cur, hv, hb, hh, r⟩
  · exact .inl h2
  · exact .inr ⟨g, cap, cur, hv, hb, by rw [hg.block g (Array.getElem?_eq_some_iff.1 hh).1 (hS g (by rw [hv]; rfl))]; exact hh, r⟩
theorem SMt.only0 (h : SMt w base p M v l) (ho : Only [] w w') : SMt w' base p M v l := by
  obtain ⟨L, X, h1, h2, h3⟩ := h.ex
  exact ⟨⟨L, X, h1.only0 ho, h2, h3⟩, h.ok, h.own.only0 ho⟩
theorem SMt.step (h : SMt w base p M v l) (hbase : base ≤ w.heap.size) {F : FuncId} {args : Array Value} {r : Value} (hok : M'.Ok) (hc : ∀ L X, PRep w L p M.toP X → Calls Tryz.prog F args w (Did w L p r M'.toP)) :
    Calls Tryz.prog F args w (fun e w1 => e = .returned r ∧ SMt w1 base p M' v l ∧ OnlyP (fun k => base ≤ k) w w1) := by
  obtain ⟨L, X, h1, h2, h3⟩ := h.ex
  refine (hc L X h1).mono ?_
  rintro e w1 ⟨rfl, L', X', k1, k2, k3⟩
  have hlt := h.own.own
  refine ⟨rfl, ⟨⟨L', X', k1, fun k hk => (k2 k hk).elim (h2 k) (fun x => by omega), fun k hk => ?_⟩, hok, h.own.onlyP k3 (fun k hk hn => hn (h3 k hk))⟩, ⟨k3.os, k3.tape, k3.output, k3.size, fun k hk hn => k3.block k hk (fun x => hn (h2 k x))⟩⟩
  cases e : L' k with
  | none => rfl
  | some y =>
    rcases k2 k (by rw [e]; simp) with x | x
    · exact absurd (h3 k hk) x
    · have := (hlt k hk).2; omega
theorem SMt.grow (h : SMt w base p M v l) (hown : Own 31 prow 2 w' base v' l') (ho : Only v.ownBlock.toList w w') (hb : v'.ownBlock = v.ownBlock ∨ ∃ g, v'.ownBlock = some g ∧ w.heap.size ≤ g) : SMt w' base p M v' l' := by
  obtain ⟨L, X, h1, h2, h3⟩ := h.ex
  refine ⟨⟨L, X, h1.only (S := fun k => k ∈ v.ownBlock.toList) ⟨ho.os, ho.tape, ho.output, ho.size, ho.block⟩ (fun k hk => h3 k (by simpa using hk)), h2, fun k hk => ?_⟩, h.ok, hown⟩
  rcases hb with e | ⟨g, e, hg⟩
  · exact h3 k (by rw [← e]; exact hk)
  · rw [e] at hk
    simp only [Option.some.injEq] at hk
    subst hk
    cases e2 : L g with
    | none => rfl
    | some y => have := h1.lt g (by rw [e2]; simp); omega
structure S2 (w : World) (base p : Nat) (M : Sc) (v : Value) (l : List (Int × Nat)) (v2 : Value) (l2 : List (Int × Nat)) : Prop where
  ex : ∃ L X, PRep w L p M.toP X ∧ (∀ k, L k ≠ none → base ≤ k) ∧ (∀ k, v.ownBlock = some k → L k = none) ∧ ∀ k, v2.ownBlock = some k → L k = none
  ok : M.Ok
  own : Own 31 prow 2 w base v l
  own2 : Own 31 prow 2 w base v2 l2
  ne : ∀ k, v.ownBlock = some k → v2.ownBlock ≠ some k
theorem SMt.two (h : SMt w base p M v l) : S2 w base p M v l (.slice none 0 0) [] := by
  obtain ⟨L, X, h1, h2, h3⟩ := h.ex
  exact ⟨⟨L, X, h1, h2, h3, fun k hk => by simp [Value.ownBlock] at hk⟩, h.ok, h.own, Own.nil, fun k _ => by simp [Value.ownBlock]⟩
theorem S2.one (h : S2 w base p M v l v' l') : SMt w base p M v' l' := by
  obtain ⟨L, X, h1, h2, h3, h4⟩ := h.ex
  exact ⟨⟨L, X, h1, h2, h4⟩, h.ok, h.own2⟩
theorem S2.only0 {v2 : Value} {l2 : List (Int × Nat)} (h : S2 w base p M v l v2 l2) (ho : Only [] w w') : S2 w' base p M v l v2 l2 := by
  obtain ⟨L, X, h1, h2, h3, h4⟩ := h.ex
  exact ⟨⟨L, X, h1.only0 ho, h2, h3, h4⟩, h.ok, h.own.only0 ho, h.own2.only0 ho, h.ne⟩
theorem S2.grow {v2 v3 : Value} {l2 l3 : List (Int × Nat)} (h : S2 w base p M v l v2 l2) (hown : Own 31 prow 2 w' base v3 l3) (ho : Only v2.ownBlock.toList w w') (hb : v3.ownBlock = v2.ownBlock ∨ ∃ g, v3.ownBlock = some g ∧ w.heap.size ≤ g) : S2 w' base p M v l v3 l3 := by
  obtain ⟨L, X, h1, h2, h3, h4⟩ := h.ex
  have hlt := h.own.own
  refine ⟨⟨L, X, h1.only (S := fun k => k ∈ v2.ownBlock.toList) ⟨ho.os, ho.tape, ho.output, ho.size, ho.block⟩ (fun k hk => h4 k (by simpa using hk)), h2, h3, fun k hk => ?_⟩, h.ok, h.own.only ho (fun k hk hm => h.ne k hk (by simpa using hm)), hown, fun k hk hk3 => ?_⟩
  · rcases hb with e | ⟨g, e, hg⟩
    · exact h4 k (by rw [← e]; exact hk)
    · rw [e] at hk
      simp only [Option.some.injEq] at hk
      subst hk
      cases e2 : L g with
      | none => rfl
      | some y => have := h1.lt g (by rw [e2]; simp); omega
  · rcases hb with e | ⟨g, e, hg⟩
    · exact h.ne k hk (by rw [← e]; exact hk3)
    · rw [e] at hk3
      simp only [Option.some.injEq] at hk3
      subst hk3
      have := (hlt g hk).2
      omega
end
theorem Lv.up {n k : Nat} {M : Sc} {L : List (Int × Nat)} (h : Lv n k M L) : Lv n (k + 1) M L := ⟨h.ok, h.sz, h.st, h.n6, Nat.le_succ_of_le h.ln, h.ob⟩
theorem mod4 (a : Int) : (-4 < a.tmod 4 ∧ a.tmod 4 < 4) ∧ (0 ≤ (a.tmod 4 + 4).tmod 4 ∧ (a.tmod 4 + 4).tmod 4 < 4) := by
  have h1 := Int.tmod_lt_of_pos a (show (0 : Int) < 4 by decide)
  have h2 := Int.lt_tmod_of_pos a (show (0 : Int) < 4 by decide)
  refine ⟨⟨h2, h1⟩, Int.tmod_nonneg 4 (by omega), Int.tmod_lt_of_pos _ (by decide)⟩
end Go.Proofs.YtkacgbigeobncaaGreat
namespace Go.Proofs.YtkacgbigeobncaaGreat
open Go.RowKit Go.Maps
set_option maxHeartbeats 12800000
set_option maxRecDepth 100000
set_option linter.unusedVariables false
set_option linter.unusedSimpArgs false
def six : List Int := [24, 24, 24, 24, 24, 24]
theorem six_read (w : World) : Read (w.alloc (.cells #[.int .i64 24, .int .i64 24, .int .i64 24, .int .i64 24, .int .i64 24, .int .i64 24] 3)) (.slice (some ⟨w.heap.size, 0, none⟩) 6 6) six := by
  have h := Row.new w 3 [.int .i64 24, .int .i64 24, .int .i64 24, .int .i64 24, .int .i64 24, .int .i64 24]
  refine .inl ⟨w.heap.size, 0, 6, rfl, fun i hi => ?_⟩
  rw [Nat.zero_add]
  match i, hi with
  | 0, _ => exact h.cell 0 rfl
  | 1, _ => exact h.cell 1 rfl
  | 2, _ => exact h.cell 2 rfl
  | 3, _ => exact h.cell 3 rfl
  | 4, _ => exact h.cell 4 rfl
  | 5, _ => exact h.cell 5 rfl
def TL (w wr : World) (p : Nat) (n i : Nat) (M : Sc) (ov : Value) (L : List (Int × Nat)) : Prop := Lv n i M L ∧ SMt wr w.heap.size p M ov L ∧ Only [] w wr ∧ L.length ≤ i
theorem enter_any (w wr : World) (p n i : Nat) (M : Sc) (ov : Value) (L : List (Int × Nat)) (h : TL w wr p n i M ov L) (hn : n < 6) :
    Calls Tryz.prog 5 #[.pointer (some ⟨p, 0, none⟩), .int .i64 0, .int .i64 (2 + (n : Int))] wr fun e w' => e = .returned (.int .i64 0) ∧ ∃ M', TL w w' p (n + 1) (i + 1) M' ov L := by
  obtain ⟨h1, h2, h3, h4⟩ := h
  obtain ⟨e1, e2⟩ := h1.enter hn
  have hc := h2.step h3.size (M' := (M.enter 0 ((n : Int) + 2)).2) (r := .int .i64 0) (F := 5) (args := #[.pointer (some ⟨p, 0, none⟩), .int .i64 0, .int .i64 ((n : Int) + 2)]) (h1.ok.enter 0 _) (fun L X hp => by
    have := enter_rep wr hp h1.ok.toP 0 ((n : Int) + 2)
    rw [h1.ok.toP_enter, e1] at this
    exact this)
  rw [Int.add_comm (n : Int) 2] at hc e2
  exact hc.mono fun e w' ⟨a, b, c⟩ => ⟨a, _, e2.up, b, ⟨c.os.trans h3.os, c.tape.trans h3.tape, c.output.trans h3.output, Nat.le_trans h3.size c.size, fun k hk _ => by rw [c.block k (Nat.lt_of_lt_of_le hk h3.size) (by omega)]; exact h3.block k hk (by simp)⟩, by omega⟩
theorem leave_any (w wr : World) (p n i : Nat) (M : Sc) (ov : Value) (L : List (Int × Nat)) (h : TL w wr p (n + 1) i M ov L) :
    Calls Tryz.prog 6 #[.pointer (some ⟨p, 0, none⟩), .int .i64 0] wr fun e w' => ∃ r, e = .returned (.tuple #[.int .i64 r, .int .i64 0]) ∧ ∃ M', Lv n i M' (L.filter (fun p => decide (p.2 ≤ n))) ∧ SMt w' w.heap.size p M' ov L ∧ Only [] w w' := by
  obtain ⟨h1, h2, h3, h4⟩ := h
  obtain ⟨e1, e2⟩ := h1.leave
  have hc := h2.step h3.size (M' := (M.leave 0).2.2) (r := .tuple #[.int .i64 (M.leave 0).1, .int .i64 0]) (F := 6) (args := #[.pointer (some ⟨p, 0, none⟩), .int .i64 0]) (h1.ok.leave 0) (fun L X hp => by
    have := leave_rep wr hp h1.ok.toP 0
    rw [h1.ok.toP_leave] at this
    unfold DidN at this
    rw [e1] at this
    exact this)
  exact hc.mono fun e w' ⟨a, b, c⟩ => ⟨_, a, _, e2, b, ⟨c.os.trans h3.os, c.tape.trans h3.tape, c.output.trans h3.output, Nat.le_trans h3.size c.size, fun k hk _ => by rw [c.block k (Nat.lt_of_lt_of_le hk h3.size) (by omega)]; exact h3.block k hk (by simp)⟩⟩
theorem alloc_any (w wr : World) (p n i : Nat) (M : Sc) (ov : Value) (L : List (Int × Nat)) (h : TL w wr p n i M ov L) (hi : i < 500) :
    Calls Tryz.prog 7 #[.pointer (some ⟨p, 0, none⟩), .int .i64 0, .int .i64 1] wr fun e w' => ∃ (r er : Int) (M' : Sc), e = .returned (.tuple #[.int .i64 r, .int .i64 er]) ∧ SMt w' w.heap.size p M' ov L ∧ Only [] w w' ∧
      ((er = 0 ∧ Lv n (i + 1) M' (L ++ [(r, n)])) ∨ (er = 14 ∧ 0 < n ∧ Lv n (i + 1) M' L)) := by
  obtain ⟨h1, h2, h3, h4⟩ := h
  have hc := h2.step h3.size (M' := (M.alloc 0 1).2.2) (r := .tuple #[.int .i64 (M.alloc 0 1).1, .int .i64 (M.alloc 0 1).2.1]) (F := 7) (args := #[.pointer (some ⟨p, 0, none⟩), .int .i64 0, .int .i64 1]) (h1.ok.alloc 0 1) (fun L X hp => by
    have := alloc_rep wr hp h1.ok.toP 0 1
    rw [h1.ok.toP_alloc] at this
    exact this)
  refine hc.mono fun e w' ⟨a, b, c⟩ => ⟨_, _, _, a, b, ⟨c.os.trans h3.os, c.tape.trans h3.tape, c.output.trans h3.output, Nat.le_trans h3.size c.size, fun k hk _ => by rw [c.block k (Nat.lt_of_lt_of_le hk h3.size) (by omega)]; exact h3.block k hk (by simp)⟩, ?_⟩
  rcases h1.alloc hi with ⟨x, y⟩ | ⟨x, y, z⟩
  · exact .inl ⟨x, y⟩
  · exact .inr ⟨x, y, by rw [z]; exact h1.up⟩
theorem may_any (w wr : World) (p n i : Nat) (M : Sc) (ov : Value) (L : List (Int × Nat)) (h : TL w wr p n i M ov L) (hi : i ≤ 80) {x y : Int × Nat} (hx : x ∈ L) (hy : y ∈ L) :
    Calls Tryz.prog 8 #[.pointer (some ⟨p, 0, none⟩), .int .i64 x.1, .int .i64 y.1] wr (TwoB wr (decide (y.2 ≤ x.2), 0)) := by
  obtain ⟨h1, h2, h3, h4⟩ := h
  obtain ⟨L', X, hp, -, -⟩ := h2.ex
  have hw : ∀ z ∈ L, wfI z.1 := fun z hz => by
    have a := (h1.ob z hz).1
    have b : 1 ≤ z.1 ∧ z.1 ≤ M.obs.length := by
      unfold Sc.inn innL at a
      simp at a
      omega
    have := h1.ln
    exact wfI_mk (by omega)
  have := may_rep wr hp h1.ok.toP x.1 y.1 (hw x hx) (hw y hy)
  rw [h1.ok.toP_may, h1.may hx hy] at this
  exact this
theorem stack_any (w wr : World) (p n i : Nat) (M : Sc) (ov : Value) (L : List (Int × Nat)) (h : TL w wr p n i M ov L) :
    Calls Tryz.prog 9 #[.pointer (some ⟨p, 0, none⟩), .int .i64 0] wr (TwoL wr (stkL n, 0)) := by
  obtain ⟨h1, h2, h3, h4⟩ := h
  obtain ⟨L', X, hp, -, -⟩ := h2.ex
  have := stack_rep wr hp h1.ok.toP 0
  rw [Sc.toP_stack, h1.stack] at this
  exact this
theorem TL.up {w wr : World} {p n i : Nat} {M : Sc} {ov : Value} {L : List (Int × Nat)} (h : TL w wr p n i M ov L) : TL w wr p n (i + 1) M ov L := ⟨h.1.up, h.2.1, h.2.2.1, Nat.le_succ_of_le h.2.2.2⟩
theorem TL.only0 {w wr wq : World} {p n i : Nat} {M : Sc} {ov : Value} {L : List (Int × Nat)} (h : TL w wr p n i M ov L) (ho : Only [] wr wq) : TL w wq p n i M ov L := ⟨h.1, h.2.1.only0 ho, h.2.2.1.trans ho (by simp), h.2.2.2⟩
theorem Own.pair {w : World} {base : Nat} {v : Value} {l : List (Int × Nat)} (h : Own 31 prow 2 w base v l) {k : Nat} (hk : k < l.length) : ∃ g cap, v = .slice (some ⟨g, 0, none⟩) l.length cap ∧ w.cell? ⟨g, k * 2, none⟩ = some (.int .i64 (l.getD k default).1) ∧ w.cell? ⟨g, k * 2 + 1, none⟩ = some (.int .i64 ((l.getD k default).2 : Nat)) := by
  rcases h.form rowPr with ⟨_, e⟩ | ⟨g, cap, e, _, _, _, _, _, hc⟩
  · subst e; simp at hk
  · have hx : l[k]? = some (l.getD k default) := by rw [List.getD_eq_getElem?_getD, List.getElem?_eq_getElem hk]; rfl
    exact ⟨g, cap, e, hc k _ hx 0 _ rfl, hc k _ hx 1 _ rfl⟩
end Go.Proofs.YtkacgbigeobncaaGreat
