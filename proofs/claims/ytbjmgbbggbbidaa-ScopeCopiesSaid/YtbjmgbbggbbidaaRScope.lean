/- Contracts of the reference's memories: how they lie in memory; Users, Parent. -/
import Derived.Test.YtbjmgbbggbbidaaScopeN
namespace Go.Proofs.Ytbjmgbbggbbidaa
open Go.RowKit Go.Maps
set_option maxHeartbeats 1600000
set_option maxRecDepth 100000
set_option linter.unusedVariables false

/-- The labels of the reference's blocks: ro is never written. -/
inductive Rb where | mem | stk | obs | por | ro
  deriving DecidableEq
/-- An object's cell. -/
def Ob.fld (o : Ob) (v : Value) : Nat → Value | 0 => .int .i64 o.area | 1 => .int .i64 o.blocks | 2 => v | _ => .bool o.gone
/-- The objects' rows. -/
def ObAt (w : World) (L : Nat → Option Rb) (v : Value) (l : List Ob) (rv : Nat → Value) : Prop :=
  ((l = [] ∧ v = .slice none 0 0) ∨ ∃ g cap cs, v = .slice (some ⟨g, 0, none⟩) l.length cap ∧ Row w g 40 cs ∧ cs.length = cap * 4 ∧ l.length ≤ cap ∧ cap ≤ maxLen ∧ L g = some .obs ∧ ∀ j o, l[j]? = some o → ∀ r, r < 4 → cs[j * 4 + r]? = some (o.fld (rv j) r)) ∧
  ∀ j o, l[j]? = some o → Ints w 0 (rv j) o.refs ∧ ∀ g, (rv j).ownBlock = some g → L g = some .ro
structure RX where
  szv : Value
  sg : Nat
  sc : Nat
  sv : Nat → Value
  obv : Value
  rv : Nat → Value
  pg : Nat
  pc : Nat
structure RRep (w : World) (L : Nat → Option Rb) (q : Nat) (M : Sc) (X : RX) : Prop where
  lt : ∀ k, L k ≠ none → k < w.heap.size
  mem : ∃ T, Row w q T [X.szv, .slice (some ⟨X.sg, 0, none⟩) 5 X.sc, X.obv, .slice (some ⟨X.pg, 0, none⟩) (M.n + 2) X.pc]
  Lm : L q = some .mem
  sz : Ints w 0 X.szv M.sizes
  Ls : ∀ g, X.szv.ownBlock = some g → L g = some .ro
  sr : ∃ T cs, Row w X.sg T cs ∧ ∀ t, t < 5 → cs[t]? = some (X.sv t)
  Lsg : L X.sg = some .stk
  st : ∀ t, t < 5 → Ints w 0 (X.sv t) (M.stk t) ∧ ∀ g, (X.sv t).ownBlock = some g → L g = some .ro
  ob : ObAt w L X.obv M.obs X.rv
  pr : ∃ T cs, Row w X.pg T cs ∧ ∀ a, a < M.n + 2 → cs[a]? = some (.int .i64 (M.por a))
  Lpg : L X.pg = some .por
section
variable {w w' : World} {S : Nat → Prop} {L L' : Nat → Option Rb} {q : Nat} {M : Sc} {X : RX}
theorem ObAt.only {v : Value} {l : List Ob} {rv : Nat → Value} (h : ObAt w L v l rv) (hg : OnlyP S w w') (h1 : ∀ k, S k → L k ≠ some .obs ∧ L k ≠ some .ro) : ObAt w' L v l rv := by
  obtain ⟨ha, hb⟩ := h
  refine ⟨?_, fun j o hj => ⟨(hb j o hj).1.onlyP hg (fun g hgv x => (h1 g x).2 ((hb j o hj).2 g hgv)), (hb j o hj).2⟩⟩
  rcases ha with ha | ⟨g, cap, cs, e1, e2, e3⟩
  · exact .inl ha
  · exact .inr ⟨g, cap, cs, e1, hg.row e2 (fun x => (h1 g x).1 e3.2.2.2.1), e3⟩
theorem RRep.only (h : RRep w L q M X) (hg : OnlyP S w w') (hS : ∀ k, S k → L k = none) : RRep w' L q M X := by
  have hne : ∀ k ℓ, S k → L k ≠ some ℓ := fun k ℓ hk e => by rw [hS k hk] at e; cases e
  obtain ⟨T1, m1⟩ := h.mem
  obtain ⟨T2, c2, m2, n2⟩ := h.sr
  obtain ⟨T3, c3, m3, n3⟩ := h.pr
  exact ⟨fun k hk => Nat.lt_of_lt_of_le (h.lt k hk) hg.size, ⟨T1, hg.row m1 (fun x => hne _ _ x h.Lm)⟩, h.Lm, h.sz.onlyP hg (fun g hgv x => hne g _ x (h.Ls g hgv)), h.Ls, ⟨T2, c2, hg.row m2 (fun x => hne _ _ x h.Lsg), n2⟩, h.Lsg,
    fun t ht => ⟨(h.st t ht).1.onlyP hg (fun g hgv x => hne g _ x ((h.st t ht).2 g hgv)), (h.st t ht).2⟩, h.ob.only hg (fun k hk => ⟨hne k _ hk, hne k _ hk⟩), ⟨T3, c3, hg.row m3 (fun x => hne _ _ x h.Lpg), n3⟩, h.Lpg⟩
theorem RRep.only0 (h : RRep w L q M X) (hg : Only [] w w') : RRep w' L q M X := h.only (hg.toP0 (S := fun _ => False)) (fun _ x => x.elim)
theorem RRep.drewN (h : RRep w L q M X) (n : Nat) : RRep (w.drewN n) L q M X := h.only ((OnlyP.refl (fun _ => False) w).drewN n) (fun _ x => x.elim)
theorem rlab_of {ℓ : Rb} {g : Nat} (hL : ∀ k, L k ≠ none → L' k = L k) (h : L g = some ℓ) : L' g = some ℓ := by rw [hL g (by rw [h]; simp)]; exact h
theorem ObAt.lab {v : Value} {l : List Ob} {rv : Nat → Value} (h : ObAt w L v l rv) (hL : ∀ k, L k ≠ none → L' k = L k) : ObAt w L' v l rv := by
  obtain ⟨ha, hb⟩ := h
  refine ⟨?_, fun j o hj => ⟨(hb j o hj).1, fun g hg => rlab_of hL ((hb j o hj).2 g hg)⟩⟩
  rcases ha with ha | ⟨g, cap, cs, e1, e2, e3, e4, e5, e6, e7⟩
  · exact .inl ha
  · exact .inr ⟨g, cap, cs, e1, e2, e3, e4, e5, rlab_of hL e6, e7⟩
/-- The cells of the memory itself. -/
theorem RRep.cells (h : RRep w L q M X) : w.cell? ⟨q, 0, none⟩ = some X.szv ∧ w.cell? ⟨q, 1, none⟩ = some (.slice (some ⟨X.sg, 0, none⟩) 5 X.sc) ∧ w.cell? ⟨q, 2, none⟩ = some X.obv ∧ w.cell? ⟨q, 3, none⟩ = some (.slice (some ⟨X.pg, 0, none⟩) (M.n + 2) X.pc) := by
  obtain ⟨T, hr⟩ := h.mem
  exact ⟨hr.cell 0 rfl, hr.cell 1 rfl, hr.cell 2 rfl, hr.cell 3 rfl⟩
theorem RRep.szs (h : RRep w L q M X) : ∃ a c, X.szv = .slice a M.n c := h.sz.len
theorem ObAt.len {v : Value} {l : List Ob} {rv : Nat → Value} (h : ObAt w L v l rv) : ∃ a c, v = .slice a l.length c := by
  rcases h.1 with ⟨rfl, rfl⟩ | ⟨g, cap, cs, rfl, _⟩
  · exact ⟨_, _, rfl⟩
  · exact ⟨_, _, rfl⟩
/-- A stack. -/
theorem RRep.stk (h : RRep w L q M X) (hok : M.OkS) {t : Nat} (ht : t < 5) : ∃ g cap, X.sv t = .slice (some ⟨g, 0, none⟩) (M.stk t).length cap ∧ w.cell? ⟨X.sg, t, none⟩ = some (.slice (some ⟨g, 0, none⟩) (M.stk t).length cap) ∧ w.frozen? ⟨X.sg, t, none⟩ = false ∧ g < w.heap.size ∧ ∀ i, i < (M.stk t).length → w.cell? ⟨g, i, none⟩ = some (.int .i64 (gI (M.stk t) i)) := by
  obtain ⟨T, cs, hr, hc⟩ := h.sr
  have h1 := hr.cell t (hc t ht)
  rcases (h.st t ht).1.form with ⟨e1, e2⟩ | ⟨g, cap, e, _, hg, _, hcs⟩
  · have := (hok.s1 t ht).1; rw [e2] at this; simp at this
  · rw [e] at h1
    exact ⟨g, cap, e, h1, hr.free t, hg, hcs⟩
/-- An object, cell by cell. -/
theorem RRep.obj (h : RRep w L q M X) {j : Nat} (hj : j < M.obs.length) : ∃ g cap, X.obv = .slice (some ⟨g, 0, none⟩) M.obs.length cap ∧ L g = some .obs ∧ w.cell? ⟨g, j * 4, none⟩ = some (.int .i64 M.obs[j].area) ∧ w.cell? ⟨g, j * 4 + 1, none⟩ = some (.int .i64 M.obs[j].blocks) ∧
    w.cell? ⟨g, j * 4 + 2, none⟩ = some (X.rv j) ∧ w.cell? ⟨g, j * 4 + 3, none⟩ = some (.bool M.obs[j].gone) ∧ ∀ r, w.frozen? ⟨g, r, none⟩ = false := by
  rcases h.ob.1 with ⟨h1, _⟩ | ⟨g, cap, cs, e1, e2, _, _, _, e3, e4⟩
  · rw [h1] at hj; simp at hj
  · have hc := e4 j _ (List.getElem?_eq_getElem hj)
    exact ⟨g, cap, e1, e3, e2.cell _ (hc 0 (by omega)), e2.cell _ (hc 1 (by omega)), e2.cell _ (hc 2 (by omega)), e2.cell _ (hc 3 (by omega)), fun r => e2.free r⟩

/-! ## Small functions -/
theorem there_nil (w : World) : Calls Try.prog 62 #[.pointer none] w (Exact w (.bool false)) := by
  refine calls_abs fun R hR => ?_
  go_enter Try.func62, Try.ntmps62
  go_wp2_with fail
  exact hR.out _ _ ⟨rfl, rfl⟩
theorem there_rep (w : World) (h : RRep w L q M X) : Calls Try.prog 62 #[.pointer (some ⟨q, 0, none⟩)] w (Exact w (.bool true)) := by
  refine calls_abs fun R hR => ?_
  have h1 := h.cells.2.1
  clear h
  go_enter Try.func62, Try.ntmps62
  go_wp2_with fail
  exact hR.out _ _ ⟨rfl, rfl⟩
theorem risThread_nil (w : World) (t : Int) : Calls Try.prog 52 #[.pointer none, .int .i64 t] w (Exact w (.bool false)) := by
  refine calls_abs fun R hR => ?_
  go_enter Try.func52, Try.ntmps52
  go_wp2_with fail
  refine (there_nil _).mono ?_
  rintro e _ ⟨rfl, rfl⟩
  go_wp2_with fail
  exact hR.out _ _ ⟨rfl, rfl⟩
theorem risThread_rep (w : World) (h : RRep w L q M X) (t : Int) : Calls Try.prog 52 #[.pointer (some ⟨q, 0, none⟩), .int .i64 t] w (Exact w (.bool (isT t))) := by
  refine calls_abs fun R hR => ?_
  have H : Hid (isT t = decide (0 ≤ t ∧ t < 5)) := rfl
  have ht := there_rep w h
  clear h
  go_enter Try.func52, Try.ntmps52
  go_wp2_with fail
  refine ht.mono ?_
  rintro e _ ⟨rfl, rfl⟩
  clear ht
  go_wp2_with fail
  all_goals (refine hR.out _ _ ⟨?_, rfl⟩; have := H.out; clear H hR; rw [this]; simp_all <;> omega)
theorem risArea_nil (w : World) (a : Int) : Calls Try.prog 60 #[.pointer none, .int .i64 a] w (Exact w (.bool false)) := by
  refine calls_abs fun R hR => ?_
  go_enter Try.func60, Try.ntmps60
  go_wp2_with fail
  refine (there_nil _).mono ?_
  rintro e _ ⟨rfl, rfl⟩
  go_wp2_with fail
  exact hR.out _ _ ⟨rfl, rfl⟩
theorem risArea_rep (w : World) (h : RRep w L q M X) (hok : M.OkS) (a : Int) : Calls Try.prog 60 #[.pointer (some ⟨q, 0, none⟩), .int .i64 a] w (Exact w (.bool (M.isA a))) := by
  refine calls_abs fun R hR => ?_
  have ht := there_rep w h
  have c0 := h.cells.1
  obtain ⟨a0, cc, e⟩ := h.szs
  rw [e] at c0
  have hn : M.n ≤ 6 := hok.n6
  have H : Hid (M.isA a = decide (0 ≤ a ∧ a < (M.n : Int) + 2)) := rfl
  generalize M.n = n at *
  clear h hok e
  go_enter Try.func60, Try.ntmps60
  go_wp2_with fail
  refine ht.mono ?_
  rintro e _ ⟨rfl, rfl⟩
  clear ht
  go_wp2_with fail
  all_goals (refine hR.out _ _ ⟨?_, rfl⟩; have := H.out; clear H hR; rw [this]; simp_all <;> omega)

theorem under_step {l : List Int} {k n : Nat} (hk : k < n) (hn : n ≤ l.length) (h2 : ∀ j, k < j → j < n → gI l j < 2) (hx : 2 ≤ gI l k) : under (l.take n) = gI l k := by
  have e : ∀ j, j < n → (l.take n)[j]?.getD 0 = gI l j := fun j hj => by unfold gI; rw [List.getElem?_take, if_pos hj]
  have := under_some (l := l.take n) (k := k) (by rw [List.length_take]; omega) (by rw [e k hk]; exact hx) (fun j hj hj2 => by rw [List.length_take] at hj2; rw [e j (by omega)]; exact h2 j hj (by omega))
  rw [this, e k hk]
theorem under_all {l : List Int} {n : Nat} (hn : n ≤ l.length) (h2 : ∀ j, j < n → gI l j < 2) : under (l.take n) = 1 :=
  under_none (fun j hj => by
    rw [List.length_take] at hj
    rw [List.getElem?_take, if_pos (by omega)]
    exact h2 j (by omega))
theorem under_any (w : World) (g len cap n : Nat) (l : List Int) (hl : l.length = len) (h8 : len ≤ 8) (hn : n ≤ len) (hc : ∀ i, i < l.length → w.cell? ⟨g, i, none⟩ = some (.int .i64 (gI l i))) :
    Calls Try.prog 82 #[.slice (some ⟨g, 0, none⟩) len cap, .int .i64 n] w (Exact w (.int .i64 (under (l.take n)))) := by
  refine calls_abs fun R hR => ?_
  have HC := Lib.hid hc
  have HL := Lib.hid hl
  clear hc hl
  go_enter Try.func82, Try.ntmps82
  go_wp2_with fail
  go_loop [5] (fun iv => ∃ k : Nat, k ≤ n ∧ iv = .int .i64 ((k : Int) - 1) ∧ Hid (∀ j, k ≤ j → j < n → gI l j < 2)) (fun iv => (intOf iv + 1).toNat)
  case atStart => exact ⟨n, by omega, rfl, fun j h1 h2 => by omega⟩
  case round =>
    obtain ⟨k, hk, rfl, hf⟩ := hrel
    cases k with
    | zero =>
      have hu : Hid (under (l.take n) = 1) := under_all (by have := HL.out; omega) (fun j hj => hf.out j (by omega) hj)
      go_wp2_with fail
      exact hR.out _ _ ⟨by rw [hu.out] <;> rfl, rfl⟩
    | succ k =>
      have ek : ((k + 1 : Nat) : Int) - 1 = k := by omega
      rw [ek]
      have hcell := HC.out k (by have := HL.out; omega)
      obtain ⟨x, hx⟩ : ∃ x, x = gI l k := ⟨_, rfl⟩
      rw [← hx] at hcell
      have HX := Lib.hid hx
      clear hx
      by_cases h2 : 2 ≤ x
      · have hu : Hid (under (l.take n) = x) := by show _ = _; rw [HX.out]; exact under_step (by omega) (by have := HL.out; omega) (fun j h1 h3 => hf.out j (by omega) h3) (by rw [← HX.out]; exact h2)
        clear ek
        go_wp2_with fail
        exact hR.out _ _ ⟨by rw [hu.out] <;> rfl, rfl⟩
      · have h2' : x < 2 := by omega
        clear ek h2
        go_wp2_with fail
        go_round
        case rel => exact ⟨k, by omega, rfl, fun j h1 h3 => by
          by_cases e : j = k
          · rw [e, ← HX.out]; exact h2'
          · exact hf.out j (by omega) h3⟩
        case measure => simp only [intOf]; omega
end
end Go.Proofs.Ytbjmgbbggbbidaa
