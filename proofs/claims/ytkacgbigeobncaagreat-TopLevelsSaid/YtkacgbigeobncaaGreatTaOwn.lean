/- Lemmas of this claim. -/
import Derived.Test.YtkacgbigeobncaaGreatTaLkK
namespace Go.Proofs.YtkacgbigeobncaaGreat
open Go.RowKit Go.Maps
set_option maxHeartbeats 3200000
set_option maxRecDepth 100000
set_option linter.unusedVariables false
set_option linter.unusedSimpArgs false
section
variable {α : Type} {row : α → List Value} {T z : Nat} {w w' : World} {base : Nat} {v : Value} {l : List α}
structure RowZ (row : α → List Value) (z : Nat) : Prop where
  len : ∀ x, (row x).length = z
  one : ∀ x u, u ∈ row x → u.oneCell' = true
theorem flat_len (hz : ∀ x, (row x).length = z) : ∀ l : List α, (l.flatMap row).length = l.length * z
  | [] => by simp
  | x :: r => by rw [List.flatMap_cons, List.length_append, flat_len hz r, hz x, List.length_cons, Nat.add_mul]; omega
theorem flat_at (hz : ∀ x, (row x).length = z) : ∀ (l : List α) (i : Nat) (x : α), l[i]? = some x → ∀ r, r < z → (l.flatMap row)[i * z + r]? = (row x)[r]?
  | y :: t, 0, x, h, r, hr => by
    simp at h
    subst h
    rw [List.flatMap_cons, Nat.zero_mul, Nat.zero_add, List.getElem?_append_left (by rw [hz]; exact hr)]
  | y :: t, i + 1, x, h, r, hr => by
    have h1 := flat_at hz t i x (by simpa using h) r hr
    rw [List.flatMap_cons, List.getElem?_append_right (by rw [hz]; rw [Nat.add_mul]; omega), hz, ← h1]
    congr 1
    rw [Nat.add_mul]
    omega
theorem flat_inv (hz : ∀ x, (row x).length = z) (h0 : 0 < z) {l : List α} {j : Nat} {u : Value} (h : (l.flatMap row)[j]? = some u) : ∃ i x r, l[i]? = some x ∧ r < z ∧ j = i * z + r ∧ (row x)[r]? = some u := by
  have hj : j < l.length * z := by have := (List.getElem?_eq_some_iff.1 h).1; rwa [flat_len hz] at this
  have hi : j / z < l.length := Nat.div_lt_of_lt_mul (by rwa [Nat.mul_comm])
  have hr : j % z < z := Nat.mod_lt _ h0
  have e : j = j / z * z + j % z := by rw [Nat.mul_comm]; exact (Nat.div_add_mod j z).symm
  refine ⟨j / z, l[j / z], j % z, List.getElem?_eq_getElem hi, hr, e, ?_⟩
  rw [← flat_at hz l (j / z) _ (List.getElem?_eq_getElem hi) (j % z) hr, ← e, h]
theorem flat_take (hz : ∀ x, (row x).length = z) : ∀ (l : List α) (n : Nat), (l.take n).flatMap row = (l.flatMap row).take (n * z)
  | [], n => by simp
  | x :: r, 0 => by simp
  | x :: r, n + 1 => by
    have e : (n + 1) * z = (row x).length + n * z := by rw [hz, Nat.add_mul]; omega
    rw [List.take_succ_cons, List.flatMap_cons, List.flatMap_cons, flat_take hz r n, e, List.take_length_add_append]
def Own (T : Nat) (row : α → List Value) (z : Nat) (w : World) (base : Nat) (v : Value) (l : List α) : Prop := w.ownsRow base T z v l.length (l.flatMap row)
theorem Own.nil : Own T row z w base (.slice none 0 0) [] := World.ownsRow_nil _ _ _ _
theorem Own.down {b : Nat} (h : Own T row z w base v l) (hb : b ≤ base) : Own T row z w b v l := by
  refine ⟨h.1, ?_⟩
  rcases h.2 with h2 | ⟨g, cap, cur, hv, hg, r⟩
  · exact .inl h2
  · exact .inr ⟨g, cap, cur, hv, Nat.le_trans hb hg, r⟩
theorem Own.alloc (h : Own T row z w base v l) (o : Obj) : Own T row z (w.alloc o) base v l := World.ownsRow.alloc h o
theorem Own.only {F : List Nat} (h : Own T row z w base v l) (hg : Only F w w') (hF : ∀ k, v.ownBlock = some k → k ∉ F) : Own T row z w' base v l := by
  refine ⟨h.1, ?_⟩
  rcases h.2 with h2 | ⟨g, cap, cur, hv, hb, hh, r⟩
  · exact .inl h2
  · exact .inr ⟨g, cap, cur, hv, hb, by rw [hg.block g (Array.getElem?_eq_some_iff.1 hh).1 (hF g (by rw [hv]; rfl))]; exact hh, r⟩
theorem Own.only0 (h : Own T row z w base v l) (hg : Only [] w w') : Own T row z w' base v l := h.only hg (fun _ _ => by simp)
theorem Own.own (h : Own T row z w base v l) : ∀ k, v.ownBlock = some k → base ≤ k ∧ k < w.heap.size := World.ownsRow.lt h
theorem Own.form (hz : RowZ row z) (h : Own T row z w base v l) :
    (v = .slice none 0 0 ∧ l = []) ∨ ∃ g cap, v = .slice (some ⟨g, 0, none⟩) l.length cap ∧ base ≤ g ∧ g < w.heap.size ∧ l.length ≤ cap ∧ cap ≤ 9223372036854775807 ∧ (∀ k, w.frozen? ⟨g, k, none⟩ = false) ∧
      (∀ i x, l[i]? = some x → ∀ r u, (row x)[r]? = some u → w.cell? ⟨g, i * z + r, none⟩ = some u) := by
  rcases h.2 with ⟨h1, h2⟩ | ⟨g, cap, cur, hv, hg, hh, hc, hm, hs, ht⟩
  · exact .inl ⟨h1, List.eq_nil_of_length_eq_zero h2⟩
  · refine .inr ⟨g, cap, hv, hg, (Array.getElem?_eq_some_iff.1 hh).1, hc, hm, fun k => by simp [World.frozen?, hh], fun i x hx r u hu => ?_⟩
    have hr : r < z := by have := (List.getElem?_eq_some_iff.1 hu).1; rwa [hz.len] at this
    have h3 := World.ownsRow.cells h (g := g) (by rw [hv]; rfl) (i * z + r) u (by rw [flat_at hz.len l i x hx r hr]; exact hu)
    rwa [show (⟨g, 0, none⟩ : Addr).add (i * z + r) = ⟨g, i * z + r, none⟩ by unfold Addr.add; split <;> simp_all] at h3
theorem Own.rd (hz : RowZ row z) (h : Own T row z w base v l) : Rd row z w v l := by
  rcases h.form hz with ⟨h1, h2⟩ | ⟨g, cap, h1, _, _, hc, hm, _, h2⟩
  · exact .inr ⟨none, 0, h1, h2, fun _ => rfl⟩
  · exact .inl ⟨g, 0, cap, h1, ⟨hc, hm⟩, fun i x hx r y hy => by rw [Nat.zero_add]; exact h2 i x hx r y hy⟩
theorem Own.len (h : Own T row z w base v l) : ∃ a cap, v = .slice a l.length cap := by
  rcases h.2 with ⟨h1, h2⟩ | ⟨g, cap, cur, hv, _⟩
  · exact ⟨none, 0, by rw [h1, h2]⟩
  · exact ⟨_, cap, hv⟩
theorem Own.take (hz : RowZ row z) {g m cap n : Nat} (h : Own T row z w base (.slice (some ⟨g, 0, none⟩) m cap) l) (hn : n ≤ l.length) : Own T row z w base (.slice (some ⟨g, 0, none⟩) n cap) (l.take n) := by
  rcases h.2 with ⟨h1, _⟩ | ⟨g', cap', cur, hv, hg, hh, hc, hm, hs, ht⟩
  · simp at h1
  · simp only [Value.slice.injEq, Option.some.injEq, Addr.mk.injEq] at hv
    obtain ⟨⟨rfl, _⟩, _, rfl⟩ := hv
    have e : (l.take n).length = n := by rw [List.length_take]; omega
    have ef : (l.take n).flatMap row = (l.flatMap row).take (n * z) := flat_take hz.len l n
    refine ⟨by rw [flat_len hz.len], .inr ⟨g, cap, cur, by rw [e], hg, hh, by omega, hm, hs, ?_⟩⟩
    rw [e, ef, ← ht, List.take_take]
    congr 1
    exact (Nat.min_eq_left (Nat.mul_le_mul_right _ hn)).symm
structure TyZ (t T : Nat) (z : Nat) (zv : Value) (by_ : Nat) : Prop where
  ht : Tryz.prog.underlying t = some (.slice T)
  hinfo : (Tryz.prog.info? T).map (fun i => (i.zero, i.size, i.bytes)) = some (some zv, z, by_)
  hzv : zv.cells.size = z
  h0 : 0 < z
theorem run_own {t by_ : Nat} {zv : Value} (ty : TypeId) (hT : TyZ t T z zv by_) (hz : RowZ row z) (hown : Own T row z w base v l) {vx : Value} {l2 : List α} (hrd : Rd row z w vx l2)
    (hbytes : (l.length + l2.length) * by_ ≤ 140737488355328) (hlen : l.length + l2.length ≤ 1000000) (hbase : base ≤ w.heap.size) :
    ∃ v' w', (Builtin.append_ #[t, t] ty #[v, vx]).run Tryz.prog w = .ok v' w' ∧ Own T row z w' base v' (l ++ l2) ∧ Only v.ownBlock.toList w w' ∧ (v'.ownBlock = v.ownBlock ∨ v'.ownBlock = some w.heap.size) ∧ (l2 = [] → vx = .slice none 0 0 → v' = v ∧ w' = w) := by
  obtain ⟨i0, hi, hz0, hz1, hz2⟩ := info_parts hT.hinfo
  obtain ⟨xa, xc, he⟩ := hrd.len
  cases xa with
  | none =>
    have h2 : l2 = [] := by
      rcases hrd with ⟨b, o', c', e1, _, _⟩ | ⟨oa, c', e1, e2, _⟩
      · rw [he] at e1; simp at e1
      · exact e2
    subst h2
    obtain rfl : xc = 0 := hrd.nilOk xc (by simpa using he)
    have hrun := run_append_owned_none (P := Tryz.prog) w base t ty T i0 z hT.ht hi v l.length _ hown
    refine ⟨v, w, by rw [he]; exact hrun, by rw [List.append_nil]; exact hown, Only.refl _ _, .inl rfl, fun _ _ => ⟨rfl, rfl⟩⟩
  | some ad =>
    have hnw : ∀ j u, (l2.flatMap row)[j]? = some u → w.cell? (ad.add j) = some u := by
      intro j u hu
      rcases hrd with ⟨b, o', c', e1, _, hc⟩ | ⟨oa, c', e1, e2, _⟩
      · rw [e1] at he
        simp only [Value.slice.injEq, Option.some.injEq] at he
        obtain ⟨rfl, _, _⟩ := he
        obtain ⟨i, y, r, hi2, hr, rfl, hu2⟩ := flat_inv hz.len hT.h0 hu
        have := hc i y hi2 r u hu2
        rw [show (⟨b, o', none⟩ : Addr).add (i * z + r) = ⟨b, o' + i * z + r, none⟩ by unfold Addr.add; split <;> simp_all [Nat.add_assoc]]
        exact this
      · subst e2; simp at hu
    obtain ⟨v', w', hr, h2, h3, h4, h5⟩ := run_append_own2 (P := Tryz.prog) w base t ty T i0 zv z by_ hT.ht hi hz0 hz1 hz2 hT.hzv hT.h0 v l.length _ hown ad l2.length xc (l2.flatMap row) (flat_len hz.len l2) hnw
      (fun u hu => by
        rw [List.mem_flatMap] at hu
        obtain ⟨y, _, hy⟩ := hu
        exact hz.one y u hy) (by simp only [maxLen]; omega) hbytes hbase
    refine ⟨v', w', by rw [he]; exact hr, ?_, (Only.refl _ _).grown h3 (fun k hk => .inl (by rw [hk]; simp)), h5, fun _ hx => by rw [he] at hx; simp at hx⟩
    unfold Own
    rw [List.length_append, List.flatMap_append]
    exact h2
theorem append_own {t by_ : Nat} {zv : Value} (hT : TyZ t T z zv by_) (hz : RowZ row z) {ops : Array Oper} {rest : List Oper} {o : Oper} {a : Act} {Q : Exit → Act → World → Prop} (hgd : o.guard = none) (s x : Operand)
    (ho : o.op = .call { callee := .builtin .append, args := #[s, x], argTypes := #[t, t] })
    (base : Nat) (v : Value) (l : List α) (hs : a.eval s = v) (hown : Own T row z w base v l) (vx : Value) (l2 : List α) (hx : a.eval x = vx) (hrd : Rd row z w vx l2)
    (hbytes : (l.length + l2.length) * by_ ≤ 140737488355328) (hlen : l.length + l2.length ≤ 1000000) (hbase : base ≤ w.heap.size)
    (h : ∀ v' w', Own T row z w' base v' (l ++ l2) → Only v.ownBlock.toList w w' → (v'.ownBlock = v.ownBlock ∨ v'.ownBlock = some w.heap.size) → wpList Tryz.prog ops Q rest (a.put o.dst v') w') : wpList Tryz.prog ops Q (o :: rest) a w := by
  refine wpList_plain hgd fun K hK => ?_
  obtain ⟨v', w', hr, h2, h3, h4, _⟩ := run_own o.type hT hz hown hrd hbytes hlen hbase
  unfold Oper.wp
  simp only [execOp, ho, resolve, invoke, builtin, Sem.run_bind, Sem.run_pure, Result.andThen_ok, List.map_toArray, List.map_cons, List.map_nil, hs, hx, hr]
  exact hK _ _ (h v' w' h2 h3 h4)
theorem step_own {t by_ : Nat} {zv : Value} (hT : TyZ t T z zv by_) (hz : RowZ row z) {ops : Array Oper} {o : Oper} {ac : Act} {K : Act → World → Prop} {Q : Exit → Act → World → Prop} {E : Prop} (hgd : o.guard = none) (s x : Operand)
    (ho : o.op = .call { callee := .builtin .append, args := #[s, x], argTypes := #[t, t] })
    (base : Nat) (v : Value) (l : List α) (hs : ac.eval s = v) (hown : Own T row z w base v l) (vx : Value) (l2 : List α) (hx : ac.eval x = vx) (hrd : Rd row z w vx l2)
    (hbytes : (l.length + l2.length) * by_ ≤ 140737488355328) (hlen : l.length + l2.length ≤ 1000000) (hbase : base ≤ w.heap.size)
    (h : ∀ v' w', Own T row z w' base v' (l ++ l2) → Only v.ownBlock.toList w w' → (v'.ownBlock = v.ownBlock ∨ v'.ownBlock = some w.heap.size) → K (ac.put o.dst v') w') :
    if Region.wanted o (yielded ops ac.tmps) = true then Oper.wp Tryz.prog o ac w K Q else E := by
  have hw : Region.wanted o (yielded ops ac.tmps) = true := by simp [Region.wanted, hgd]
  rw [if_pos hw]
  obtain ⟨v', w', hr, h2, h3, h4, _⟩ := run_own o.type hT hz hown hrd hbytes hlen hbase
  unfold Oper.wp
  simp [execOp, ho, resolve, invoke, builtin, hs, hx, hr, Result.andThen]
  exact h v' w' h2 h3 h4
end
theorem rowTy : RowZ Ty.row 2 := ⟨fun _ => rfl, fun x u hu => by simp [Ty.row] at hu; rcases hu with rfl | rfl <;> rfl⟩
theorem rowIns : RowZ Ins.row 3 := ⟨fun _ => rfl, fun x u hu => by simp [Ins.row] at hu; rcases hu with rfl | rfl | rfl <;> rfl⟩
theorem tyTy : TyZ 66 68 2 (.agg #[.int .i64 0, .int .i64 0]) 16 := ⟨Tryz.underlying66, by kernel_rfl, rfl, by decide⟩
theorem tyIns : TyZ 65 64 3 (.agg #[.int .i64 0, .int .i64 0, .int .i64 0]) 24 := ⟨Tryz.underlying65, by kernel_rfl, rfl, by decide⟩
abbrev Tys (w : World) (base : Nat) (v : Value) (l : List Ty) : Prop := Own 68 Ty.row 2 w base v l
theorem rd_one {α : Type} {row : α → List Value} {z : Nat} (hz : RowZ row z) (w : World) (T : Nat) (x : α) : Rd row z (w.alloc (.cells (row x).toArray T)) (.slice (some ⟨w.heap.size, 0, none⟩) 1 1) [x] := by
  refine .inl ⟨w.heap.size, 0, 1, rfl, ⟨Nat.le_refl _, by decide⟩, fun i y hy r u hu => ?_⟩
  cases i with
  | zero =>
    simp at hy
    subst hy
    have := (Row.new w T (row x)).cell r hu
    simpa using this
  | succ i => simp at hy
end Go.Proofs.YtkacgbigeobncaaGreat
