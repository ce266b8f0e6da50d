/- A map[int]bool that is a set: what is there is true; its keys sorted. A list of numbers that is eaten from its front and grows at its end (s = s[1:]; s = append(s, x)): a slice at an offset. -/
import Derived.Test.YtkjocehdbpekjaaSorted
import Derived.Test.YtkjocehdbpekjaaOMaps
import Derived.ArgAppend
namespace Go.Proofs.Ytkjocehdbpekjaa
open Go.RowKit Go.Maps Go.Sort Go.Shelf
set_option maxHeartbeats 3200000
set_option maxRecDepth 100000
set_option linter.unusedVariables false
def boolElem : Value → Option (DataW Unit × List MemPlace)
  | .bool b => some (.lit (.bool b), [])
  | _ => none
theorem boolElem_inv {v : Value} {y : DataW Unit × List MemPlace} (h : boolElem v = some y) : ∃ b, v = .bool b ∧ y = (.lit (.bool b), []) := by
  unfold boolElem at h
  split at h
  · cases h; exact ⟨_, rfl, rfl⟩
  · cases h
def SetAt (w : World) (mb n : Nat) (S : Int → Bool) : Prop :=
  ∃ D : DataW Unit, w.ownsMap Try.prog 3 boolElem mb n D ∧ ∀ k, wfI k → Maps.has D (.int .i64 k) = S k ∧ (S k = true → ∀ z, D.atKey (.int .i64 k) z = .lit (.bool true))
theorem zeroBool (w : World) : (zeroValue 4).run Try.prog w = .ok (.bool false) w := by kernel_rfl
section
variable {w w' : World} {mb n : Nat} {S : Int → Bool}
theorem SetAt.lt (h : SetAt w mb n S) : mb < w.heap.size := by obtain ⟨D, h, _⟩ := h; exact h.lt
theorem SetAt.only {F : List Nat} (h : SetAt w mb n S) (hg : Only F w w') (hS : mb ∉ F) : SetAt w' mb n S := by
  obtain ⟨D, hD, hf⟩ := h
  have hlt := hD.lt
  obtain ⟨es, clock, hb, r⟩ := hD
  exact ⟨D, ⟨es, clock, (hg.block mb hlt hS).trans hb, r⟩, hf⟩
theorem SetAt.look (h : SetAt w mb n S) {k : Int} (hk : wfI k) : (Instr.lookup 82 (.map (some mb)) (.int .i64 k) false).run Try.prog w = .ok (.bool (S k)) w := by
  obtain ⟨D, hD, hf⟩ := h
  obtain ⟨v, ps, hrun, hv⟩ := hD.lookup keyedI Try.underlying82 (zeroBool w) (zd := .lit (.bool false)) (zp := []) rfl (keyI hk)
  obtain ⟨b, rfl, hy⟩ := boolElem_inv hv
  rw [hrun]
  obtain ⟨h1, h2⟩ := hf k hk
  cases hS : S k with
  | false =>
    rw [hS] at h1
    have h3 := Maps.atKey_of_not_has h1 (.lit (.bool false) : DataW Unit)
    rw [h3] at hy
    have := congrArg Prod.fst hy
    simp at this
    rw [← this]
  | true =>
    rw [h2 hS] at hy
    have := congrArg Prod.fst hy
    simp at this
    rw [← this]
theorem SetAt.made (w : World) : SetAt (w.alloc (.map #[] 0)) w.heap.size 0 (fun _ => false) :=
  ⟨.map [], World.ownsMap_made _ _ _ _, fun k _ => ⟨rfl, fun h => by cases h⟩⟩
theorem SetAt.store (h : SetAt w mb n S) (hn : n < 1000000) {k : Int} (hk : wfI k) : ∃ w', (Instr.mapUpdate 82 (.map (some mb)) (.int .i64 k) (.bool true)).run Try.prog w = .ok () w' ∧
    SetAt w' mb (n + 1) (fun j => if j = k then true else S j) ∧ w.grownBy w' (some mb) := by
  obtain ⟨D, hD, hf⟩ := h
  obtain ⟨w', h1, h2, h3⟩ := hD.update keyedI Try.underlying82 (by simp only [maxLen]; omega) (keyI hk) (show boolElem (.bool true) = some (.lit (.bool true), []) from rfl)
  refine ⟨w', h1, ⟨_, h2, fun j hj => ?_⟩, h3⟩
  have hm := hD.isMap
  by_cases e : j = k
  · subst e
    have e2 : (fun i => if i = j then true else S i) j = true := if_pos rfl
    rw [e2]
    exact ⟨Maps.has_put_same hm (isKeyI j hj) _, fun _ z => Maps.atKey_put_same hm (isKeyI j hj) _ z⟩
  · have e2 : (fun i => if i = k then true else S i) j = S j := if_neg e
    rw [e2]
    refine ⟨by rw [Maps.has_put_other (ne_key e)]; exact (hf j hj).1, fun hc z => ?_⟩
    rw [Maps.atKey_put_other (ne_key e)]
    exact (hf j hj).2 hc z
theorem SetAt.congr (h : SetAt w mb n S) {S' : Int → Bool} (he : ∀ k, S k = S' k) : SetAt w mb n S' := by
  have : S = S' := funext he
  rw [← this]; exact h
end
end Go.Proofs.Ytkjocehdbpekjaa
namespace Go.Proofs.Ytkjocehdbpekjaa
open Go.RowKit
set_option maxHeartbeats 1600000
set_option maxRecDepth 100000
set_option linter.unusedVariables false
/-- The slice value v, one of the call's own (from block base on), holds the numbers l, from some offset on. -/
def Qsl (w : World) (base : Nat) (v : Value) (l : List Int) : Prop :=
  (v = .slice none 0 0 ∧ l = []) ∨ ∃ (g off cap T : Nat) (cs : List Value), v = .slice (some ⟨g, off, none⟩) l.length cap ∧ base ≤ g ∧ Row w g T cs ∧ l.length ≤ cap ∧ off + cap ≤ cs.length ∧ ∀ j, j < l.length → cs[off + j]? = some (.int .i64 (gI l j))
theorem gI_snoc' {l : List Int} {x : Int} {j : Nat} : gI (l ++ [x]) j = if j < l.length then gI l j else if j = l.length then x else 0 := by
  unfold gI
  by_cases h : j < l.length
  · rw [if_pos h, List.getElem?_append_left h]
  · rw [if_neg h, List.getElem?_append_right (by omega)]
    by_cases e : j = l.length
    · rw [if_pos e, e]; simp
    · rw [if_neg e, List.getElem?_eq_none (by simp; omega)]; rfl
section
variable {w w' : World} {base : Nat} {v : Value} {l : List Int}
theorem Qsl.nil (w : World) (base : Nat) : Qsl w base (.slice none 0 0) [] := .inl ⟨rfl, rfl⟩
theorem Qsl.ofInts (h : Ints w base v l) : Qsl w base v l := by
  rcases h.2 with ⟨h1, h2⟩ | ⟨g, cap, cur, hv, hg, hh, hc, hm, hs, ht⟩
  · exact .inl ⟨h1, List.eq_nil_of_length_eq_zero h2⟩
  · refine .inr ⟨g, 0, cap, 3, cur.toList, hv, hg, hh, hc, by simp [hs], fun j hj => ?_⟩
    have h3 : (cur.toList.take (l.length * 1))[j]? = some (.int .i64 (gI l j)) := by
      rw [ht, List.getElem?_map]
      unfold gI
      rw [List.getElem?_eq_getElem hj]
      rfl
    rw [List.getElem?_take_of_lt (by omega)] at h3
    rw [Nat.zero_add]
    exact h3
theorem Qsl.len (h : Qsl w base v l) : ∃ a cap, v = .slice a l.length cap := by
  rcases h with ⟨h1, h2⟩ | ⟨g, off, cap, T, cs, h1, _⟩
  · exact ⟨none, 0, by rw [h1, h2]; rfl⟩
  · exact ⟨_, cap, h1⟩
theorem Qsl.own (h : Qsl w base v l) : ∀ k, v.ownBlock = some k → base ≤ k ∧ k < w.heap.size := by
  intro k hk
  rcases h with ⟨h1, _⟩ | ⟨g, off, cap, T, cs, h1, h2, h3, _⟩
  · rw [h1] at hk; cases hk
  · rw [h1] at hk; cases hk; exact ⟨h2, h3.lt⟩
theorem Qsl.only {F : List Nat} (h : Qsl w base v l) (ho : Only F w w') (hF : ∀ k, v.ownBlock = some k → k ∉ F) : Qsl w' base v l := by
  rcases h with h1 | ⟨g, off, cap, T, cs, h1, h2, h3, h4⟩
  · exact .inl h1
  · exact .inr ⟨g, off, cap, T, cs, h1, h2, ho.row h3 (hF g (by rw [h1]; rfl)), h4⟩
theorem Qsl.alloc (h : Qsl w base v l) (o : Obj) : Qsl (w.alloc o) base v l := h.only ((Only.refl [] w).alloc o) (by simp)
/-- Its first number; what is behind it. -/
theorem Qsl.head {x : Int} (h : Qsl w base v (x :: l)) : ∃ g off cap, v = .slice (some ⟨g, off, none⟩) (l.length + 1) cap ∧ w.cell? ⟨g, off, none⟩ = some (.int .i64 x) ∧ l.length + 1 ≤ cap ∧ Qsl w base (.slice (some ⟨g, off + 1, none⟩) l.length (cap - 1)) l := by
  rcases h with ⟨_, h1⟩ | ⟨g, off, cap, T, cs, h1, h2, h3, h4, h5, h6⟩
  · cases h1
  · have h4' : l.length + 1 ≤ cap := h4
    refine ⟨g, off, cap, h1, h3.cell off (h6 0 (by simp)), h4', .inr ⟨g, off + 1, cap - 1, T, cs, rfl, h2, h3, by omega, by omega, fun j hj => ?_⟩⟩
    have := h6 (j + 1) (by simp; omega)
    rw [show off + 1 + j = off + (j + 1) by omega]
    exact this
/-- append(s, y). -/
theorem append_qsl1 {ops : Array Oper} {rest : List Oper} {o : Oper} {a : Act} {Q : Exit → Act → World → Prop} (hgd : o.guard = none) (s x : Operand)
    (ho : o.op = .call { callee := .builtin .append, args := #[s, x], argTypes := #[23, 23] })
    (base : Nat) (v : Value) (l : List Int) (hs : a.eval s = v) (hown : Qsl w base v l)
    (b : Nat) (y : Int) (hx : a.eval x = .slice (some ⟨b, 0, none⟩) 1 1) (hnews : w.cell? ⟨b, 0, none⟩ = some (.int .i64 y))
    (hbytes : l.length + 1 ≤ 17592186044416) (hbase : base ≤ w.heap.size)
    (h : ∀ v' w', Qsl w' base v' (l ++ [y]) → Only v.ownBlock.toList w w' → (∀ k, v'.ownBlock = some k → v.ownBlock = some k ∨ w.heap.size ≤ k) → wpList Try.prog ops Q rest (a.put o.dst v') w') : wpList Try.prog ops Q (o :: rest) a w := by
  rcases hown with ⟨rfl, rfl⟩ | ⟨g, off, cap, T, cs, rfl, h2, h3, h4, h5, h6⟩
  · refine append_int1 hgd s x ho base _ [] hs (Ints.nil w base) b y hx hnews hbytes hbase (fun v' w' h1 h2 h3 => h v' w' (Qsl.ofInts h1) h2 (fun k hk => by rcases h3 with h3 | h3 <;> rw [h3] at hk; exact .inl hk; cases hk; exact .inr (Nat.le_refl _)))
  · obtain ⟨i0, hi, hz0, hz1, hz2⟩ := info_parts infoInt
    have hcell : ∀ j u, [Value.int .i64 y][j]? = some u → w.cell? ((⟨b, 0, none⟩ : Addr).add j) = some u := fun j u hu => by
      cases j with
      | zero => simp at hu; subst hu; exact hnews
      | succ j => simp at hu
    refine wpList_plain hgd fun K hK => ?_
    by_cases hroom : l.length + 1 ≤ cap
    · have hin : off + l.length < cs.length := by omega
      have hrun := run_append_room_cells (P := Try.prog) w 23 o.type 3 i0 Try.underlying23 hi g off l.length cap ⟨b, 0, none⟩ 1 1 [.int .i64 y] (by rw [hz1]; rfl) hcell (by simp [Value.oneCell']) hroom
        (fun j hj => by
          have hj0 : j = 0 := by simp at hj; omega
          rw [hz1, hj0, Nat.mul_one, Nat.add_zero, h3.cell (off + l.length) (List.getElem?_eq_getElem hin)]; rfl)
        (fun j hj => by exact h3.free _)
      rw [hz1, Nat.mul_one] at hrun
      have hw : w.setCells g (off + l.length) [.int .i64 y] = w.setCell ⟨g, off + l.length, none⟩ (.int .i64 y) := rfl
      rw [hw] at hrun
      unfold Oper.wp
      simp [execOp, ho, resolve, invoke, builtin, hs, hx, hrun, Result.andThen]
      refine hK _ _ (h _ _ (.inr ⟨g, off, cap, T, cs.set (off + l.length) (.int .i64 y), by simp, h2, h3.set _ _, by simpa using hroom, by simpa using h5, fun j hj => ?_⟩) ((Only.refl _ w).set (.inl (by simp [Value.ownBlock])) _) (fun k hk => .inl hk))
      rw [gI_snoc', List.getElem?_set]
      by_cases e : j = l.length
      · rw [if_pos (by omega), if_pos hin, if_neg (by omega), if_pos e]
      · have hjl : j < l.length := by simp at hj; omega
        rw [if_neg (by omega), if_pos hjl]
        exact h6 j hjl
    · obtain ⟨v', w', hrun, hown, hgr⟩ := run_append_arg_grows (P := Try.prog) w 23 o.type 3 i0 _ 1 8 Try.underlying23 hi hz0 hz1 hz2 rfl (by omega) ⟨g, off, none⟩ l.length cap (l.map (Value.int .i64)) (by simp)
        (fun j u hu => by
          rw [List.getElem?_map] at hu
          cases e : l[j]? with
          | none => rw [e] at hu; cases hu
          | some z =>
            rw [e] at hu
            cases hu
            have hj := (List.getElem?_eq_some_iff.1 e).1
            have := h3.cell (off + j) (h6 j hj)
            rw [show gI l j = z by unfold gI; rw [e]; rfl] at this
            rw [Addr.add_lit]
            exact this) ⟨b, 0, none⟩ 1 1 [.int .i64 y] (by simp) hcell (by omega) (by simp only [maxLen]; omega) (by omega)
      have hI : Ints w' w.heap.size v' (l ++ [y]) := by
        unfold Ints
        rw [List.length_append, List.map_append]
        exact hown
      unfold Oper.wp
      simp [execOp, ho, resolve, invoke, builtin, hs, hx, hrun, Result.andThen]
      exact hK _ _ (h _ _ (Qsl.ofInts (hI.base hbase)) ((Only.refl _ w).grown hgr (fun k hk => by cases hk)) (fun k hk => .inr (hI.own k hk).1))
end
end Go.Proofs.Ytkjocehdbpekjaa
