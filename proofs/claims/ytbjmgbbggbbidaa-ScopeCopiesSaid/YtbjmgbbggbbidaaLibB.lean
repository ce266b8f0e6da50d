/- More plain lemmas on worlds: aggregates loaded at any place, arrays by value, several cells at once. No program is spoken of. -/
import Derived.Test.YtbjmgbbggbbidaaLib
import Derived.Laws.Rows
import Derived.Laws.IdiomCopy
import Derived.Lib.SliceRun
namespace Go.Proofs.Ytbjmgbbggbbidaa
open Go.RowKit

theorem addr_add (b o n : Nat) : (⟨b, o, none⟩ : Addr).add n = ⟨b, o + n, none⟩ := by unfold Addr.add; split <;> simp_all

section
variable {P : Program}
theorem run_loadVar_agg (w : World) (b o : Nat) (ty : TypeId) (cs : List Value) (d : TypeDesc)
    (hu : P.underlying ty = some d) (hd : (match d with | .struct _ | .array _ _ => true | _ => false) = true) (hi : (P.info? ty).map (·.size) = some cs.length)
    (hc : ∀ j v, cs[j]? = some v → w.cell? ⟨b, o + j, none⟩ = some v) : (loadVar ty ⟨b, o, none⟩).run P w = .ok (.agg cs.toArray) w := by
  have hl : (loadCells ⟨b, o, none⟩ cs.length).run P w = .ok cs.toArray w :=
    run_loadCells_list (P := P) w ⟨b, o, none⟩ cs (fun j v hv => by rw [addr_add]; exact hc j v hv)
  cases hq : P.info? ty with
  | none => simp [hq] at hi
  | some i =>
    have hs : i.size = cs.length := by simpa [hq] using hi
    have hagg : (isAgg ty).run P w = .ok true w := by
      unfold isAgg
      rw [Sem.run_bind, run_underlying hu w]
      cases d <;> simp_all
    simp [loadVar, Sem.run_bind, hagg, sizeOf, typeInfo, hq, hs, hl]
theorem wp_load_agg {o : Oper} {a : Act} {w : World} {K : Act → World → Prop} {Q : Exit → Act → World → Prop} (ty : TypeId) (x : Operand) (ho : o.op = .load ty x)
    (b off : Nat) (hx : a.eval x = .pointer (some ⟨b, off, none⟩)) (cs : List Value) (d : TypeDesc)
    (hu : P.underlying ty = some d) (hd : (match d with | .struct _ | .array _ _ => true | _ => false) = true) (hi : (P.info? ty).map (·.size) = some cs.length)
    (hc : ∀ j v, cs[j]? = some v → w.cell? ⟨b, off + j, none⟩ = some v)
    (h : K (a.put o.dst (.agg cs.toArray)) w) : o.wp P a w K Q := by
  unfold Oper.wp execOp
  simp only [ho, hx, Instr.loadAt, Instr.sureAddr, Sem.run_bind, Sem.run_pure, Result.andThen_ok, run_loadVar_agg w b off ty cs d hu hd hi hc]
  exact h
/-- A struct or an array is loaded, at any place. -/
theorem wpList_load_agg {ops : Array Oper} {rest : List Oper} {o : Oper} {a : Act} {w : World} {Q : Exit → Act → World → Prop} (hgd : o.guard = none) (ty : TypeId) (x : Operand) (ho : o.op = .load ty x)
    (b off : Nat) (hx : a.eval x = .pointer (some ⟨b, off, none⟩)) (cs : List Value) (d : TypeDesc)
    (hu : P.underlying ty = some d) (hd : (match d with | .struct _ | .array _ _ => true | _ => false) = true) (hi : (P.info? ty).map (·.size) = some cs.length)
    (hc : ∀ j v, cs[j]? = some v → w.cell? ⟨b, off + j, none⟩ = some v)
    (h : wpList P ops Q rest (a.put o.dst (.agg cs.toArray)) w) : wpList P ops Q (o :: rest) a w :=
  wpList_plain hgd fun _ hK => wp_load_agg ty x ho b off hx cs d hu hd hi hc (hK _ _ h)
/-- An element of an array of one-cell elements, by value. -/
theorem run_index_agg (w : World) (t e : TypeId) (n : Nat) (cs : Array Value) (i : Nat) (v : Value) (ht : P.underlying t = some (.array n e)) (d : TypeDesc) (he : P.underlying e = some d)
    (hd : (match d with | .struct _ | .array _ _ => true | _ => false) = false) (hs : (P.info? e).map (·.size) = some 1) (hi : i < n) (hv : cs[i]? = some v) :
    (Instr.index t (.agg cs) (.int .i64 i)).run P w = .ok v w := by
  have hagg : (isAgg e).run P w = .ok false w := by
    unfold isAgg
    rw [Sem.run_bind, run_underlying he w]
    cases d <;> simp_all
  cases hq : P.info? e with
  | none => simp [hq] at hs
  | some j =>
    have hj : j.size = 1 := by simpa [hq] using hs
    have h0 : (0 : Int) ≤ (i : Int) ∧ (i : Int) < (n : Int) := by omega
    simp [Instr.index, run_underlying ht, asIntOf, part, hagg, sizeOf, typeInfo, hq, hj, hi, hv]
end

/-- clear(s), s not empty, of one-cell elements. -/
theorem wpList_clear {P : Program} {w : World} {ops : Array Oper} {rest : List Oper} {o : Oper} {a : Act} {Q : Exit → Act → World → Prop} (hgd : o.guard = none) (s : Operand) (t e : TypeId)
    (ho : o.op = .call { callee := .builtin .clear, args := #[s], argTypes := #[t] }) (z : Value) (ht : P.underlying t = some (.slice e)) (hv : ∀ w, (zeroValue e).run P w = .ok z w) (hz : z.cells = #[z]) (h1 : z.oneCell' = true)
    (b off n c : Nat) (hs : a.eval s = .slice (some ⟨b, off, none⟩) n c) (hn : 0 < n)
    (hc : ∀ j, j < n → (w.cell? ⟨b, off + j, none⟩).isSome = true) (hf : ∀ j, j < n → w.frozen? ⟨b, off + j, none⟩ = false)
    (h : wpList P ops Q rest (a.put o.dst (.tuple #[])) (w.setCells b off (List.replicate n z))) : wpList P ops Q (o :: rest) a w := by
  refine wpList_plain hgd fun K hK => ?_
  have hr := Lib.run_clear_slice (P := P) w t e o.type z ht hv hz h1 b off n c hn hc hf
  unfold Oper.wp
  simp only [execOp, ho, resolve, invoke, builtin, Sem.run_bind, Sem.run_pure, Result.andThen_ok, List.map_toArray, List.map_cons, List.map_nil, hs, hr]
  exact hK _ _ h
theorem replicate_range {α : Type} (n : Nat) (x : α) : List.replicate n x = (List.range n).map fun _ => x := by
  apply List.ext_getElem <;> simp
/-- copy(d, s) of one-cell elements, all within. -/
theorem wpList_copy_cells {P : Program} {w : World} {ops : Array Oper} {rest : List Oper} {o : Oper} {a : Act} {Q : Exit → Act → World → Prop} (hgd : o.guard = none) (d s : Operand) (dT sT e : TypeId)
    (ho : o.op = .call { callee := .builtin .copy, args := #[d, s], argTypes := #[dT, sT] }) (ht : P.underlying dT = some (.slice e)) (hs1 : (P.info? e).map (·.size) = some 1)
    (b off n c : Nat) (hd : a.eval d = .slice (some ⟨b, off, none⟩) n c) (b2 off2 c2 : Nat) (hs : a.eval s = .slice (some ⟨b2, off2, none⟩) n c2) (cs : List Value) (hl : cs.length = n)
    (hsrc : ∀ j v, cs[j]? = some v → w.cell? ⟨b2, off2 + j, none⟩ = some v) (hc : ∀ j, j < n → (w.cell? ⟨b, off + j, none⟩).isSome = true) (hf : ∀ j, j < n → w.frozen? ⟨b, off + j, none⟩ = false) (h1 : ∀ v ∈ cs, v.oneCell' = true)
    (h : wpList P ops Q rest (a.put o.dst (goInt n)) (w.setCells b off cs)) : wpList P ops Q (o :: rest) a w := by
  refine wpList_plain hgd fun K hK => ?_
  have hr := run_copy_cells (P := P) w dT sT o.type e b off n c ⟨b2, off2, none⟩ n c2 cs ht hs1 (by rw [hl]; exact (Nat.min_self n).symm) (fun j v hv => by rw [addr_add]; exact hsrc j v hv) (fun j hj => hc j (by omega)) (fun j hj => hf j (by omega)) h1
  unfold Oper.wp
  simp only [execOp, ho, resolve, invoke, builtin, Sem.run_bind, Sem.run_pure, Result.andThen_ok, List.map_toArray, List.map_cons, List.map_nil, hs, hd, hr, hl]
  exact hK _ _ h
/-- The world has drawn at most. -/
def Drew (w w' : World) : Prop := ∃ n, w' = w.drewN n
theorem Drew.refl (w : World) : Drew w w := ⟨0, rfl⟩
theorem Drew.of (w : World) (n : Nat) : Drew w (w.drewN n) := ⟨n, rfl⟩
theorem Drew.more {w w' : World} (h : Drew w w') (n : Nat) : Drew w (w'.drewN n) := by obtain ⟨m, rfl⟩ := h; exact ⟨m + n, by simp [World.drewN, Nat.add_assoc]⟩
theorem Drew.trans {a b c : World} (h : Drew a b) (k : Drew b c) : Drew a c := by obtain ⟨m, rfl⟩ := k; exact h.more m
theorem Drew.only {w w' : World} (h : Drew w w') (F : List Nat) : Only F w w' := by obtain ⟨n, rfl⟩ := h; exact (Only.refl _ _).drewN n
theorem Drew.cell {w w' : World} (h : Drew w w') {a : Addr} {v : Value} (hc : w.cell? a = some v) : w'.cell? a = some v := by obtain ⟨n, rfl⟩ := h; exact hc
theorem Drew.row {w w' : World} (h : Drew w w') {b T : Nat} {cs : List Value} (hc : Row w b T cs) : Row w' b T cs := by obtain ⟨n, rfl⟩ := h; exact hc
theorem Drew.ex {w w' : World} (h : Drew w w') : ∃ n, w' = w.drewN n := h
theorem still_exact {P : Program} {f : FuncId} {args : Array Value} {w : World} {v : Value} (h : Calls P f args w (Exact w v)) : Calls P f args w fun e w'' => e = .returned v ∧ w'' = w := h.mono fun _ _ ⟨a, b⟩ => ⟨a, b.symm⟩
theorem Only.setCells {F : List Nat} {a w : World} (h : Only F a w) {b : Nat} (hp : b ∈ F ∨ a.heap.size ≤ b) : ∀ (vs : List Value) (o : Nat), Only F a (w.setCells b o vs) := by
  intro vs
  induction vs generalizing w with
  | nil => intro o; exact h
  | cons v r ih => intro o; exact ih (h.set (p := ⟨b, o, none⟩) hp v) (o + 1)
theorem Row.setCells {w : World} {b T : Nat} {cs : List Value} (h : Row w b T cs) : ∀ (vs : List Value) (o : Nat), ∃ cs', Row (w.setCells b o vs) b T cs' := by
  intro vs
  induction vs generalizing w cs with
  | nil => intro o; exact ⟨cs, h⟩
  | cons v r ih => intro o; exact ih (h.set o v) (o + 1)
theorem Only.cell {F : List Nat} {w w' : World} (h : Only F w w') {a : Addr} {v : Value} (hc : w.cell? a = some v) (ha : a.block ∉ F) : w'.cell? a = some v := by
  have hlt := World.block_lt_of_cell? w _ hc
  simp only [World.cell?] at hc ⊢
  rw [h.block a.block hlt ha]
  exact hc
theorem wpQuiet_load_agg {P : Program} {ops : Array Oper} {w : World} {Q : Act → Prop} {a : Act} {o : Oper} {rest : List Oper} {v : Value} (ty : TypeId) (x : Operand) (ho : o.op = .load ty x) (hwant : Region.wanted o (yielded ops a.tmps) = true)
    (b off : Nat) (hx : a.eval x = .pointer (some ⟨b, off, none⟩)) (hrun : ∀ n, (loadVar ty ⟨b, off, none⟩).run P (w.drewN n) = .ok v (w.drewN n))
    (h : wpQuiet P ops (fun w' => ∃ n, w' = w.drewN n) Q rest (a.put o.dst v)) : wpQuiet P ops (fun w' => ∃ n, w' = w.drewN n) Q (o :: rest) a := by
  refine wpQuiet_step (fun K hK => ?_)
  rw [if_pos hwant]
  refine ⟨v, ?_, hK _ h⟩
  rintro w' ⟨n, rfl⟩
  unfold Oper.quietAt execOp
  simp only [ho, hx, Instr.loadAt, Instr.sureAddr, Sem.run_bind, Sem.run_pure, Result.andThen_ok, hrun n]
  exact ⟨rfl, rfl⟩
end Go.Proofs.Ytbjmgbbggbbidaa
