/- Contracts of ContainsFunc with Play's two functions, of slices of bools, and of Play. -/
import Derived.Test.YtemdkffkpdhciaaPlayM
import Derived.Test.YtemdkffkpdhciaaQLaw
namespace Go.Proofs.Ytemdkffkpdhciaa
open Go.RowKit
set_option maxHeartbeats 400000
set_option maxRecDepth 100000
set_option linter.unusedVariables false

/-- The slice value v is one of the call's own (from block base on) and holds the bools l. -/
def Flags (w : World) (base : Nat) (v : Value) (l : List Bool) : Prop := w.ownsRow base 4 1 v l.length (l.map Value.bool)
theorem infoBool : (Try.prog.info? 4).map (fun i => (i.zero, i.size, i.bytes)) = some (some (.bool false), 1, 1) := by kernel_rfl
theorem Flags.nil (w : World) (base : Nat) : Flags w base (.slice none 0 0) [] := World.ownsRow_nil _ _ _ _
theorem Flags.alloc {w : World} {base : Nat} {v : Value} {l : List Bool} (h : Flags w base v l) (o : Obj) : Flags (w.alloc o) base v l := World.ownsRow.alloc h o
theorem Flags.form {w : World} {base : Nat} {v : Value} {l : List Bool} (h : Flags w base v l) :
    (v = .slice none 0 0 ∧ l = []) ∨ ∃ g cap, v = .slice (some ⟨g, 0, none⟩) l.length cap ∧ base ≤ g ∧ g < w.heap.size ∧ l.length ≤ cap ∧ (∀ i, i < l.length → w.cell? ⟨g, i, none⟩ = some (.bool (l[i]?.getD false))) := by
  rcases h.2 with ⟨h1, h2⟩ | ⟨g, cap, cur, hv, hg, hh, hc, hm, hs, ht⟩
  · exact .inl ⟨h1, List.eq_nil_of_length_eq_zero h2⟩
  · refine .inr ⟨g, cap, hv, hg, (Array.getElem?_eq_some_iff.1 hh).1, hc, fun i hi => ?_⟩
    have h3 := World.ownsRow.cells h (g := g) (by rw [hv]; rfl) i (.bool (l[i]?.getD false)) (by simp [hi])
    rwa [show (⟨g, 0, none⟩ : Addr).add i = ⟨g, i, none⟩ by unfold Addr.add; split <;> simp_all] at h3
theorem Flags.len {w : World} {base : Nat} {v : Value} {l : List Bool} (h : Flags w base v l) : ∃ a cap, v = .slice a l.length cap := by
  rcases h.form with ⟨h1, h2⟩ | ⟨g, cap, h1, _⟩
  · exact ⟨none, 0, by rw [h1, h2]; rfl⟩
  · exact ⟨_, cap, h1⟩
theorem Flags.only {w w' : World} {base : Nat} {v : Value} {l : List Bool} {F : List Nat} (h : Flags w base v l) (hg : Only F w w') (hF : ∀ k, v.ownBlock = some k → k ∉ F) : Flags w' base v l := by
  refine ⟨h.1, ?_⟩
  rcases h.2 with h2 | ⟨g, cap, cur, hv, hb, hh, r⟩
  · exact .inl h2
  · exact .inr ⟨g, cap, cur, hv, hb, by rw [hg.block g (Array.getElem?_eq_some_iff.1 hh).1 (hF g (by rw [hv]; rfl))]; exact hh, r⟩
theorem Flags.own {w : World} {base : Nat} {v : Value} {l : List Bool} (h : Flags w base v l) : ∀ k, v.ownBlock = some k → base ≤ k ∧ k < w.heap.size := World.ownsRow.lt h
/-- append(s, x) of one bool. -/
theorem append_flag1 {w : World} {ops : Array Oper} {rest : List Oper} {o : Oper} {a : Act} {Q : Exit → Act → World → Prop} (hgd : o.guard = none) (s x : Operand)
    (ho : o.op = .call { callee := .builtin .append, args := #[s, x], argTypes := #[23, 23] })
    (base : Nat) (v : Value) (l : List Bool) (hs : a.eval s = v) (hown : Flags w base v l)
    (b : Nat) (y : Bool) (hx : a.eval x = .slice (some ⟨b, 0, none⟩) 1 1) (hnews : w.cell? ⟨b, 0, none⟩ = some (.bool y))
    (hbytes : l.length + 1 ≤ 17592186044416) (hbase : base ≤ w.heap.size)
    (h : ∀ v' w', Flags w' base v' (l ++ [y]) → Only v.ownBlock.toList w w' → (v'.ownBlock = v.ownBlock ∨ v'.ownBlock = some w.heap.size) → wpList Try.prog ops Q rest (a.put o.dst v') w') : wpList Try.prog ops Q (o :: rest) a w := by
  obtain ⟨i0, hi, hz0, hz1, hz2⟩ := info_parts infoBool
  refine wpList_append_own2 hgd s x 23 ho base 4 i0 (.bool false) 1 1 Try.underlying23 hi hz0 hz1 hz2 rfl (by decide) v l.length _ hs hown ⟨b, 0, none⟩ 1 1 [.bool y] hx rfl
    (fun j u hu => ?_) (fun u hu => ?_) (by simp only [maxLen]; omega) (by omega) hbase (fun v' w' h1 h2 h3 h5 => h v' w' ?_ ?_ h5)
  · cases j with
    | zero => simp at hu; subst hu; exact hnews
    | succ j => simp at hu
  · simp at hu; subst hu; rfl
  · unfold Flags
    rw [List.length_append, List.map_append]
    exact h1
  · exact (Only.refl _ _).grown h2 (fun k hk => .inl (by rw [hk]; simp))

def p1 (n : Int) : Bool := (fun n => n != 0 && n != 1) n
def p2 (n : Int) : Bool := (fun n => !isWordB n) n
theorem play1_any (n : Int) (w : World) : Calls Try.prog 54 #[.int .i64 n] w (Exact w (.bool (p1 n))) := by
  refine calls_abs fun R hR => ?_
  cases h0 : (n != 0)
  · go_enter Try.func54, Try.ntmps54
    go_wp2_with fail
    exact hR.out _ _ ⟨by simp only [p1, h0]; rfl, rfl⟩
  · go_enter Try.func54, Try.ntmps54
    go_wp2_with fail
    exact hR.out _ _ ⟨by simp only [p1, h0]; rfl, rfl⟩
theorem play2_any (n : Int) (w : World) : Calls Try.prog 56 #[.int .i64 n] w (Exact w (.bool (p2 n))) := by
  refine calls_abs fun R hR => ?_
  go_enter Try.func56, Try.ntmps56
  go_wp2_with fail
  refine (isWord_any _ _).mono ?_
  rintro e _ ⟨rfl, rfl⟩
  go_wp2_with fail
  exact hR.out _ _ ⟨rfl, rfl⟩

theorem any_step {l : List Int} {p : Int → Bool} {k : Nat} (hk : k < l.length) (h : (l.take k).any p = false) (hp : p (gI l k) = false) : (l.take (k + 1)).any p = false := by
  rw [List.take_succ_eq_append_getElem hk, List.any_append, h]
  simp [gI, hk] at hp
  simp [hp]
theorem any_found {l : List Int} {p : Int → Bool} {k : Nat} (hk : k < l.length) (hp : p (gI l k) = true) : l.any p = true := by
  rw [List.any_eq_true]
  refine ⟨l[k], List.getElem_mem _, ?_⟩
  simpa [gI, hk] using hp

theorem indexFunc1_any (w : World) (v : Value) (l : List Int) (hr : Read w v l) (hl : l.length < 1099511627776) :
    Calls Try.prog 59 #[v, .func (.func 54) #[] #[]] w fun e w' => ∃ r : Int, e = .returned (.int .i64 r) ∧ decide (0 ≤ r) = l.any p1 ∧ w = w' := by
  refine calls_abs fun R hR => ?_
  obtain ⟨a, c, e⟩ := hr.len
  subst e
  have HR := Lib.hid hr
  clear hr
  go_enter Try.func59, Try.ntmps59
  go_wp2_with fail
  go_loopw [8] (fun i wr => ∃ k : Nat, k ≤ l.length ∧ i = .int .i64 k ∧ wr = w ∧ Hid ((l.take k).any p1 = false)) (fun i _ => l.length - (intOf i).toNat)
  case atStart => exact ⟨0, by omega, rfl, rfl, rfl⟩
  case round =>
    obtain ⟨k, hk, rfl, rfl, hf⟩ := hrel
    by_cases hlt : k < l.length
    · rcases HR.out with ⟨b, o, d, f1, g1⟩ | ⟨oa, d, f1, g1⟩
      rotate_left
      · rw [g1] at hlt; simp at hlt
      simp only [Value.slice.injEq] at f1
      obtain ⟨rfl, _, rfl⟩ := f1
      have k1 := g1 k hlt
      clear g1
      cases hp : p1 (gI l k)
      · go_wp2_with fail
        refine (play1_any _ _).mono ?_
        rintro e _ ⟨rfl, rfl⟩
        go_wp2_with fail
        exact ⟨⟨k + 1, by omega, by go_num, by trivial, any_step hlt hf.out hp⟩, by simp [intOf]; omega⟩
      · go_wp2_with fail
        refine (play1_any _ _).mono ?_
        rintro e _ ⟨rfl, rfl⟩
        go_wp2_with fail
        exact hR.out _ _ ⟨k, rfl, by rw [any_found hlt hp]; simp, rfl⟩
    · go_wp2_with fail
      refine hR.out _ _ ⟨-1, rfl, ?_, rfl⟩
      have := hf.out
      rw [List.take_of_length_le (by omega)] at this
      rw [this]
      rfl
theorem containsFunc1_any (w : World) (v : Value) (l : List Int) (hr : Read w v l) (hl : l.length < 1099511627776) :
    Calls Try.prog 55 #[v, .func (.func 54) #[] #[]] w (Exact w (.bool (l.any p1))) := by
  refine calls_abs fun R hR => ?_
  go_enter Try.func55, Try.ntmps55
  go_wp2_with fail
  refine (indexFunc1_any _ _ l hr hl).mono ?_
  rintro e _ ⟨r, rfl, h1, rfl⟩
  have H1 := Lib.hid h1
  clear h1
  go_wp2_with fail
  refine hR.out _ _ ⟨?_, rfl⟩
  rw [← H1.out]
  rfl

theorem indexFunc2_any (w : World) (v : Value) (l : List Int) (hr : Read w v l) (hl : l.length < 1099511627776) :
    Calls Try.prog 59 #[v, .func (.func 56) #[] #[]] w fun e w' => ∃ r : Int, e = .returned (.int .i64 r) ∧ decide (0 ≤ r) = l.any p2 ∧ w = w' := by
  refine calls_abs fun R hR => ?_
  obtain ⟨a, c, e⟩ := hr.len
  subst e
  have HR := Lib.hid hr
  clear hr
  go_enter Try.func59, Try.ntmps59
  go_wp2_with fail
  go_loopw [8] (fun i wr => ∃ k : Nat, k ≤ l.length ∧ i = .int .i64 k ∧ wr = w ∧ Hid ((l.take k).any p2 = false)) (fun i _ => l.length - (intOf i).toNat)
  case atStart => exact ⟨0, by omega, rfl, rfl, rfl⟩
  case round =>
    obtain ⟨k, hk, rfl, rfl, hf⟩ := hrel
    by_cases hlt : k < l.length
    · rcases HR.out with ⟨b, o, d, f1, g1⟩ | ⟨oa, d, f1, g1⟩
      rotate_left
      · rw [g1] at hlt; simp at hlt
      simp only [Value.slice.injEq] at f1
      obtain ⟨rfl, _, rfl⟩ := f1
      have k1 := g1 k hlt
      clear g1
      cases hp : p2 (gI l k)
      · go_wp2_with fail
        refine (play2_any _ _).mono ?_
        rintro e _ ⟨rfl, rfl⟩
        go_wp2_with fail
        exact ⟨⟨k + 1, by omega, by go_num, by trivial, any_step hlt hf.out hp⟩, by simp [intOf]; omega⟩
      · go_wp2_with fail
        refine (play2_any _ _).mono ?_
        rintro e _ ⟨rfl, rfl⟩
        go_wp2_with fail
        exact hR.out _ _ ⟨k, rfl, by rw [any_found hlt hp]; simp, rfl⟩
    · go_wp2_with fail
      refine hR.out _ _ ⟨-1, rfl, ?_, rfl⟩
      have := hf.out
      rw [List.take_of_length_le (by omega)] at this
      rw [this]
      rfl
theorem containsFunc2_any (w : World) (v : Value) (l : List Int) (hr : Read w v l) (hl : l.length < 1099511627776) :
    Calls Try.prog 55 #[v, .func (.func 56) #[] #[]] w (Exact w (.bool (l.any p2))) := by
  refine calls_abs fun R hR => ?_
  go_enter Try.func55, Try.ntmps55
  go_wp2_with fail
  refine (indexFunc2_any _ _ l hr hl).mono ?_
  rintro e _ ⟨r, rfl, h1, rfl⟩
  have H1 := Lib.hid h1
  clear h1
  go_wp2_with fail
  refine hR.out _ _ ⟨?_, rfl⟩
  rw [← H1.out]
  rfl

end Go.Proofs.Ytemdkffkpdhciaa
