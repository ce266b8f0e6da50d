/- Lemmas of this claim. -/
import Derived.Test.YtkacgbigeobncaaGreatTaCdA
namespace Go.Proofs.YtkacgbigeobncaaGreat
open Go.RowKit Go.Maps
set_option maxHeartbeats 3200000
set_option maxRecDepth 100000
set_option linter.unusedVariables false
set_option linter.unusedSimpArgs false
theorem opens_any (w : World) (op : Int) : Calls Tryz.prog 58 #[.int .i64 op] w (Exact w (.bool (opens op))) := by
  refine calls_abs fun R hR => ?_
  have H : Hid (∀ b, b = opens op → R (.returned (.bool b)) w) := fun b hb => hR.out _ _ ⟨by rw [hb], rfl⟩
  go_enter Tryz.func58, Tryz.ntmps58
  go_wp2_with fail
  all_goals (refine H.out _ ?_; simp_all [opens])
theorem cell_alloc (w : World) (T : Array Value) (ty : TypeId) (j : Nat) (v : Value) (h : T[j]? = some v) : (w.alloc (.cells T ty)).cell? ⟨w.heap.size, j, none⟩ = some v := by
  simp only [World.cell?]
  rw [heap_alloc_new]
  simpa using h
theorem results_row_tmp {P : Program} {fn : Func} {p u : Tmp} {ty : TypeId} (h : fn.results = #[.cell p ty, .tmp u]) (tmps : Array Value) (w : World) (g : Nat) (t : TypeId) (cs : Array Value) (fr : Nat × Nat) (d : TypeDesc)
    (hp : tmps.getD p undef = .pointer (some ⟨g, 0, none⟩)) (hg : w.heap[g]? = some (.cells cs t fr))
    (hu : P.underlying ty = some d) (hd : (match d with | .struct _ | .array _ _ => true | _ => false) = true) (hi : (P.info? ty).map (·.size) = some cs.size) :
    (results fn tmps).run P w = .ok (.tuple #[.agg cs, tmps.getD u undef]) w := by
  rw [results_cell_tmp h, hp]
  simp [asAddr, run_loadVar_row w g t ty cs fr d hg hu hd hi, Result.andThen]
theorem known_yes (w : World) (op : Nat) (ho : op < 36) : Calls Tryz.prog 124 #[.int .i64 op] w fun e w' => Only [] w w' ∧ ∃ s, e = .returned (.tuple #[.agg #[.string s, .int .i64 (spec op).1, .int .i64 (spec op).2.1, .int .i64 (spec op).2.2], .bool true]) := by
  refine calls_abs fun R hR => ?_
  have c := fun w => table_any w
  go_enter Tryz.func124, Tryz.ntmps124
  go_wp2_with fail
  refine (c _).mono ?_
  rintro e w1 ⟨ho1, T, rfl, hT⟩
  have hz := hT.sz
  have hst := hT.store
  obtain ⟨s, t0, t1, t2, t3⟩ := hT.row op ho
  have hr := ho1.row (Row.new w 231 [.string { data := #[] }, .int .i64 0, .int .i64 0, .int .i64 0]) (by simp)
  have k0 := cell_alloc w1 T 266 _ _ t0
  have k1 := cell_alloc w1 T 266 _ _ t1
  have k2 := cell_alloc w1 T 266 _ _ t2
  have k3 := cell_alloc w1 T 266 _ _ t3
  have hr2 := hr.alloc (.cells T 266)
  have m0 := hr2.cell 0 rfl
  have m1 := hr2.cell 1 rfl
  have m2 := hr2.cell 2 rfl
  have m3 := hr2.cell 3 rfl
  have n0 := hr2.free 0
  have n1 := hr2.free 1
  have n2 := hr2.free 2
  have n3 := hr2.free 3
  have q0 : ¬ ((op : Int) < 0) := by omega
  have q1 : ¬ (36 ≤ (op : Int)) := by omega
  clear t0 t1 t2 t3 c
  go_wp2_with fail
  refine bodyPost_ret (results_row_tmp rfl _ _ w.heap.size 231 _ (0, 0) _ rfl ((((hr2.set 0 _).set 1 _).set 2 _).set 3 _) Tryz.underlying231 rfl (by kernel_rfl)) rfl ?_
  refine hR.out _ _ ⟨?_, s, rfl⟩
  exact (((((((Only.refl [] w).alloc _).trans ho1 (by simp)).alloc _).set (p := ⟨w.heap.size, 0, none⟩) (.inr (Nat.le_refl _)) _).set (p := ⟨w.heap.size, 1, none⟩) (.inr (Nat.le_refl _)) _).set (p := ⟨w.heap.size, 2, none⟩) (.inr (Nat.le_refl _)) _).set (p := ⟨w.heap.size, 3, none⟩) (.inr (Nat.le_refl _)) _
theorem known_no (w : World) (op : Int) (ho : op < 0 ∨ 36 ≤ op) : Calls Tryz.prog 124 #[.int .i64 op] w fun e w' => Only [] w w' ∧ ∃ s a b c, e = .returned (.tuple #[.agg #[.string s, .int .i64 a, .int .i64 b, .int .i64 c], .bool false]) := by
  refine calls_abs fun R hR => ?_
  have c := fun w => table_any w
  go_enter Tryz.func124, Tryz.ntmps124
  go_wp2_with fail
  refine (c _).mono ?_
  rintro e w1 ⟨ho1, T, rfl, hT⟩
  have hz := hT.sz
  have hst := hT.store
  have hr := ho1.row (Row.new w 231 [.string { data := #[] }, .int .i64 0, .int .i64 0, .int .i64 0]) (by simp)
  have hr2 := hr.alloc (.cells T 266)
  have m0 := hr2.cell 0 rfl
  have m1 := hr2.cell 1 rfl
  have m2 := hr2.cell 2 rfl
  have m3 := hr2.cell 3 rfl
  have n0 := hr2.free 0
  have n1 := hr2.free 1
  have n2 := hr2.free 2
  have n3 := hr2.free 3
  clear c
  have q : op < 0 ∨ (¬ op < 0 ∧ 36 ≤ op) := by omega
  clear ho
  rcases q with q0 | ⟨q0, q1⟩
  all_goals
    go_wp2_with fail
    refine bodyPost_ret (results_row_tmp rfl _ _ w.heap.size 231 _ (0, 0) _ rfl ((((hr2.set 0 _).set 1 _).set 2 _).set 3 _) Tryz.underlying231 rfl (by kernel_rfl)) rfl ?_
    refine hR.out _ _ ⟨?_, _, _, _, _, rfl⟩
    exact (((((((Only.refl [] w).alloc _).trans ho1 (by simp)).alloc _).set (p := ⟨w.heap.size, 0, none⟩) (.inr (Nat.le_refl _)) _).set (p := ⟨w.heap.size, 1, none⟩) (.inr (Nat.le_refl _)) _).set (p := ⟨w.heap.size, 2, none⟩) (.inr (Nat.le_refl _)) _).set (p := ⟨w.heap.size, 3, none⟩) (.inr (Nat.le_refl _)) _
theorem most_any (w : World) (r : Nat) (h : r < 15) : Calls Tryz.prog 192 #[.int .i64 r] w (Exact w (.int .i64 (mostR r))) := by
  refine calls_abs fun R hR => ?_
  have hx : ∀ (cs : Array Value) (k : Nat) (v : Value), cs[k]? = some v → k < 15 → ∀ w, (Instr.index 293 (.agg cs) (.int .i64 k)).run Tryz.prog w = .ok v w := fun cs k v hv hk w =>
    run_index_agg w 293 3 15 cs k v Tryz.underlying293 _ Tryz.underlying3 rfl (by kernel_rfl) hk hv
  match r, h with
  | 0, _ =>
    have hy : ∀ w, (Instr.index 293 (.agg #[.int .i64 0, .int .i64 0, .int .i64 9, .int .i64 4, .int .i64 9, .int .i64 48, .int .i64 6, .int .i64 9, .int .i64 15, .int .i64 15, .int .i64 3, .int .i64 9, .int .i64 50, .int .i64 5, .int .i64 24]) (.int .i64 0)).run Tryz.prog w = .ok (.int .i64 0) w := fun w => hx _ 0 _ rfl (by decide) w
    clear hx
    go_enter Tryz.func192, Tryz.ntmps192
    go_wp2_with fail
    exact hR.out _ _ ⟨rfl, rfl⟩
  | 1, _ =>
    have hy : ∀ w, (Instr.index 293 (.agg #[.int .i64 0, .int .i64 0, .int .i64 9, .int .i64 4, .int .i64 9, .int .i64 48, .int .i64 6, .int .i64 9, .int .i64 15, .int .i64 15, .int .i64 3, .int .i64 9, .int .i64 50, .int .i64 5, .int .i64 24]) (.int .i64 1)).run Tryz.prog w = .ok (.int .i64 0) w := fun w => hx _ 1 _ rfl (by decide) w
    clear hx
    go_enter Tryz.func192, Tryz.ntmps192
    go_wp2_with fail
    exact hR.out _ _ ⟨rfl, rfl⟩
  | 2, _ =>
    have hy : ∀ w, (Instr.index 293 (.agg #[.int .i64 0, .int .i64 0, .int .i64 9, .int .i64 4, .int .i64 9, .int .i64 48, .int .i64 6, .int .i64 9, .int .i64 15, .int .i64 15, .int .i64 3, .int .i64 9, .int .i64 50, .int .i64 5, .int .i64 24]) (.int .i64 2)).run Tryz.prog w = .ok (.int .i64 9) w := fun w => hx _ 2 _ rfl (by decide) w
    clear hx
    go_enter Tryz.func192, Tryz.ntmps192
    go_wp2_with fail
    exact hR.out _ _ ⟨rfl, rfl⟩
  | 3, _ =>
    have hy : ∀ w, (Instr.index 293 (.agg #[.int .i64 0, .int .i64 0, .int .i64 9, .int .i64 4, .int .i64 9, .int .i64 48, .int .i64 6, .int .i64 9, .int .i64 15, .int .i64 15, .int .i64 3, .int .i64 9, .int .i64 50, .int .i64 5, .int .i64 24]) (.int .i64 3)).run Tryz.prog w = .ok (.int .i64 4) w := fun w => hx _ 3 _ rfl (by decide) w
    clear hx
    go_enter Tryz.func192, Tryz.ntmps192
    go_wp2_with fail
    exact hR.out _ _ ⟨rfl, rfl⟩
  | 4, _ =>
    have hy : ∀ w, (Instr.index 293 (.agg #[.int .i64 0, .int .i64 0, .int .i64 9, .int .i64 4, .int .i64 9, .int .i64 48, .int .i64 6, .int .i64 9, .int .i64 15, .int .i64 15, .int .i64 3, .int .i64 9, .int .i64 50, .int .i64 5, .int .i64 24]) (.int .i64 4)).run Tryz.prog w = .ok (.int .i64 9) w := fun w => hx _ 4 _ rfl (by decide) w
    clear hx
    go_enter Tryz.func192, Tryz.ntmps192
    go_wp2_with fail
    exact hR.out _ _ ⟨rfl, rfl⟩
  | 5, _ =>
    have hy : ∀ w, (Instr.index 293 (.agg #[.int .i64 0, .int .i64 0, .int .i64 9, .int .i64 4, .int .i64 9, .int .i64 48, .int .i64 6, .int .i64 9, .int .i64 15, .int .i64 15, .int .i64 3, .int .i64 9, .int .i64 50, .int .i64 5, .int .i64 24]) (.int .i64 5)).run Tryz.prog w = .ok (.int .i64 48) w := fun w => hx _ 5 _ rfl (by decide) w
    clear hx
    go_enter Tryz.func192, Tryz.ntmps192
    go_wp2_with fail
    exact hR.out _ _ ⟨rfl, rfl⟩
  | 6, _ =>
    have hy : ∀ w, (Instr.index 293 (.agg #[.int .i64 0, .int .i64 0, .int .i64 9, .int .i64 4, .int .i64 9, .int .i64 48, .int .i64 6, .int .i64 9, .int .i64 15, .int .i64 15, .int .i64 3, .int .i64 9, .int .i64 50, .int .i64 5, .int .i64 24]) (.int .i64 6)).run Tryz.prog w = .ok (.int .i64 6) w := fun w => hx _ 6 _ rfl (by decide) w
    clear hx
    go_enter Tryz.func192, Tryz.ntmps192
    go_wp2_with fail
    exact hR.out _ _ ⟨rfl, rfl⟩
  | 7, _ =>
    have hy : ∀ w, (Instr.index 293 (.agg #[.int .i64 0, .int .i64 0, .int .i64 9, .int .i64 4, .int .i64 9, .int .i64 48, .int .i64 6, .int .i64 9, .int .i64 15, .int .i64 15, .int .i64 3, .int .i64 9, .int .i64 50, .int .i64 5, .int .i64 24]) (.int .i64 7)).run Tryz.prog w = .ok (.int .i64 9) w := fun w => hx _ 7 _ rfl (by decide) w
    clear hx
    go_enter Tryz.func192, Tryz.ntmps192
    go_wp2_with fail
    exact hR.out _ _ ⟨rfl, rfl⟩
  | 8, _ =>
    have hy : ∀ w, (Instr.index 293 (.agg #[.int .i64 0, .int .i64 0, .int .i64 9, .int .i64 4, .int .i64 9, .int .i64 48, .int .i64 6, .int .i64 9, .int .i64 15, .int .i64 15, .int .i64 3, .int .i64 9, .int .i64 50, .int .i64 5, .int .i64 24]) (.int .i64 8)).run Tryz.prog w = .ok (.int .i64 15) w := fun w => hx _ 8 _ rfl (by decide) w
    clear hx
    go_enter Tryz.func192, Tryz.ntmps192
    go_wp2_with fail
    exact hR.out _ _ ⟨rfl, rfl⟩
  | 9, _ =>
    have hy : ∀ w, (Instr.index 293 (.agg #[.int .i64 0, .int .i64 0, .int .i64 9, .int .i64 4, .int .i64 9, .int .i64 48, .int .i64 6, .int .i64 9, .int .i64 15, .int .i64 15, .int .i64 3, .int .i64 9, .int .i64 50, .int .i64 5, .int .i64 24]) (.int .i64 9)).run Tryz.prog w = .ok (.int .i64 15) w := fun w => hx _ 9 _ rfl (by decide) w
    clear hx
    go_enter Tryz.func192, Tryz.ntmps192
    go_wp2_with fail
    exact hR.out _ _ ⟨rfl, rfl⟩
  | 10, _ =>
    have hy : ∀ w, (Instr.index 293 (.agg #[.int .i64 0, .int .i64 0, .int .i64 9, .int .i64 4, .int .i64 9, .int .i64 48, .int .i64 6, .int .i64 9, .int .i64 15, .int .i64 15, .int .i64 3, .int .i64 9, .int .i64 50, .int .i64 5, .int .i64 24]) (.int .i64 10)).run Tryz.prog w = .ok (.int .i64 3) w := fun w => hx _ 10 _ rfl (by decide) w
    clear hx
    go_enter Tryz.func192, Tryz.ntmps192
    go_wp2_with fail
    exact hR.out _ _ ⟨rfl, rfl⟩
  | 11, _ =>
    have hy : ∀ w, (Instr.index 293 (.agg #[.int .i64 0, .int .i64 0, .int .i64 9, .int .i64 4, .int .i64 9, .int .i64 48, .int .i64 6, .int .i64 9, .int .i64 15, .int .i64 15, .int .i64 3, .int .i64 9, .int .i64 50, .int .i64 5, .int .i64 24]) (.int .i64 11)).run Tryz.prog w = .ok (.int .i64 9) w := fun w => hx _ 11 _ rfl (by decide) w
    clear hx
    go_enter Tryz.func192, Tryz.ntmps192
    go_wp2_with fail
    exact hR.out _ _ ⟨rfl, rfl⟩
  | 12, _ =>
    have hy : ∀ w, (Instr.index 293 (.agg #[.int .i64 0, .int .i64 0, .int .i64 9, .int .i64 4, .int .i64 9, .int .i64 48, .int .i64 6, .int .i64 9, .int .i64 15, .int .i64 15, .int .i64 3, .int .i64 9, .int .i64 50, .int .i64 5, .int .i64 24]) (.int .i64 12)).run Tryz.prog w = .ok (.int .i64 50) w := fun w => hx _ 12 _ rfl (by decide) w
    clear hx
    go_enter Tryz.func192, Tryz.ntmps192
    go_wp2_with fail
    exact hR.out _ _ ⟨rfl, rfl⟩
  | 13, _ =>
    have hy : ∀ w, (Instr.index 293 (.agg #[.int .i64 0, .int .i64 0, .int .i64 9, .int .i64 4, .int .i64 9, .int .i64 48, .int .i64 6, .int .i64 9, .int .i64 15, .int .i64 15, .int .i64 3, .int .i64 9, .int .i64 50, .int .i64 5, .int .i64 24]) (.int .i64 13)).run Tryz.prog w = .ok (.int .i64 5) w := fun w => hx _ 13 _ rfl (by decide) w
    clear hx
    go_enter Tryz.func192, Tryz.ntmps192
    go_wp2_with fail
    exact hR.out _ _ ⟨rfl, rfl⟩
  | 14, _ =>
    have hy : ∀ w, (Instr.index 293 (.agg #[.int .i64 0, .int .i64 0, .int .i64 9, .int .i64 4, .int .i64 9, .int .i64 48, .int .i64 6, .int .i64 9, .int .i64 15, .int .i64 15, .int .i64 3, .int .i64 9, .int .i64 50, .int .i64 5, .int .i64 24]) (.int .i64 14)).run Tryz.prog w = .ok (.int .i64 24) w := fun w => hx _ 14 _ rfl (by decide) w
    clear hx
    go_enter Tryz.func192, Tryz.ntmps192
    go_wp2_with fail
    exact hR.out _ _ ⟨rfl, rfl⟩
  | r + 15, h => omega
theorem in_any (w : World) (n : Int) (r : Nat) (hr : r < 15) : Calls Tryz.prog 173 #[.int .i64 n, .int .i64 r, .bool false] w (Exact w (.bool (inR n r))) := by
  refine calls_abs fun R hR => ?_
  have c := fun w => most_any w r hr
  have c14 := fun w => most_any w 14 (by decide)
  have H : Hid (∀ b, b = inR n r → R (.returned (.bool b)) w) := fun b hb => hR.out _ _ ⟨by rw [hb], rfl⟩
  have hm := Lib.hid (show mostR ((14 : Nat) : Int) = 24 by decide)
  by_cases h1 : (r : Int) = 1
  · have HI := Lib.hid (show inR n r = (decide (-2147483648 ≤ n) && decide (n ≤ 2147483647)) by unfold inR; rw [if_pos h1])
    clear hR
    go_enter Tryz.func173, Tryz.ntmps173
    go_wp2_with fail
    all_goals (refine H.out _ ?_; rw [HI.out]; first | (simp_all; done) | (simp_all; omega) | rfl)
  by_cases h3 : (r : Int) = 3
  · have HI := Lib.hid (show inR n r = (decide (2 ≤ n) && decide (n ≤ 4)) by unfold inR; rw [if_neg h1, if_pos h3])
    clear hR
    go_enter Tryz.func173, Tryz.ntmps173
    go_wp2_with fail
    all_goals (refine H.out _ ?_; rw [HI.out]; first | (simp_all; done) | (simp_all; omega) | rfl)
  by_cases h14 : (r : Int) = 14
  · have HI := Lib.hid (show inR n r = (decide (1 ≤ n) && decide (n ≤ 24)) by unfold inR; rw [if_neg h1, if_neg h3, if_pos h14])
    clear hR c
    by_cases hn : 1 ≤ n
    · go_enter Tryz.func173, Tryz.ntmps173
      go_wp2_with fail
      refine (c14 _).mono ?_
      rintro e _ ⟨rfl, rfl⟩
      rw [hm.out]
      go_wp2_with fail
      all_goals (refine H.out _ ?_; rw [HI.out]; first | (simp_all; done) | (simp_all; omega) | rfl)
    · go_enter Tryz.func173, Tryz.ntmps173
      go_wp2_with fail
      all_goals (refine H.out _ ?_; rw [HI.out]; first | (simp_all; done) | (simp_all; omega) | rfl)
  have HI := Lib.hid (show inR n r = (decide (0 ≤ n) && decide (n ≤ mostR r)) by unfold inR; rw [if_neg h1, if_neg h3, if_neg h14])
  clear hR c14
  generalize mostR r = mr at *
  by_cases hn : 0 ≤ n
  · go_enter Tryz.func173, Tryz.ntmps173
    go_wp2_with fail
    refine (c _).mono ?_
    rintro e _ ⟨rfl, rfl⟩
    go_wp2_with fail
    all_goals (refine H.out _ ?_; rw [HI.out]; first | (simp_all; done) | (simp_all; omega) | rfl)
  · go_enter Tryz.func173, Tryz.ntmps173
    go_wp2_with fail
    all_goals (refine H.out _ ?_; rw [HI.out]; first | (simp_all; done) | (simp_all; omega) | rfl)
end Go.Proofs.YtkacgbigeobncaaGreat
