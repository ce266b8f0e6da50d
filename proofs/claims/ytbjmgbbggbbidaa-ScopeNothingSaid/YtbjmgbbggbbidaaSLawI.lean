/- Law ScopeNothing: the walk (printed by wip/gen/slawi.py). -/
import Derived.Test.YtbjmgbbggbbidaaSLawE
namespace Go.Proofs.Ytbjmgbbggbbidaa
open Go.RowKit Go.Maps
set_option maxHeartbeats 3200000
set_option maxRecDepth 100000
set_option linter.unusedVariables false
theorem copy_nope (w : World) (v : Value) (h : Nope w v) : Calls Try.prog 42 #[v] w (Exact w (.pointer none)) := by
  refine calls_abs fun R hR => ?_
  have hn := none_any w v h
  clear h
  go_enter Try.func42, Try.ntmps42
  go_wp2_with fail
  refine hn.mono ?_
  rintro e _ ⟨rfl, rfl⟩
  go_wp2_with fail
  exact hR.out _ _ ⟨rfl, rfl⟩
theorem same_nope (w : World) (v u : Value) (h : Nope w v) (hu : Nope w u) : Calls Try.prog 23 #[v, u] w (Exact w (.bool true)) := by
  refine calls_abs fun R hR => ?_
  have hn := none_any w v h
  have hm := none_any w u hu
  clear h hu
  go_enter Try.func23, Try.ntmps23
  go_wp2_with fail
  refine hn.mono ?_
  rintro e _ ⟨rfl, rfl⟩
  go_wp2_with fail
  refine hn.mono ?_
  rintro e _ ⟨rfl, rfl⟩
  go_wp2_with fail
  refine hm.mono ?_
  rintro e _ ⟨rfl, rfl⟩
  go_wp2_with fail
  exact hR.out _ _ ⟨rfl, rfl⟩
theorem Nope.only0 {w w' : World} {v : Value} (h : Nope w v) (ho : Only [] w w') : Nope w' v := by
  rcases h with h | ⟨p, h1, h2⟩
  · exact .inl h
  · exact .inr ⟨p, h1, ho.cell h2 (by simp)⟩
theorem walk_ScopeNothing (b0 b1 b2 : Int) (w : World) :
    Calls Try.prog 10 #[.agg #[.int .i64 b0, .int .i64 b1, .int .i64 b2]] w fun e w' => e = .returned (.bool true) ∧ Below w.heap.size w w' := by
  refine calls_abs fun R hR => ?_
  go_enter Try.func10, Try.ntmps10
  go_wp2_with fail
  have hb1 : Row ((w.alloc (.cells #[.int .i64 b0, .int .i64 b1, .int .i64 b2] 53)).alloc (.cells #[.slice none 0 0, .slice none 0 0, .slice none 0 0, .slice none 0 0, .slice none 0 0, .slice none 0 0, .map none, .int .i64 0] 58)) w.heap.size 53 [.int .i64 b0, .int .i64 b1, .int .i64 b2] := (Row.new w _ [_, _, _]).alloc _
  have hb2 : Row ((w.alloc (.cells #[.int .i64 b0, .int .i64 b1, .int .i64 b2] 53)).alloc (.cells #[.slice none 0 0, .slice none 0 0, .slice none 0 0, .slice none 0 0, .slice none 0 0, .slice none 0 0, .map none, .int .i64 0] 58)) (w.heap.size + 1) 58 [.slice none 0 0, .slice none 0 0, .slice none 0 0, .slice none 0 0, .slice none 0 0, .slice none 0 0, .map none, .int .i64 0] := by
    have := Row.new (w.alloc (.cells #[.int .i64 b0, .int .i64 b1, .int .i64 b2] 53)) 58 [.slice none 0 0, .slice none 0 0, .slice none 0 0, .slice none 0 0, .slice none 0 0, .slice none 0 0, .map none, .int .i64 0]
    rw [World.size_alloc] at this
    exact this
  have ho0 : Only [] w ((w.alloc (.cells #[.int .i64 b0, .int .i64 b1, .int .i64 b2] 53)).alloc (.cells #[.slice none 0 0, .slice none 0 0, .slice none 0 0, .slice none 0 0, .slice none 0 0, .slice none 0 0, .map none, .int .i64 0] 58)) := ((Only.refl _ w).alloc _).alloc _
  generalize ((w.alloc (.cells #[.int .i64 b0, .int .i64 b1, .int .i64 b2] 53)).alloc (.cells #[.slice none 0 0, .slice none 0 0, .slice none 0 0, .slice none 0 0, .slice none 0 0, .slice none 0 0, .map none, .int .i64 0] 58)) = wz at *
  have HO0 := Lib.hid ho0
  have HC0 : Hid (wz.cell? ⟨w.heap.size, 0, none⟩ = some (.int .i64 b0)) := hb1.cell 0 rfl
  have HC1 : Hid (wz.cell? ⟨w.heap.size, 1, none⟩ = some (.int .i64 b1)) := hb1.cell 1 rfl
  have HC2 : Hid (wz.cell? ⟨w.heap.size, 2, none⟩ = some (.int .i64 b2)) := hb1.cell 2 rfl
  have HN : Hid (Nope wz (.pointer (some ⟨w.heap.size + 1, 0, none⟩))) := .inr ⟨_, rfl, hb2.cell 6 rfl⟩
  obtain ⟨G, hG⟩ : ∃ G, G = w.heap.size := ⟨_, rfl⟩
  rw [← hG] at HC0 HC1 HC2 HN ⊢
  clear hb1 hb2 ho0 hG
  go_loopw [5] (fun iv wr => ∃ k : Nat, k ≤ 2 ∧ iv = .int .i64 k ∧ Only [] wz wr) (fun iv _ => 2 - (intOf iv).toNat)
  case atStart => exact ⟨0, by omega, rfl, Only.refl _ _⟩
  case round =>
    obtain ⟨k, hk, rfl, ho⟩ := hrel
    have O9 := Lib.hid ho
    clear ho
    match k, hk with
    | 0, _ =>
      have c0 := O9.out.cell HC0.out (by simp)
      have c1 := O9.out.cell HC1.out (by simp)
      have c2 := O9.out.cell HC2.out (by simp)
      have c := do_nope wr (.pointer none) (.inl rfl) b0 b1 b2
      go_wp2_with fail
      refine c.mono ?_
      rintro e w10 ⟨rfl, ho⟩
      have O10 := Lib.hid (O9.out.trans ho (by simp))
      clear c c0 c1 c2 ho
      have c0 := O10.out.cell HC0.out (by simp)
      have c1 := O10.out.cell HC1.out (by simp)
      have c2 := O10.out.cell HC2.out (by simp)
      have c := alloc_nope w10 (.pointer none) (.inl rfl) b1 b2
      go_wp2_with fail
      refine c.mono ?_
      rintro e _ ⟨rfl, rfl⟩
      clear c c0 c1 c2
      have c0 := O10.out.cell HC0.out (by simp)
      have c1 := O10.out.cell HC1.out (by simp)
      have c2 := O10.out.cell HC2.out (by simp)
      have c := current_nope w10 (.pointer none) (.inl rfl) b1
      go_wp2_with fail
      refine c.mono ?_
      rintro e w11 ⟨rfl, hd⟩
      have O11 := Lib.hid (O10.out.trans (hd.only []) (by simp))
      clear c c0 c1 c2 hd
      have c0 := O11.out.cell HC0.out (by simp)
      have c1 := O11.out.cell HC1.out (by simp)
      have c2 := O11.out.cell HC2.out (by simp)
      have c := outerQ_nope w11 (.pointer none) (.inl rfl) b1 b2
      go_wp2_with fail
      refine c.mono ?_
      rintro e w12 ⟨rfl, hd⟩
      have O12 := Lib.hid (O11.out.trans (hd.only []) (by simp))
      clear c c0 c1 c2 hd
      have c0 := O12.out.cell HC0.out (by simp)
      have c1 := O12.out.cell HC1.out (by simp)
      have c2 := O12.out.cell HC2.out (by simp)
      have c := area_nope w12 (.pointer none) (.inl rfl) b1
      go_wp2_with fail
      refine c.mono ?_
      rintro e w13 ⟨rfl, hd⟩
      have O13 := Lib.hid (O12.out.trans (hd.only []) (by simp))
      clear c c0 c1 c2 hd
      have c0 := O13.out.cell HC0.out (by simp)
      have c1 := O13.out.cell HC1.out (by simp)
      have c2 := O13.out.cell HC2.out (by simp)
      have c := enter_nope w13 (.pointer none) (.inl rfl) b1 b2
      go_wp2_with fail
      refine c.mono ?_
      rintro e _ ⟨rfl, rfl⟩
      clear c c0 c1 c2
      have c0 := O13.out.cell HC0.out (by simp)
      have c1 := O13.out.cell HC1.out (by simp)
      have c2 := O13.out.cell HC2.out (by simp)
      have c := refer_nope w13 (.pointer none) (.inl rfl) b1 b2
      go_wp2_with fail
      refine c.mono ?_
      rintro e w14 ⟨rfl, hd⟩
      have O14 := Lib.hid (O13.out.trans (hd.only []) (by simp))
      clear c c0 c1 c2 hd
      have c0 := O14.out.cell HC0.out (by simp)
      have c1 := O14.out.cell HC1.out (by simp)
      have c2 := O14.out.cell HC2.out (by simp)
      have c := copy_nope w14 (.pointer none) (.inl rfl)
      go_wp2_with fail
      refine c.mono ?_
      rintro e _ ⟨rfl, rfl⟩
      clear c c0 c1 c2
      go_wp2_with fail
      exact ⟨⟨1, by omega, by go_num, O14.out⟩, by simp [intOf]⟩
    | 1, _ =>
      have c0 := O9.out.cell HC0.out (by simp)
      have c1 := O9.out.cell HC1.out (by simp)
      have c2 := O9.out.cell HC2.out (by simp)
      have c := do_nope wr (.pointer (some ⟨G + 1, 0, none⟩)) (HN.out.only0 O9.out) b0 b1 b2
      go_wp2_with fail
      refine c.mono ?_
      rintro e w10 ⟨rfl, ho⟩
      have O10 := Lib.hid (O9.out.trans ho (by simp))
      clear c c0 c1 c2 ho
      have c0 := O10.out.cell HC0.out (by simp)
      have c1 := O10.out.cell HC1.out (by simp)
      have c2 := O10.out.cell HC2.out (by simp)
      have c := alloc_nope w10 (.pointer (some ⟨G + 1, 0, none⟩)) (HN.out.only0 O10.out) b1 b2
      go_wp2_with fail
      refine c.mono ?_
      rintro e _ ⟨rfl, rfl⟩
      clear c c0 c1 c2
      have c0 := O10.out.cell HC0.out (by simp)
      have c1 := O10.out.cell HC1.out (by simp)
      have c2 := O10.out.cell HC2.out (by simp)
      have c := current_nope w10 (.pointer (some ⟨G + 1, 0, none⟩)) (HN.out.only0 O10.out) b1
      go_wp2_with fail
      refine c.mono ?_
      rintro e w11 ⟨rfl, hd⟩
      have O11 := Lib.hid (O10.out.trans (hd.only []) (by simp))
      clear c c0 c1 c2 hd
      have c0 := O11.out.cell HC0.out (by simp)
      have c1 := O11.out.cell HC1.out (by simp)
      have c2 := O11.out.cell HC2.out (by simp)
      have c := outerQ_nope w11 (.pointer (some ⟨G + 1, 0, none⟩)) (HN.out.only0 O11.out) b1 b2
      go_wp2_with fail
      refine c.mono ?_
      rintro e w12 ⟨rfl, hd⟩
      have O12 := Lib.hid (O11.out.trans (hd.only []) (by simp))
      clear c c0 c1 c2 hd
      have c0 := O12.out.cell HC0.out (by simp)
      have c1 := O12.out.cell HC1.out (by simp)
      have c2 := O12.out.cell HC2.out (by simp)
      have c := area_nope w12 (.pointer (some ⟨G + 1, 0, none⟩)) (HN.out.only0 O12.out) b1
      go_wp2_with fail
      refine c.mono ?_
      rintro e w13 ⟨rfl, hd⟩
      have O13 := Lib.hid (O12.out.trans (hd.only []) (by simp))
      clear c c0 c1 c2 hd
      have c0 := O13.out.cell HC0.out (by simp)
      have c1 := O13.out.cell HC1.out (by simp)
      have c2 := O13.out.cell HC2.out (by simp)
      have c := enter_nope w13 (.pointer (some ⟨G + 1, 0, none⟩)) (HN.out.only0 O13.out) b1 b2
      go_wp2_with fail
      refine c.mono ?_
      rintro e _ ⟨rfl, rfl⟩
      clear c c0 c1 c2
      have c0 := O13.out.cell HC0.out (by simp)
      have c1 := O13.out.cell HC1.out (by simp)
      have c2 := O13.out.cell HC2.out (by simp)
      have c := refer_nope w13 (.pointer (some ⟨G + 1, 0, none⟩)) (HN.out.only0 O13.out) b1 b2
      go_wp2_with fail
      refine c.mono ?_
      rintro e w14 ⟨rfl, hd⟩
      have O14 := Lib.hid (O13.out.trans (hd.only []) (by simp))
      clear c c0 c1 c2 hd
      have c0 := O14.out.cell HC0.out (by simp)
      have c1 := O14.out.cell HC1.out (by simp)
      have c2 := O14.out.cell HC2.out (by simp)
      have c := copy_nope w14 (.pointer (some ⟨G + 1, 0, none⟩)) (HN.out.only0 O14.out)
      go_wp2_with fail
      refine c.mono ?_
      rintro e _ ⟨rfl, rfl⟩
      clear c c0 c1 c2
      go_wp2_with fail
      exact ⟨⟨2, by omega, by go_num, O14.out⟩, by simp [intOf]⟩
    | 2, _ =>
      have c := same_nope wr (.pointer none) (.pointer none) (.inl rfl) (.inl rfl)
      go_wp2_with fail
      refine c.mono ?_
      rintro e _ ⟨rfl, rfl⟩
      clear c
      have c3 := sane_any wr
      go_wp2_with fail
      refine c3.mono ?_
      rintro e w5 ⟨rfl, ho⟩
      have HO5 := Lib.hid ((HO0.out.trans O9.out (by simp)).trans ho (by simp))
      clear c3 ho
      go_wp2_with fail
      exact hR.out _ _ ⟨rfl, HO5.out.bel⟩
end Go.Proofs.Ytbjmgbbggbbidaa
