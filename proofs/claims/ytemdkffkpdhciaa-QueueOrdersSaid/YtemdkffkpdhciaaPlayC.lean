/- Play of the program: the loop. -/
import Derived.Test.YtemdkffkpdhciaaPlayB
namespace Go.Proofs.Ytemdkffkpdhciaa
open Go.RowKit
set_option maxHeartbeats 1600000
set_option maxRecDepth 100000
set_option linter.unusedVariables false

theorem foldl_succ {l : List Int} {k : Nat} (h : k < l.length) (σ : PSt) : (l.take (k + 1)).foldl PSt.step σ = ((l.take k).foldl PSt.step σ).step (gI l k) := by
  rw [List.take_succ_eq_append_getElem h, List.foldl_append]
  simp [gI, h]
theorem p1_false {n : Int} (h : p1 n = false) : n = 0 ∨ n = 1 := by
  simp [p1] at h
  omega
theorem any_false_at {l : List Int} {p : Int → Bool} (h : l.any p = false) {k : Nat} (hk : k < l.length) : p (gI l k) = false := by
  rw [List.any_eq_false] at h
  have := h l[k] (List.getElem_mem _)
  simpa [gI, hk] using this

theorem PRel.to {w wr : World} {q c : Nat} {pv v8 v9 : Value} {σ σ' : PSt} (h : PRel w wr q c pv v8 v9 σ) (e : σ' = σ) : PRel w wr q c pv v8 v9 σ' := by rw [e]; exact h
theorem PRel.tk {w wr : World} {q c : Nat} {pv v8 v9 : Value} {σ σ' : PSt} {t : Nat} (h : PRel w wr q c pv v8 v9 σ) (e : σ' = { σ with takes := t }) : PRel w wr q c pv v8 v9 σ' := by
  rw [e]
  exact ⟨h.hq, h.ok, h.hpv, h.pvb, h.pc, h.f8, h.f9, h.d8, h.d9, h.d89, h.bq, h.bc, h.o⟩
/-- How the slots of Play's loop stand, and what they stand for. -/
def PAt (w wr : World) (q c k : Nat) (σ : PSt) (s1 s2 s8 s9 : Value) : Prop :=
  ∃ cp a1, s1 = .slice a1 σ.puts.length cp ∧ s2 = .int .i64 σ.takes ∧ PRel w wr q c s1 s8 s9 σ ∧ σ.put.length ≤ k ∧ σ.taken.length ≤ k ∧ σ.takes ≤ 40 ∧ σ.puts.length ≤ 40

theorem play_yes (w : World) (n : Nat) (takes : Nat) (v1 v3 : Value) (puts sched : List Int) (h1 : Read w v1 puts) (h3 : Read w v3 sched) (hb1 : ∀ k, v1.ownBlock = some k → k < w.heap.size) (hc1 : ∀ a m c', v1 = .slice a m c' → m ≤ c') (hn1 : 1 ≤ n) (hn8 : n ≤ 8)
    (ht4 : takes ≤ 40) (hp : puts.any p2 = false) (hq : sched.any p1 = false) (hl1 : puts.length ≤ 40) (hl3 : sched.length ≤ 300) :
    Calls Try.prog 27 #[.int .i64 n, v1, .int .i64 takes, v3] w fun e w' => ∃ u1 u2, e = .returned (.tuple #[u1, u2, .int .i64 0]) ∧
      Flags w' w.heap.size u1 (sched.foldl PSt.step ⟨QSt.new n, puts, takes, [], []⟩).put ∧ Ints w' w.heap.size u2 (sched.foldl PSt.step ⟨QSt.new n, puts, takes, [], []⟩).taken ∧ Only [] w w' := by
  refine calls_abs fun R hR => ?_
  obtain ⟨a1, c1, e1⟩ := h1.len
  obtain ⟨a3, c3, e3⟩ := h3.len
  subst e1
  subst e3
  have H1 := Lib.hid h1
  have H3 := Lib.hid h3
  have HP := Lib.hid hp
  have HQ := Lib.hid hq
  have HB1 := Lib.hid hb1
  have HC1 := Lib.hid hc1
  clear h1 h3 hp hq hb1 hc1
  go_enter Try.func27, Try.ntmps27
  go_wp2_with fail
  refine (new_yes w n hn1 hn8).mono ?_
  rintro e w2 ⟨q, c, rfl, h2, o2, b2, b3⟩
  go_wp2_with fail
  have hcc := containsFunc2_any w2 _ _ (H1.out.only o2 (by simp)) (by omega)
  rw [HP.out] at hcc
  refine hcc.mono ?_
  rintro e _ ⟨rfl, rfl⟩
  clear hcc
  go_wp2_with fail
  have hcc := containsFunc1_any w2 _ _ (H3.out.only o2 (by simp)) (by omega)
  rw [HQ.out] at hcc
  refine hcc.mono ?_
  rintro e _ ⟨rfl, rfl⟩
  clear hcc
  have hinit : PAt w w2 q c 0 ⟨QSt.new n, puts, takes, [], []⟩ (.slice a1 puts.length c1) (.int .i64 takes) (.slice none 0 0) (.slice none 0 0) :=
    ⟨c1, a1, rfl, rfl, ⟨h2, QSt.new_ok n hn1 hn8, H1.out.only o2 (by simp), HB1.out, HC1.out, Flags.nil _ _, Ints.nil _ _, by simp [Value.ownBlock], by simp [Value.ownBlock], by simp [Value.ownBlock], b2, b3, o2⟩, by simp, by simp, ht4, hl1⟩
  clear h2 o2 b2 b3
  go_wp2_with fail
  go_loopw [1, 2, 8, 9, 59] (fun s1 s2 s8 s9 i wr => ∃ (k : Nat) (σ : PSt), k ≤ sched.length ∧ i = .int .i64 k ∧ Hid ((sched.take k).foldl PSt.step ⟨QSt.new n, puts, takes, [], []⟩ = σ) ∧ PAt w wr q c k σ s1 s2 s8 s9) (fun _ _ _ _ i _ => sched.length - (intOf i).toNat)
  case atStart => exact ⟨0, _, by omega, rfl, rfl, hinit⟩
  case round =>
    clear hinit
    obtain ⟨k, σ, hk, rfl, hσ, cp, av, rfl, rfl, hr, hl8, hl9, ht40, hp40⟩ := hrel
    by_cases hlt : k < sched.length
    · have hsc := H3.out.only hr.o (by simp)
      rcases hsc with ⟨b3, o3, d3, f3, g3⟩ | ⟨oa, d3, f3, g3⟩
      rotate_left
      · rw [g3] at hlt; simp at hlt
      simp only [Value.slice.injEq] at f3
      obtain ⟨rfl, hzz, rfl⟩ := f3
      clear hzz
      have k3 := g3 k hlt
      clear g3
      have hnx : Hid ((sched.take (k + 1)).foldl PSt.step ⟨QSt.new n, puts, takes, [], []⟩ = σ.step (gI sched k)) := by
        show _ = _
        rw [foldl_succ hlt, hσ.out]
      rcases p1_false (any_false_at HQ.out hlt) with hx | hx
      · have HX := Lib.hid hx
        rw [hx] at k3
        clear hx
        by_cases hpt : σ.q.put = 0
        · have hb0 : ((σ.q.put : Int) != 0) = false := by rw [hpt]; rfl
          have HPT := Lib.hid hpt
          clear hpt
          obtain hps | ⟨y, ys, hps⟩ : σ.puts = [] ∨ ∃ y ys, σ.puts = y :: ys := by
            rcases σ.puts with _ | ⟨y, ys⟩
            · exact .inl rfl
            · exact .inr ⟨y, ys, rfl⟩
          · have e1 : Hid (σ.step (gI sched k) = σ) := by show _ = _; unfold PSt.step; rw [if_pos HX.out, if_pos HPT.out, hps]
            have hl0 : σ.puts.length = 0 := by rw [hps]; rfl
            rw [hl0] at hr
            have HR := Lib.hid hr
            have HPS := Lib.hid hps
            rw [hl0]
            clear hps hr hl0
            go_wp2_with fail
            refine (busy_rep _ _ _ _ HR.out.hq HR.out.ok).mono ?_
            rintro e _ ⟨rfl, n1, rfl⟩
            go_wp2_with fail
            refine ⟨⟨k + 1, σ, by omega, by go_num, (by show _ = _; rw [hnx.out, e1.out]), cp, av, (by rw [HPS.out]; rfl), rfl, HR.out.drewN _, by omega, by omega, ht40, (by rw [HPS.out]; simp)⟩, by simp [intOf]; omega⟩
          · have e1 : Hid (σ.step (gI sched k) = PSt.putStep { σ with q := (σ.q.beginPut y).2, puts := ys }) := by show _ = _; unfold PSt.step; rw [if_pos HX.out, if_pos HPT.out, hps]
            have hyl : σ.puts.length = ys.length + 1 := by rw [hps]; rfl
            rw [hyl] at hr hp40
            rcases hr.hpv with ⟨b1, o1, d1, f1, g1⟩ | ⟨oa, d1, f1, g1⟩
            rotate_left
            · rw [hps] at g1; cases g1
            simp only [Value.slice.injEq] at f1
            obtain ⟨rfl, hzz, rfl⟩ := f1
            clear hzz
            have ky := g1 0 (by rw [hps]; simp)
            rw [show gI σ.puts 0 = y by rw [hps]; rfl, Nat.add_zero] at ky
            clear g1
            have hcp := hr.pc _ _ _ rfl
            have htl := hr.tail hps
            have HPS := Lib.hid hps
            rw [hyl]
            clear hps hyl
            by_cases hc1 : cp = 1
            · rw [if_pos hc1] at htl
              have HC := Lib.hid hc1
              have HR := Lib.hid htl
              clear htl hcp
              subst hc1
              go_wp2_with fail
              refine (busy_rep _ _ _ _ hr.hq hr.ok).mono ?_
              rintro e _ ⟨rfl, n1, rfl⟩
              clear hr
              go_wp2_with fail
              refine (beginPut_rep _ _ _ _ (HR.out.drewN _).hq HR.out.ok y).mono ?_
              rintro e w4 ⟨rfl, g4, o4⟩
              have r4 := (HR.out.drewN _).step g4 (HR.out.ok.beginPut y).1 (o4.mono (by simp))
              clear HR g4 o4
              obtain ⟨σ4, hσ4⟩ : ∃ σ4 : PSt, σ4 = ({ σ with q := (σ.q.beginPut y).2, puts := ys } : PSt) := ⟨_, rfl⟩
              rw [← hσ4] at e1
              have r4 := r4.to hσ4
              have a4 : σ4.puts = ys := by rw [hσ4]
              have a4t : Hid (σ4.takes = σ.takes) := by show _ = _; rw [hσ4]
              have hl8 : σ4.put.length ≤ k := by rw [hσ4]; exact hl8
              have hl9 : σ4.taken.length ≤ k := by rw [hσ4]; exact hl9
              have ht40 : σ4.takes ≤ 40 := by rw [a4t.out]; exact ht40
              have hp40 : σ4.puts.length ≤ 40 := by rw [a4]; omega
              have HR := Lib.hid r4
              clear r4 hσ4
              rw [← a4t.out]
              subst a4
              go_wp2_with fail
              refine (stepPut_rep _ _ _ _ HR.out.hq HR.out.ok).mono ?_
              rintro e w5 ⟨rfl, g5, o5⟩
              have r5 := HR.out.step g5 HR.out.ok.stepPut.1 o5
              clear g5 o5
              cases hd : σ4.q.stepPut.1
              · have e2 : Hid (PSt.putStep σ4 = { σ4 with q := σ4.q.stepPut.2.2.2 }) := by show _ = _; unfold PSt.putStep; rw [hd]; rfl
                have R5 := Lib.hid r5
                clear r5
                go_wp2_with fail
                exact ⟨⟨k + 1, { σ4 with q := σ4.q.stepPut.2.2.2 }, by omega, by go_num, (by show _ = _; rw [hnx.out, e1.out, e2.out]), _, _, rfl, rfl, R5.out, by simp; omega, by simp; omega, by simp; omega, by simp; omega⟩, by simp [intOf]; omega⟩
              · have e2 : Hid (PSt.putStep σ4 = { σ4 with q := σ4.q.stepPut.2.2.2, put := σ4.put ++ [σ4.q.stepPut.2.1] }) := by show _ = _; unfold PSt.putStep; rw [hd]; rfl
                have f8 := r5.f8
                have R5 := Lib.hid r5
                clear r5
                have hB5 : Hid (w.heap.size ≤ w5.heap.size) := R5.out.o.size
                go_wp2_with (at_builtin; refine append_flag1 rfl _ _ rfl w.heap.size _ _ rfl (f8.alloc _) w5.heap.size σ4.q.stepPut.2.1 rfl ?c1 ?c2 ?c3 ?c4)
                case c1 => exact (Row.new w5 _ [_]).cell 0 rfl
                case c2 => simp; omega
                case c3 => have := hB5.out; simp; omega
                case c4 =>
                  intro v' w6 f6 o6 b6
                  have r6 := R5.out.flag f6 o6 (by simpa using b6)
                  have R6 := Lib.hid r6
                  clear r6 f6 o6 b6 f8
                  go_wp2_with fail
                  exact ⟨⟨k + 1, { σ4 with q := σ4.q.stepPut.2.2.2, put := σ4.put ++ [σ4.q.stepPut.2.1] }, by omega, by go_num, (by show _ = _; rw [hnx.out, e1.out, e2.out]), _, _, rfl, rfl, R6.out, by simp; omega, by simp; omega, by simp; omega, by simp; omega⟩, by simp [intOf]; omega⟩
            · rw [if_neg hc1] at htl
              have HR := Lib.hid htl
              clear htl
              go_wp2_with fail
              refine (busy_rep _ _ _ _ hr.hq hr.ok).mono ?_
              rintro e _ ⟨rfl, n1, rfl⟩
              clear hr
              go_wp2_with fail
              refine (beginPut_rep _ _ _ _ (HR.out.drewN _).hq HR.out.ok y).mono ?_
              rintro e w4 ⟨rfl, g4, o4⟩
              have r4 := (HR.out.drewN _).step g4 (HR.out.ok.beginPut y).1 (o4.mono (by simp))
              clear HR g4 o4
              obtain ⟨σ4, hσ4⟩ : ∃ σ4 : PSt, σ4 = ({ σ with q := (σ.q.beginPut y).2, puts := ys } : PSt) := ⟨_, rfl⟩
              rw [← hσ4] at e1
              have r4 := r4.to hσ4
              have a4 : σ4.puts = ys := by rw [hσ4]
              have a4t : Hid (σ4.takes = σ.takes) := by show _ = _; rw [hσ4]
              have hl8 : σ4.put.length ≤ k := by rw [hσ4]; exact hl8
              have hl9 : σ4.taken.length ≤ k := by rw [hσ4]; exact hl9
              have ht40 : σ4.takes ≤ 40 := by rw [a4t.out]; exact ht40
              have hp40 : σ4.puts.length ≤ 40 := by rw [a4]; omega
              have HR := Lib.hid r4
              clear r4 hσ4
              rw [← a4t.out]
              subst a4
              go_wp2_with fail
              refine (stepPut_rep _ _ _ _ HR.out.hq HR.out.ok).mono ?_
              rintro e w5 ⟨rfl, g5, o5⟩
              have r5 := HR.out.step g5 HR.out.ok.stepPut.1 o5
              clear g5 o5
              cases hd : σ4.q.stepPut.1
              · have e2 : Hid (PSt.putStep σ4 = { σ4 with q := σ4.q.stepPut.2.2.2 }) := by show _ = _; unfold PSt.putStep; rw [hd]; rfl
                have R5 := Lib.hid r5
                clear r5
                go_wp2_with fail
                exact ⟨⟨k + 1, { σ4 with q := σ4.q.stepPut.2.2.2 }, by omega, by go_num, (by show _ = _; rw [hnx.out, e1.out, e2.out]), _, _, rfl, rfl, R5.out, by simp; omega, by simp; omega, by simp; omega, by simp; omega⟩, by simp [intOf]; omega⟩
              · have e2 : Hid (PSt.putStep σ4 = { σ4 with q := σ4.q.stepPut.2.2.2, put := σ4.put ++ [σ4.q.stepPut.2.1] }) := by show _ = _; unfold PSt.putStep; rw [hd]; rfl
                have f8 := r5.f8
                have R5 := Lib.hid r5
                clear r5
                have hB5 : Hid (w.heap.size ≤ w5.heap.size) := R5.out.o.size
                go_wp2_with (at_builtin; refine append_flag1 rfl _ _ rfl w.heap.size _ _ rfl (f8.alloc _) w5.heap.size σ4.q.stepPut.2.1 rfl ?c1 ?c2 ?c3 ?c4)
                case c1 => exact (Row.new w5 _ [_]).cell 0 rfl
                case c2 => simp; omega
                case c3 => have := hB5.out; simp; omega
                case c4 =>
                  intro v' w6 f6 o6 b6
                  have r6 := R5.out.flag f6 o6 (by simpa using b6)
                  have R6 := Lib.hid r6
                  clear r6 f6 o6 b6 f8
                  go_wp2_with fail
                  exact ⟨⟨k + 1, { σ4 with q := σ4.q.stepPut.2.2.2, put := σ4.put ++ [σ4.q.stepPut.2.1] }, by omega, by go_num, (by show _ = _; rw [hnx.out, e1.out, e2.out]), _, _, rfl, rfl, R6.out, by simp; omega, by simp; omega, by simp; omega, by simp; omega⟩, by simp [intOf]; omega⟩
        · have hb0 : ((σ.q.put : Int) != 0) = true := by rw [bne_iff_ne]; omega
          have e1 : Hid (σ.step (gI sched k) = σ.putStep) := by show _ = _; unfold PSt.step; rw [if_pos HX.out, if_neg hpt]
          have HR := Lib.hid hr
          clear hr hpt
          go_wp2_with fail
          refine (busy_rep _ _ _ _ HR.out.hq HR.out.ok).mono ?_
          rintro e _ ⟨rfl, n1, rfl⟩
          go_wp2_with fail
          refine (stepPut_rep _ _ _ _ (HR.out.drewN _).hq HR.out.ok).mono ?_
          rintro e w5 ⟨rfl, g5, o5⟩
          have r5 := (HR.out.drewN _).step g5 HR.out.ok.stepPut.1 o5
          clear g5 o5
          cases hd : σ.q.stepPut.1
          · have e2 : Hid (PSt.putStep σ = { σ with q := σ.q.stepPut.2.2.2 }) := by show _ = _; unfold PSt.putStep; rw [hd]; rfl
            have R5 := Lib.hid r5
            clear r5
            go_wp2_with fail
            exact ⟨⟨k + 1, { σ with q := σ.q.stepPut.2.2.2 }, by omega, by go_num, (by show _ = _; rw [hnx.out, e1.out, e2.out]), _, _, rfl, rfl, R5.out, by simp; omega, by simp; omega, by simp; omega, by simp; omega⟩, by simp [intOf]; omega⟩
          · have e2 : Hid (PSt.putStep σ = { σ with q := σ.q.stepPut.2.2.2, put := σ.put ++ [σ.q.stepPut.2.1] }) := by show _ = _; unfold PSt.putStep; rw [hd]; rfl
            have f8 := r5.f8
            have R5 := Lib.hid r5
            clear r5
            have hB5 : Hid (w.heap.size ≤ w5.heap.size) := R5.out.o.size
            go_wp2_with (at_builtin; refine append_flag1 rfl _ _ rfl w.heap.size _ _ rfl (f8.alloc _) w5.heap.size σ.q.stepPut.2.1 rfl ?c1 ?c2 ?c3 ?c4)
            case c1 => exact (Row.new w5 _ [_]).cell 0 rfl
            case c2 => simp; omega
            case c3 => have := hB5.out; simp; omega
            case c4 =>
              intro v' w6 f6 o6 b6
              have r6 := R5.out.flag f6 o6 (by simpa using b6)
              have R6 := Lib.hid r6
              clear r6 f6 o6 b6 f8
              go_wp2_with fail
              exact ⟨⟨k + 1, { σ with q := σ.q.stepPut.2.2.2, put := σ.put ++ [σ.q.stepPut.2.1] }, by omega, by go_num, (by show _ = _; rw [hnx.out, e1.out, e2.out]), _, _, rfl, rfl, R6.out, by simp; omega, by simp; omega, by simp; omega, by simp; omega⟩, by simp [intOf]; omega⟩
      · have HX := Lib.hid hx
        rw [hx] at k3
        have hx0 : ¬ gI sched k = 0 := by omega
        have HX0 := Lib.hid hx0
        clear hx hx0
        have HR := Lib.hid hr
        clear hr
        by_cases hpt : σ.q.take = 0
        · have hb0 : ((σ.q.take : Int) != 0) = false := by rw [hpt]; rfl
          have HPT := Lib.hid hpt
          clear hpt
          by_cases htk : σ.takes = 0
          · have e1 : Hid (σ.step (gI sched k) = σ) := by show _ = _; unfold PSt.step; rw [if_neg HX0.out, if_pos HPT.out, if_pos htk]
            have HT := Lib.hid htk
            rw [htk]
            clear htk
            go_wp2_with fail
            refine (busy_rep _ _ _ _ HR.out.hq HR.out.ok).mono ?_
            rintro e _ ⟨rfl, n1, rfl⟩
            go_wp2_with fail
            refine ⟨⟨k + 1, σ, by omega, by go_num, (by show _ = _; rw [hnx.out, e1.out]), cp, av, rfl, (by rw [HT.out]; rfl), HR.out.drewN _, by omega, by omega, ht40, hp40⟩, by simp [intOf]; omega⟩
          · obtain ⟨tk, htk1⟩ : ∃ tk, σ.takes = tk + 1 := ⟨σ.takes - 1, by omega⟩
            have e1 : Hid (σ.step (gI sched k) = PSt.takeStep { σ with q := σ.q.beginTake.2, takes := tk }) := by show _ = _; unfold PSt.step; rw [if_neg HX0.out, if_pos HPT.out, if_neg htk, htk1]; rfl
            rw [htk1] at ht40 ⊢
            clear htk htk1
            go_wp2_with fail
            refine (busy_rep _ _ _ _ HR.out.hq HR.out.ok).mono ?_
            rintro e _ ⟨rfl, n1, rfl⟩
            go_wp2_with fail
            refine (beginTake_rep _ _ _ _ (HR.out.drewN _).hq HR.out.ok).mono ?_
            rintro e w4 ⟨rfl, g4, o4⟩
            have r4 := (HR.out.drewN _).step g4 HR.out.ok.beginTake.1 (o4.mono (by simp))
            clear HR g4 o4
            obtain ⟨σ4, hσ4⟩ : ∃ σ4 : PSt, σ4 = ({ σ with q := σ.q.beginTake.2, takes := tk } : PSt) := ⟨_, rfl⟩
            rw [← hσ4] at e1
            have r4 := r4.tk hσ4
            have a4 : σ4.puts.length = σ.puts.length := by rw [hσ4]
            have a4t : σ4.takes = tk := by rw [hσ4]
            have hl8 : σ4.put.length ≤ k := by rw [hσ4]; exact hl8
            have hl9 : σ4.taken.length ≤ k := by rw [hσ4]; exact hl9
            have ht40 : σ4.takes ≤ 40 := by rw [a4t]; omega
            have hp40 : σ4.puts.length ≤ 40 := by rw [a4]; exact hp40
            have HR := Lib.hid r4
            clear r4 hσ4
            subst a4t
            go_wp2_with fail
            refine (stepTake_rep _ _ _ _ HR.out.hq HR.out.ok).mono ?_
            rintro e w5 ⟨rfl, g5, o5⟩
            have r5 := HR.out.step g5 HR.out.ok.stepTake.1 o5
            clear g5 o5
            cases hd : σ4.q.stepTake.2.1
            · have e2 : Hid (PSt.takeStep σ4 = { σ4 with q := σ4.q.stepTake.2.2.2.2 }) := by show _ = _; unfold PSt.takeStep; rw [hd]; rfl
              have R5 := Lib.hid r5
              clear r5
              go_wp2_with fail
              exact ⟨⟨k + 1, { σ4 with q := σ4.q.stepTake.2.2.2.2 }, by omega, by go_num, (by show _ = _; rw [hnx.out, e1.out, e2.out]), _, _, (by first | rfl | (show Value.slice _ _ _ = Value.slice _ _ _; rw [a4])), (by first | rfl | go_num), R5.out, by simp; omega, by simp; omega, by simp; omega, by simp; omega⟩, by simp [intOf]; omega⟩
            · have e2 : Hid (PSt.takeStep σ4 = { σ4 with q := σ4.q.stepTake.2.2.2.2, taken := σ4.taken ++ [σ4.q.stepTake.2.2.1] }) := by show _ = _; unfold PSt.takeStep; rw [hd]; rfl
              have f9 := r5.f9
              have R5 := Lib.hid r5
              clear r5
              have hB5 : Hid (w.heap.size ≤ w5.heap.size) := R5.out.o.size
              go_wp2_with (at_builtin; refine append_int1 rfl _ _ rfl w.heap.size _ _ rfl (f9.alloc _) w5.heap.size σ4.q.stepTake.2.2.1 rfl ?c1 ?c2 ?c3 ?c4)
              case c1 => exact (Row.new w5 _ [_]).cell 0 rfl
              case c2 => simp; omega
              case c3 => have := hB5.out; simp; omega
              case c4 =>
                intro v' w6 f6 o6 b6
                have r6 := R5.out.int f6 o6 (by simpa using b6)
                have R6 := Lib.hid r6
                clear r6 f6 o6 b6 f9
                go_wp2_with fail
                exact ⟨⟨k + 1, { σ4 with q := σ4.q.stepTake.2.2.2.2, taken := σ4.taken ++ [σ4.q.stepTake.2.2.1] }, by omega, by go_num, (by show _ = _; rw [hnx.out, e1.out, e2.out]), _, _, (by first | rfl | (show Value.slice _ _ _ = Value.slice _ _ _; rw [a4])), (by first | rfl | go_num), R6.out, by simp; omega, by simp; omega, by simp; omega, by simp; omega⟩, by simp [intOf]; omega⟩
        · have hb0 : ((σ.q.take : Int) != 0) = true := by rw [bne_iff_ne]; omega
          have e1 : Hid (σ.step (gI sched k) = σ.takeStep) := by show _ = _; unfold PSt.step; rw [if_neg HX0.out, if_neg hpt]
          clear hpt
          go_wp2_with fail
          refine (busy_rep _ _ _ _ HR.out.hq HR.out.ok).mono ?_
          rintro e _ ⟨rfl, n1, rfl⟩
          go_wp2_with fail
          refine (stepTake_rep _ _ _ _ (HR.out.drewN _).hq HR.out.ok).mono ?_
          rintro e w5 ⟨rfl, g5, o5⟩
          have r5 := (HR.out.drewN _).step g5 HR.out.ok.stepTake.1 o5
          clear g5 o5
          cases hd : σ.q.stepTake.2.1
          · have e2 : Hid (PSt.takeStep σ = { σ with q := σ.q.stepTake.2.2.2.2 }) := by show _ = _; unfold PSt.takeStep; rw [hd]; rfl
            have R5 := Lib.hid r5
            clear r5
            go_wp2_with fail
            exact ⟨⟨k + 1, { σ with q := σ.q.stepTake.2.2.2.2 }, by omega, by go_num, (by show _ = _; rw [hnx.out, e1.out, e2.out]), _, _, (by first | rfl | (show Value.slice _ _ _ = Value.slice _ _ _; rw [a4])), (by first | rfl | go_num), R5.out, by simp; omega, by simp; omega, by simp; omega, by simp; omega⟩, by simp [intOf]; omega⟩
          · have e2 : Hid (PSt.takeStep σ = { σ with q := σ.q.stepTake.2.2.2.2, taken := σ.taken ++ [σ.q.stepTake.2.2.1] }) := by show _ = _; unfold PSt.takeStep; rw [hd]; rfl
            have f9 := r5.f9
            have R5 := Lib.hid r5
            clear r5
            have hB5 : Hid (w.heap.size ≤ w5.heap.size) := R5.out.o.size
            go_wp2_with (at_builtin; refine append_int1 rfl _ _ rfl w.heap.size _ _ rfl (f9.alloc _) w5.heap.size σ.q.stepTake.2.2.1 rfl ?c1 ?c2 ?c3 ?c4)
            case c1 => exact (Row.new w5 _ [_]).cell 0 rfl
            case c2 => simp; omega
            case c3 => have := hB5.out; simp; omega
            case c4 =>
              intro v' w6 f6 o6 b6
              have r6 := R5.out.int f6 o6 (by simpa using b6)
              have R6 := Lib.hid r6
              clear r6 f6 o6 b6 f9
              go_wp2_with fail
              exact ⟨⟨k + 1, { σ with q := σ.q.stepTake.2.2.2.2, taken := σ.taken ++ [σ.q.stepTake.2.2.1] }, by omega, by go_num, (by show _ = _; rw [hnx.out, e1.out, e2.out]), _, _, (by first | rfl | (show Value.slice _ _ _ = Value.slice _ _ _; rw [a4])), (by first | rfl | go_num), R6.out, by simp; omega, by simp; omega, by simp; omega, by simp; omega⟩, by simp [intOf]; omega⟩
    · go_wp2_with fail
      go_ret3
      refine hR.out _ _ ⟨_, _, rfl, ?_, ?_, hr.o⟩
      · rw [← List.take_of_length_le (show sched.length ≤ k by omega), hσ.out]; exact hr.f8
      · rw [← List.take_of_length_le (show sched.length ≤ k by omega), hσ.out]; exact hr.f9
end Go.Proofs.Ytemdkffkpdhciaa
