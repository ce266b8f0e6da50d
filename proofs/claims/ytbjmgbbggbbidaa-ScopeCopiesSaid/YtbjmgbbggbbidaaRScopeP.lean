/- Contracts of the reference's memories: New, the walk. -/
import Derived.Test.YtbjmgbbggbbidaaRScopeO
namespace Go.Proofs.Ytbjmgbbggbbidaa
open Go.RowKit Go.Maps
set_option maxHeartbeats 3200000
set_option maxRecDepth 100000
set_option linter.unusedVariables false
theorem rnew_good (w : World) (v : Value) (l : List Int) (hr : Read w v l) (hb : goodSizes l = true) :
    Calls Try.prog 44 #[v] w fun e w' => ∃ q L X, e = .returned (.tuple #[.pointer (some ⟨q, 0, none⟩), .int .i64 0]) ∧ RRep w' L q (Sc.new l) X ∧ (∀ k, L k ≠ none → w.heap.size ≤ k) ∧ Only [] w w' := by
  refine calls_abs fun R hR => ?_
  obtain ⟨a, c, e⟩ := hr.len
  subst e
  rw [goodSizes_eq] at hb
  simp only [Bool.and_eq_true, decide_eq_true_eq, Bool.not_eq_true'] at hb
  obtain ⟨h6, hb2⟩ := hb
  have HB := Lib.hid hb2
  have HR := Lib.hid hr
  obtain ⟨n, hn⟩ : ∃ n, n = l.length := ⟨_, rfl⟩
  rw [← hn] at h6 HR ⊢
  have HN := Lib.hid hn
  obtain ⟨i0, hi0, hz0, hz1, hz2⟩ := info_parts infoInt
  obtain ⟨CI, hCI⟩ : ∃ CI, CI = madeCells (Value.int .i64 0).cells ((n + 2) * 1) := ⟨_, rfl⟩
  have FI : Hid (∀ x, x < n + 2 → CI.toList[x]? = some (.int .i64 0)) := fun x hx => by rw [hCI]; simp [madeCells, Value.cells, hx, Nat.mod_one]
  have eN : ((n : Int) + 2).toNat = n + 2 := by omega
  have hmi : ∀ wx, (Instr.makeSlice 22 (.int .i64 ((n : Int) + 2)) (.int .i64 ((n : Int) + 2))).run Try.prog wx = .ok (.slice (some ⟨wx.heap.size, 0, none⟩) (n + 2) (n + 2)) (wx.alloc (.cells CI 3)) := fun wx => by
    rw [run_makeSlice (P := Try.prog) (w := wx) 22 3 i0 _ Try.underlying22 hi0 hz0 .i64 .i64 _ _ (by omega) (by omega) (by rw [hz1]; omega) (by rw [hz2]; omega) (by omega), eN, hz1, hCI]
  have HMI := Lib.hid hmi
  obtain ⟨j0, hj0, hy0, hy1, hy2⟩ := info_parts infoSl
  have J0 := Lib.hid hj0
  have J1 := Lib.hid hy0
  have J2 := Lib.hid hy1
  have J3 := Lib.hid hy2
  clear hb2 hr hn hi0 hz0 hz1 hz2 hCI hmi eN hj0 hy0 hy1 hy2
  go_enter Try.func44, Try.ntmps44
  go_wp2_with fail
  go_loop [4] (fun iv => ∃ k : Nat, k ≤ n ∧ iv = .int .i64 k) (fun iv => n - (intOf iv).toNat)
  case atStart => exact ⟨0, by omega, rfl⟩
  case round =>
    obtain ⟨k, hk, rfl⟩ := hrel
    by_cases hlt : k < n
    · have hlt' : k < l.length := by have := HN.out; omega
      rcases HR.out with ⟨b, o, d, f1, g1⟩ | ⟨oa, d, f1, g1⟩
      rotate_left
      · rw [g1] at hlt'; simp at hlt'
      have e1 : a = some ⟨b, o, none⟩ := by cases f1; rfl
      subst e1
      have hck := g1 k hlt'
      have hgs : badS (gI l k) = false := by
        cases e : badS (gI l k)
        · rfl
        · have := any_found hlt' e; rw [HB.out] at this; cases this
      obtain ⟨z, hz⟩ : ∃ z, z = gI l k := ⟨_, rfl⟩
      rw [← hz] at hck hgs
      have hz1 : ¬ z < 1 := fun h => by simp [badS, h] at hgs
      have hz2 : ¬ 24 < z := fun h => by simp [badS, h] at hgs
      clear g1 hz f1 hgs
      go_wp2_with fail
      exact ⟨⟨k + 1, by omega, by go_num⟩, by simp [intOf]; omega⟩
    · obtain rfl : k = n := by omega
      have hmi := HMI.out
      have hwr : IntKind.i64.wrap ((k : Int) + 2) = (k : Int) + 2 := IntWalk.i64_in _ (by omega)
      have hk6 : k ≤ 1000000 := by omega
      go_wp2_with fail
      go_region_law (refine step_cpy (by rfl) (.tmp 28) (.tmp 29) (by rfl) w (by first | exact only_a1 w _ | exact only_a2 w _ _) _ (by first | exact made_alone w | exact made_first w _ _ | exact made_second w _ _) (by rfl) a k c l HN.out (by rfl) HR.out hk6 ?_; intro g cap w1 hi1 ho1 hg1 hl1 hlt1)
      have hN := newA (n := k) (CI := CI) hi1 ho1 hlt1 (b := 0)
      have hq : w1.heap.size + 1 = (w1.alloc (.cells CI 3)).heap.size := by simp
      obtain ⟨wo, hwo⟩ : ∃ z, z = w1.alloc (.cells CI 3) := ⟨_, rfl⟩
      rw [← hwo] at hN hq ⊢
      generalize w1.heap.size + 1 = q at *
      generalize w1.heap.size = pg at *
      rotate_left
      have hr0 : Row ((w.alloc (.cells #[] 3)).alloc (.cells CI 3)).drew (w.heap.size + 1) 3 CI.toList := by
        have := Row.new (w.alloc (.cells #[] 3)) 3 CI.toList
        rw [World.size_alloc] at this
        exact this.drew
      have hN := newB (n := k) (l := l) hr0 (by omega) (by omega) hi1 ho1 hg1 hl1 hlt1
      obtain ⟨q, hq⟩ : ∃ z, z = w1.heap.size := ⟨_, rfl⟩
      rw [← hq]
      clear hr0
      obtain ⟨wo, hwo⟩ : ∃ z, z = w1 := ⟨_, rfl⟩
      rw [← hwo] at hN hq ⊢
      generalize w.heap.size + 1 = pg at *
      rotate_left
      have hr0 : Row ((w.alloc (.cells CI 3)).alloc (.cells #[] 3)).drew w.heap.size 3 CI.toList := ((Row.new w 3 CI.toList).alloc _).drew
      have hN := newB (n := k) (l := l) hr0 (by omega) (by omega) hi1 ho1 hg1 hl1 hlt1
      obtain ⟨q, hq⟩ : ∃ z, z = w1.heap.size := ⟨_, rfl⟩
      rw [← hq]
      clear hr0
      obtain ⟨wo, hwo⟩ : ∃ z, z = w1 := ⟨_, rfl⟩
      rw [← hwo] at hN hq ⊢
      obtain ⟨pg, hpg⟩ : ∃ z, z = w.heap.size := ⟨_, rfl⟩
      rw [← hpg] at hN ⊢
      rotate_left
      all_goals (
        have HN2 := Lib.hid hN
        have HQ := Lib.hid hq
        have hrow0 : Row (wo.alloc (.cells #[.slice (some ⟨g, 0, none⟩) k cap, .slice none 0 0, .slice none 0 0, .slice (some ⟨pg, 0, none⟩) (k + 2) (k + 2)] 32)) q 32 [.slice (some ⟨g, 0, none⟩) k cap, .slice none 0 0, .slice none 0 0, .slice (some ⟨pg, 0, none⟩) (k + 2) (k + 2)] := by
          rw [hq]; exact Row.new wo _ [_, _, _, _]
        obtain ⟨w0, hw0⟩ : ∃ z, z = wo.alloc (.cells #[.slice (some ⟨g, 0, none⟩) k cap, .slice none 0 0, .slice none 0 0, .slice (some ⟨pg, 0, none⟩) (k + 2) (k + 2)] 32) := ⟨_, rfl⟩
        have hsz0 : w0.heap.size = q + 1 := by rw [hw0, hq]; simp
        rw [← hw0] at hrow0 ⊢
        have HROW0 := Lib.hid hrow0
        have HW0 := Lib.hid hw0
        have HSZ0 := Lib.hid hsz0
        clear hN hq hrow0 hw0 hsz0 hi1 ho1 hg1 hl1 hlt1 hmi hwr HR
        go_wp2_with fail
        go_loopw [6] (fun tv wr => ∃ (t : Nat) (stv : Value) (svs : List Value), t ≤ 5 ∧ tv = .int .i64 t ∧ Row wr q 32 [.slice (some ⟨g, 0, none⟩) k cap, stv, .slice none 0 0, .slice (some ⟨pg, 0, none⟩) (k + 2) (k + 2)] ∧ wr.ownsRow (q + 1) 22 1 stv t svs ∧ StAt wr (q + 1) svs ∧ Only [q] w0 wr) (fun tv _ => 5 - (intOf tv).toNat)
        case atStart => exact ⟨0, .slice none 0 0, [], by omega, rfl, HROW0.out, World.ownsRow_nil _ _ _ _, fun i v hv => by simp at hv, Only.refl _ _⟩
        case round =>
          obtain ⟨t, stv, svs, ht, rfl, hrow, hown, hst, ho⟩ := hrel
          have c1 := hrow.cell 1 rfl
          have f1 := hrow.free 1
          have hql := hrow.lt
          have HROW := Lib.hid hrow
          have HOWN := Lib.hid hown
          have HST := Lib.hid hst
          have HO := Lib.hid ho
          clear hrow hown hst ho
          by_cases hlt5 : t < 5
          · go_wp2_with (at_builtin; refine wpList_append_own2 rfl _ _ 29 rfl (q + 1) 22 j0 _ 1 24 Try.underlying29 J0.out J1.out J2.out J3.out rfl (by omega) stv t _ rfl ((HOWN.out.alloc _).alloc _) ⟨wr.heap.size + 1, 0, none⟩ 1 1 [.slice (some ⟨wr.heap.size, 0, none⟩) 1 1] rfl rfl ?_ ?_ ?_ ?_ ?_ ?_)
            · have hh := heap_alloc_new (wr.alloc (.cells #[.int .i64 0] 3)) (.cells #[.slice (some ⟨wr.heap.size, 0, none⟩) 1 1] 22)
              rw [World.size_alloc] at hh
              exact World.news_of_block (cs := #[.slice (some ⟨wr.heap.size, 0, none⟩) 1 1]) (t := 22) (fr := (0, 0)) hh
            · simp [Value.oneCell']
            · simp only [maxLen]; omega
            · omega
            · simp; omega
            · intro v' w3 hown1 hgrow1 hnil hblk
              have ho1 : Only stv.ownBlock.toList wr w3 := (((Only.refl _ wr).alloc _).alloc _).grown hgrow1 (fun j hj => .inl (by rw [hj]; simp))
              have hstq : stv.ownBlock ≠ some q := ownsRow_type HOWN.out HROW.out (by decide)
              have hqn : q ∉ stv.ownBlock.toList := by
                cases e : stv.ownBlock with
                | none => simp
                | some b => simp; rintro rfl; exact hstq e
              have hrow1 := ho1.row HROW.out hqn
              have hst1 : StAt w3 (q + 1) (svs ++ [.slice (some ⟨wr.heap.size, 0, none⟩) 1 1]) := by
                intro i v hv
                rw [List.getElem?_append] at hv
                split at hv
                · obtain ⟨b, e1, e2, e3⟩ := HST.out i v hv
                  have hbn : stv.ownBlock ≠ some b := ownsRow_type HOWN.out e3 (by decide)
                  refine ⟨b, e1, e2, ho1.row e3 (by cases e : stv.ownBlock with | none => simp | some c => simp; rintro rfl; exact hbn e)⟩
                · have hi0 : i - svs.length = 0 := by
                    have := (List.getElem?_eq_some_iff.1 hv).1
                    simp at this; omega
                  rw [hi0] at hv
                  cases hv
                  have hbn : some wr.heap.size ≠ stv.ownBlock := fun e => by have := (World.ownsRow.lt HOWN.out _ e.symm).2; omega
                  exact ⟨wr.heap.size, rfl, by omega, ((Row.new wr 3 [.int .i64 0]).alloc _).grown hgrow1 hbn⟩
              have hv1 : ∃ sg sc, v' = .slice (some ⟨sg, 0, none⟩) (t + 1) sc := by
                rcases hown1.2 with ⟨_, h2⟩ | ⟨sg, sc, cur, hv, hg, _⟩
                · omega
                · exact ⟨sg, sc, hv⟩
              obtain ⟨sg, sc, rfl⟩ := hv1
              have c1' := hrow1.cell 1 rfl
              have f1' := hrow1.free 1
              have HROW1 := Lib.hid hrow1
              have HOWN1 := Lib.hid hown1
              have HST1 := Lib.hid hst1
              have hO1 : Only [q] w0 w3 := HO.out.trans ho1 (fun x hx => .inr (by
                cases e : stv.ownBlock with
                | none => rw [e] at hx; simp at hx
                | some b => rw [e] at hx; simp at hx; subst hx; have := (World.ownsRow.lt HOWN.out _ e).1; have := HSZ0.out; omega))
              have HO1 := Lib.hid hO1
              clear hown1 hgrow1 hnil hblk ho1 hrow1 hst1 hO1 hqn hstq
              go_wp2_with fail
              refine ⟨⟨t + 1, _, _, by omega, by go_num, HROW1.out.set 1 _, ownsRow_setNe HOWN1.out (ownsRow_type HOWN1.out HROW1.out (by decide)) _, fun i v hv => ?_, HO1.out.set (.inl (by simp)) _⟩, by simp [intOf]; omega⟩
              obtain ⟨b, e1, e2, e3⟩ := HST1.out i v hv
              exact ⟨b, e1, e2, e3.other (a := ⟨q, 1, none⟩) (by show q ≠ b; omega) _⟩
          · obtain rfl : t = 5 := by omega
            go_wp2_with fail
            have hv1 : ∃ sg sc, stv = .slice (some ⟨sg, 0, none⟩) 5 sc := by
              rcases HOWN.out.2 with ⟨_, h2⟩ | ⟨sg, sc, cur, hv, hg, _⟩
              · omega
              · exact ⟨sg, sc, hv⟩
            obtain ⟨sg, sc, rfl⟩ := hv1
            have hO := HO.out
            rw [HW0.out] at hO
            obtain ⟨L, X, r1, r2, r3⟩ := new_end HN.out FI.out HN2.out HQ.out hO HROW.out HOWN.out HST.out
            exact hR.out _ _ ⟨q, L, X, rfl, r1, r2, r3⟩)
end Go.Proofs.Ytbjmgbbggbbidaa
