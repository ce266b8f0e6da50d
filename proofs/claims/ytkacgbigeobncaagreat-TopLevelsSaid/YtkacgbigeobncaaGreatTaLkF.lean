/- Lemmas of this claim. -/
import Derived.Test.YtkacgbigeobncaaGreatTaLkE
import Derived.Test.YtkacgbigeobncaaGreatIterLay
import Derived.Sort.OwnSortedInts
namespace Go.Proofs.YtkacgbigeobncaaGreat
open Go.RowKit Go.Maps Go.Sort Go.Shelf
set_option maxHeartbeats 6400000
set_option maxRecDepth 100000
set_option linter.unusedVariables false
set_option linter.unusedSimpArgs false
theorem sort_ints (w : World) (base : Nat) (v : Value) (l : List Int) (h : Ints w base v l) (hl : l.length ≤ 1000000) : Calls Tryz.prog 188 #[v] w fun e w' => e = .returned (.tuple #[]) ∧ Ints w' base v (l.mergeSort fun x y => decide (x ≤ y)) ∧ Only v.ownBlock.toList w w' := by
  rcases h.2 with ⟨h1, h2⟩ | ⟨g, cap, cur, hv, hg, hh, hc, hm, hs, ht⟩
  · subst h1
    obtain rfl : l = [] := List.eq_nil_of_length_eq_zero h2
    refine (AnyM.slices_Sort_int_none Tryz.sortA none 0 w).mono ?_
    rintro e w' ⟨rfl, rfl⟩
    exact ⟨rfl, by simpa using h, Only.refl _ _⟩
  · subst hv
    have hH := holds_of_blockI (ss := l) hh (by simpa using ht)
    refine (AnyM.slices_Sort_int Tryz.sortA g 0 cap l w hH (Array.getElem?_eq_some_iff.1 hh).1 (by omega)).mono ?_
    rintro e w' ⟨rfl, n, os, rfl⟩
    refine ⟨rfl, ?_, (Only.refl _ _).grown (grownBy_sortedI _) (fun k hk => .inl (by cases hk; simp [Value.ownBlock]))⟩
    have := ownsRow_sortedI (n := n) (os := os) (ts := l.mergeSort fun x y => decide (x ≤ y)) (ss := l) (by simp) hg hh hc hm hs
    unfold Ints
    rwa [List.length_mergeSort]
theorem compact_len (l : List Int) : (Lib.compact l).length ≤ l.length := by
  unfold Lib.compact Lib.compactUpTo
  rw [List.length_map]
  exact Nat.le_trans (List.length_filter_le _ _) (by simp)
theorem compact_nil (w : World) : Calls Tryz.prog 189 #[.slice none 0 0] w (Exact w (.slice none 0 0)) := by
  refine calls_abs fun R hR => ?_
  go_enter Tryz.func189, Tryz.ntmps189
  go_wp2_with fail
  exact hR.out _ _ ⟨rfl, rfl⟩
theorem compact_ints (w : World) (base : Nat) (v : Value) (l : List Int) (h : Ints w base v l) (hl : l.length ≤ 1000000) : Calls Tryz.prog 189 #[v] w fun e w' => ∃ v', e = .returned v' ∧ Ints w' base v' (Lib.compact l) ∧ Only v.ownBlock.toList w w' ∧ v'.ownBlock = v.ownBlock := by
  rcases h.2 with ⟨h1, h2⟩ | ⟨g, cap, cur, hv, hg, hh, hc, hm, hs, ht⟩
  · subst h1
    obtain rfl : l = [] := List.eq_nil_of_length_eq_zero h2
    refine (compact_nil w).mono ?_
    rintro e w' ⟨rfl, rfl⟩
    exact ⟨_, rfl, h, Only.refl _ _, rfl⟩
  · subst hv
    have hH := holds_of_blockI (ss := l) hh (by simpa using ht)
    have hkl := compact_len l
    refine (Any.slices_Compact_int Tryz.compactA g 0 cap l w hH (by omega) hc).mono ?_
    rintro e w' ⟨rfl, q, rfl⟩
    have hlen : (Lib.compact l ++ List.replicate (l.length - (Lib.compact l).length) (0 : Int)).length = l.length := by rw [List.length_append, List.length_replicate]; omega
    have h1 := ownsRow_sortedI (n := q) (os := #[]) (ts := Lib.compact l ++ List.replicate (l.length - (Lib.compact l).length) 0) (ss := l) hlen hg hh hc hm hs
    have h2 := grownBy_sortedI (w := w) (g := g) (n := q) (os := #[]) (Lib.compact l ++ List.replicate (l.length - (Lib.compact l).length) (0 : Int)).toArray
    rw [grow_empty] at h1 h2
    refine ⟨_, rfl, ?_, (Only.refl _ _).grown h2 (fun k hk => .inl (by cases hk; simp [Value.ownBlock])), rfl⟩
    have h3 : Ints (putRow (Value.int .i64) (Sort.ahead w q) g 0 (Lib.compact l ++ List.replicate (l.length - (Lib.compact l).length) (0 : Int)).toArray) base (.slice (some ⟨g, 0, none⟩) l.length cap) (Lib.compact l ++ List.replicate (l.length - (Lib.compact l).length) 0) := by
      unfold Ints
      rw [hlen]
      exact h1
    have h4 := h3.take (n := (Lib.compact l).length) (by rw [hlen]; exact hkl)
    rwa [List.take_left'] at h4
    rfl
theorem targets_any (w : World) (X : MX) (M : Mod) (h : ModA w X M) (s : Nat) (hs : (s : Int) < M.sel) (hl : ∀ j, j < M.classes.length → ((M.cl j).meths.length : Int) = M.sel) (hc10 : M.classes.length ≤ 10) :
    Calls Tryz.prog 154 #[modV X M, .int .i64 s] w fun e w' => ∃ v, e = .returned v ∧ Ints w' w.heap.size v (M.targets s) ∧ Only [] w w' := by
  refine calls_abs fun R hR => ?_
  obtain ⟨vc, vs, vm, cx, mx⟩ := X
  have H := Lib.hid hR.out
  have HM := Lib.hid h
  have HL := Lib.hid hl
  have HS := Lib.hid hs
  have hch := ChkAt.new w ⟨vc, vs, vm, cx, mx⟩ M
  have HO0 := Lib.hid ((Only.refl [] w).alloc (.cells #[vc, vs, vm, .int .i64 M.sel] 74))
  obtain ⟨va9, vb9, vc9, vd9, ve9, vf9, l1, l2, l3⟩ := h.lens
  dsimp only at l1
  subst l1
  obtain ⟨nc, hnc⟩ : ∃ z, z = M.classes.length := ⟨_, rfl⟩
  have HNC := Lib.hid hnc
  have hnc10 : nc ≤ 10 := by omega
  unfold modV
  dsimp only
  rw [← hnc] at hch ⊢
  clear hR h hl hs hnc l2 l3 hc10 hch
  go_enter Tryz.func154, Tryz.ntmps154
  go_wp2_with fail
  go_loopw [5, 12] (fun ov iv wr => ∃ k : Nat, k ≤ nc ∧ iv = .int .i64 k ∧ Ints wr (w.heap.size + 1) ov (M.tgN s k) ∧ Only [] w wr ∧ w.heap.size < wr.heap.size) (fun _ iv _ => nc - (intOf iv).toNat)
  case atStart => exact ⟨0, by omega, rfl, Ints.nil _ _, (Only.refl _ _).alloc _, by simp⟩
  case round =>
    obtain ⟨k, hk, rfl, hi, ho, hsz⟩ := hrel
    have HO := Lib.hid ho
    have HI := Lib.hid hi
    have HSZ := Lib.hid hsz
    obtain ⟨ova, ovc, rfl⟩ := hi.len
    obtain ⟨om, hom⟩ : ∃ z, z = (M.tgN s k).length := ⟨_, rfl⟩
    rw [← hom] at HI ⊢
    clear hi ho hsz hom
    by_cases hlt : k < nc
    · --<A
      have hkc : k < M.classes.length := by rw [← HNC.out]; exact hlt
      obtain ⟨b6, o6, c6, fv6, mv6, e6, r5, r6, hc6⟩ := HM.out.clAt hkc
      obtain ⟨fa, fc, rfl⟩ := r5.len
      obtain ⟨fn, hfn⟩ : ∃ z, z = (M.cl k).fields.length := ⟨_, rfl⟩
      rw [← hfn] at hc6 r5
      obtain ⟨u0, u1, u2, u3⟩ := hc6 wr HO.out
      dsimp only at e6
      simp only [Value.slice.injEq] at e6
      obtain ⟨rfl, _, rfl⟩ := e6
      have hln := HL.out k hkc
      obtain ⟨ml, hml⟩ : ∃ z, z = (M.cl k).meths := ⟨_, rfl⟩
      obtain ⟨sp, hsp⟩ : ∃ z, z = (M.cl k).super := ⟨_, rfl⟩
      obtain ⟨cnm, hcnm⟩ : ∃ z, z = (M.cl k).name := ⟨_, rfl⟩
      rw [← hml] at r6 hln
      rw [← hsp] at u1
      rw [← hcnm] at u0
      have hsl : s < ml.length := by have := HS.out; omega
      have hslI : (s : Int) < ml.length := by omega
      obtain ⟨va7, vc7, rfl⟩ := r6.len
      rcases (r6.only0 HO.out) with ⟨b8, o8, c8, f8, g8⟩ | ⟨oa, c8, f8, g8⟩
      rotate_left
      · rw [g8] at hsl; simp at hsl
      simp only [Value.slice.injEq] at f8
      obtain ⟨rfl, _, rfl⟩ := f8
      have g9 := g8 s hsl
      obtain ⟨n, hn⟩ : ∃ z, z = gI ml s := ⟨_, rfl⟩
      rw [← hn] at g9
      have HST := Lib.hid (show M.tgN s (k + 1) = M.tgN s k ++ if 0 ≤ n then [n] else [] by
        have hg : M.classes[k]? = some (M.cl k) := by unfold Mod.cl; simp [hkc]
        unfold Mod.tgN
        rw [List.take_add_one, hg, List.map_append, List.filter_append, Option.toList_some, List.map_cons, List.map_nil, ← hml, ← hn]
        by_cases h0 : 0 ≤ n <;> simp [h0])
      have HLEN := Lib.hid (show (M.tgN s k).length ≤ 10 from Nat.le_trans (List.length_filter_le _ _) (by rw [List.length_map, List.length_take]; omega))
      obtain ⟨nml, hnml⟩ : ∃ z, z = ml.length := ⟨_, rfl⟩
      rw [← hnml] at u3 hsl hslI
      have HO2 := Lib.hid (HO.out.alloc (.cells #[.string cnm, .int .i64 sp, .slice fa fn fc, .slice (some ⟨b8, o8, none⟩) nml vc7] 133))
      have HI2 := Lib.hid (HI.out.alloc (.cells #[.string cnm, .int .i64 sp, .slice fa fn fc, .slice (some ⟨b8, o8, none⟩) nml vc7] 133))
      have g10 := ((Only.refl [] wr).alloc (.cells #[.string cnm, .int .i64 sp, .slice fa fn fc, .slice (some ⟨b8, o8, none⟩) nml vc7] 133)).cell g9 (by simp)
      have HSZ2 := Lib.hid (show w.heap.size + 1 ≤ (wr.alloc (.cells #[.string cnm, .int .i64 sp, .slice fa fn fc, .slice (some ⟨b8, o8, none⟩) nml vc7] 133)).heap.size by have := HSZ.out; simp; omega)
      clear hfn r5 hc6 g8 g9 hln hn hml hsp hcnm r6 hnml hkc
      by_cases h0 : 0 ≤ n
      · rw [if_pos h0] at HST
        go_upto_region 7 with fail
        generalize wr.alloc (.cells #[.string cnm, .int .i64 sp, .slice fa fn fc, .slice (some ⟨b8, o8, none⟩) nml vc7] 133) = w4 at *
        go_wp2_with (at_builtin; refine append_int1 rfl _ _ rfl (w.heap.size + 1) _ _ rfl (HI2.out.alloc _) w4.heap.size n rfl ?c1 ?c2 ?c3 ?c4)
        case c1 => exact (Row.new w4 3 [.int .i64 n]).cell 0 rfl
        case c2 => have := HLEN.out; omega
        case c3 => have := HSZ2.out; simp; omega
        case c4 =>
          intro v8 w8 hi8 ho8 hb8
          rw [← HST.out] at hi8
          have HI8 := Lib.hid hi8
          have HO8 := Lib.hid ((HO2.out.alloc (.cells #[.int .i64 n] 3)).trans ho8 (fun y hy => .inr (by
            rw [Option.mem_toList] at hy
            have := (HI.out.own y hy).1
            omega)))
          have HSZ8 := Lib.hid (show w.heap.size < w8.heap.size by have := ho8.size; have := HSZ2.out; simp at *; omega)
          clear hi8 ho8 hb8
          go_wp2_with fail
          exact ⟨⟨k + 1, by omega, by go_num, HI8.out, HO8.out, HSZ8.out⟩, by simp [intOf]; omega⟩
      · rw [if_neg h0, List.append_nil] at HST
        go_wp2_with fail
        exact ⟨⟨k + 1, by omega, by go_num, by rw [HST.out]; exact HI2.out, HO2.out, HSZ2.out⟩, by simp [intOf]; omega⟩
      --A>
    · --<B
      obtain rfl : k = nc := by omega
      have HLEN := Lib.hid (show (M.tgN s k).length ≤ 1000000 from Nat.le_trans (List.length_filter_le _ _) (by rw [List.length_map, List.length_take]; omega))
      have HTG := Lib.hid (show M.targets s = Lib.compact ((M.tgN s k).mergeSort fun x y => decide (x ≤ y)) by rw [HNC.out]; rfl)
      generalize M.tgN s k = l at *
      have cs := sort_ints wr _ _ _ HI.out HLEN.out
      have HBB := Lib.hid (show ∀ y, y ∈ (Value.slice ova om ovc).ownBlock.toList → w.heap.size ≤ y by
        intro y hy
        rw [Option.mem_toList] at hy
        have := (HI.out.own y hy).1
        omega)
      go_wp2_with fail
      refine cs.mono ?_
      rintro e w4 ⟨rfl, hi, ho⟩
      have HO4 := Lib.hid (HO.out.trans ho (fun y hy => .inr (HBB.out y hy)))
      have HI4 := Lib.hid hi
      clear cs hi ho
      have cp := compact_ints w4 _ _ _ HI4.out (by rw [List.length_mergeSort]; exact HLEN.out)
      go_wp2_with fail
      refine cp.mono ?_
      rintro e w5 ⟨v5, rfl, hi, ho, _⟩
      have HO5 := Lib.hid (HO4.out.trans ho (fun y hy => .inr (HBB.out y hy)))
      have HI5 := Lib.hid hi
      clear cp hi ho
      go_wp2_with fail
      exact H.out _ _ ⟨v5, rfl, by rw [HTG.out]; exact HI5.out.base (Nat.le_succ _), HO5.out⟩
      --B>
end Go.Proofs.YtkacgbigeobncaaGreat
