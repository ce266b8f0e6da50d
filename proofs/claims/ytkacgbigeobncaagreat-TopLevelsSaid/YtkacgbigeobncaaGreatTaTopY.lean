/- Lemmas of this claim. -/
import Derived.Test.YtkacgbigeobncaaGreatTaTopX
namespace Go.Proofs.YtkacgbigeobncaaGreat
open Go.RowKit Go.Maps
set_option maxHeartbeats 12800000
set_option maxRecDepth 100000
set_option linter.unusedVariables false
set_option linter.unusedSimpArgs false
theorem walk_TopLevels (a0 : Option Addr) (len0 cap0 : Nat) (f0 : Nat → Int) (w : World) (w0 : Nums w a0 len0 f0) :
    Calls Tryz.prog 3 #[.slice a0 len0 cap0] w fun e w' => e = .returned (.bool true) ∧ Below w.heap.size w w' := by
  refine calls_abs fun R hR => ?_
  have HW0 := Lib.hid w0
  have hmx := w0.1
  have HO1 := Lib.hid ((Only.refl [] w).alloc (.cells #[.int .i64 24, .int .i64 24, .int .i64 24, .int .i64 24, .int .i64 24, .int .i64 24] 3))
  have cn := new_good _ _ six (six_read w) (by decide)
  clear w0
  go_enter Tryz.func3, Tryz.ntmps3
  go_wp2_with fail
  refine cn.mono ?_
  rintro e w2 ⟨p, L0, X0, rfl, hp, hb, ho⟩
  have HTL := Lib.hid (show TL w w2 p 0 0 (Sc.new six) (.slice none 0 0) [] from ⟨Lv.new, ⟨⟨L0, X0, hp, fun k hk => Nat.le_trans HO1.out.size (hb k hk), fun k hk => by simp [Value.ownBlock] at hk⟩, Sc.Ok.new (by decide), Own.nil⟩, HO1.out.trans ho (by simp), Nat.le_refl _⟩)
  clear cn hp hb ho
  go_wp2_with fail
  go_loopw [5, 6, 7] (fun dv ov iv wr => ∃ (n i : Nat) (M : Sc) (L : List (Int × Nat)), dv = .int .i64 n ∧ iv = .int .i64 i ∧ i ≤ len0 ∧ i ≤ 80 ∧ TL w wr p n i M ov L) (fun _ _ iv _ => (80 - intOf iv).toNat)
  case atStart => exact ⟨0, 0, _, _, rfl, rfl, Nat.zero_le _, Nat.zero_le _, HTL.out⟩
  case round =>
    obtain ⟨n, i, M, L, rfl, rfl, hi1, hi2, ht⟩ := hrel
    have HT := Lib.hid ht
    have hn6 := ht.1.n6
    obtain ⟨oa, oc, rfl⟩ := ht.2.1.own.len
    obtain ⟨nl, hnl⟩ : ∃ z, z = L.length := ⟨_, rfl⟩
    rw [← hnl]
    have HNL := Lib.hid hnl
    have HOW := Lib.hid ht.2.2.1
    have hnl80 : nl ≤ 80 := by have := ht.2.2.2; omega
    clear ht hnl
    by_cases hlt : i < len0 ∧ i < 80
    · obtain ⟨hlt1, hlt2⟩ := hlt
      obtain ⟨hmx2, h0 | ⟨b, o, rfl, hc⟩⟩ := HW0.out
      · omega
      have c0 := HOW.out.cell (hc i hlt1).1 (by simp)
      have hx1 : (i : Int) < len0 := by omega
      have hx2 : (i : Int) < 80 := by omega
      obtain ⟨⟨t1, t2⟩, t3, t4⟩ := mod4 (f0 i)
      obtain ⟨x, hx⟩ : ∃ x, x = f0 i := ⟨_, rfl⟩
      rw [← hx] at c0 t1 t2 t3 t4
      obtain ⟨r, hr⟩ : ∃ r, r = x.tmod 4 := ⟨_, rfl⟩
      rw [← hr] at t1 t2 t3 t4
      obtain ⟨m, hm⟩ : ∃ m, m = (r + 4).tmod 4 := ⟨_, rfl⟩
      rw [← hm] at t3 t4
      have hr' := hr.symm
      have hm' := hm.symm
      clear hc hmx2 hx hr hm
      by_cases m0 : m = 0
      · subst m0
        by_cases hn : n < 6
        · have hnI : (n : Int) < 6 := by omega
          have ce := enter_any _ _ p n i M _ L HT.out hn
          clear hn
          go_wp2_with fail
          refine ce.mono ?_
          rintro e w3 ⟨rfl, M', ht3⟩
          have HT3 := Lib.hid ht3
          clear ce ht3 c0
          go_wp2_with fail
          go_roundw
          case rel => exact ⟨n + 1, i + 1, M', L, by go_num, by go_num, by omega, by omega, by rw [HNL.out]; exact HT3.out⟩
          case measure => simp only [intOf]; omega
        · have hnI : ¬ (n : Int) < 6 := by omega
          clear hn
          go_wp2_with fail
          go_roundw
          case rel => exact ⟨n, i + 1, M, L, rfl, by go_num, by omega, by omega, by rw [HNL.out]; exact HT.out.up⟩
          case measure => simp only [intOf]; omega
      by_cases m1 : m = 1
      · subst m1
        by_cases hn : 0 < n
        · obtain ⟨n', rfl⟩ : ∃ n', n = n' + 1 := ⟨n - 1, by omega⟩
          have hnI : (0 : Int) < (n' : Int) + 1 := by omega
          have cl := leave_any _ _ p n' i M _ L HT.out
          clear hn
          go_wp2_with fail
          refine cl.mono ?_
          rintro e w3 ⟨r9, rfl, M', hL, hS, ho⟩
          have HL := Lib.hid hL
          have HS := Lib.hid hS
          have HO3 := Lib.hid ho
          clear cl hL hS ho c0
          go_wp2_with fail
          go_loopw [10, 11] (fun lv kv wq => ∃ k : Nat, kv = .int .i64 k ∧ k ≤ nl ∧ S2 wq w.heap.size p M' (.slice oa L.length oc) L lv ((L.take k).filter (fun p => decide (p.2 ≤ n'))) ∧ Only [] w wq) (fun _ kv _ => nl - (intOf kv).toNat)
          case atStart => exact ⟨0, rfl, Nat.zero_le _, HS.out.two, HO3.out⟩
          case round =>
            obtain ⟨k, rfl, hk, hS2, ho⟩ := hrel
            have HS2 := Lib.hid hS2
            have HO4 := Lib.hid ho
            have HKN := Lib.hid hk
            by_cases hkl : k < nl
            · have hkI : (k : Int) < nl := by omega
              have HKL := Lib.hid hkl
              obtain ⟨g, cap, he, q0, q1⟩ := hS2.own.pair (k := k) (by rw [← HNL.out]; exact hkl)
              simp only [Value.slice.injEq] at he
              obtain ⟨rfl, -, -⟩ := he
              have hq : L[k]? = some (L.getD k default) := by rw [List.getD_eq_getElem?_getD, List.getElem?_eq_getElem (by rw [← HNL.out]; exact hkl)]; rfl
              have HTK := Lib.hid (show L.take (k + 1) = L.take k ++ [L.getD k default] by rw [List.take_add_one, hq]; rfl)
              obtain ⟨⟨y1, y2⟩, hy⟩ : ∃ y, y = L.getD k default := ⟨_, rfl⟩
              rw [← hy] at q0 q1 HTK
              clear hS2 ho hk hq hy
              by_cases hle : y2 ≤ n'
              · have hleI : (y2 : Int) ≤ n' := by omega
                have HNF := Lib.hid (show ((L.take k).filter (fun p => decide (p.2 ≤ n'))).length ≤ 80 by
                  have h1 := List.length_filter_le (fun p : Int × Nat => decide (p.2 ≤ n')) (L.take k)
                  have h2 : (L.take k).length ≤ L.length := by rw [List.length_take]; omega
                  have h3 := HT.out.2.2.2
                  omega)
                have HE := Lib.hid (show (L.take (k + 1)).filter (fun p => decide (p.2 ≤ n')) = (L.take k).filter (fun p => decide (p.2 ≤ n')) ++ [(y1, y2)] by rw [HTK.out, List.filter_append]; simp [hle])
                clear hle
                go_wp2_with (at_builtin; refine append_own tyPr rowPr rfl _ _ rfl w.heap.size _ _ rfl (HS2.out.own2.alloc _) _ [(y1, y2)] rfl (rd_one rowPr wr 31 (y1, y2)) ?c1 ?c2 ?c3 ?c4)
                case c1 => have := HNF.out; have h1 : ([((y1, y2) : Int × Nat)]).length = 1 := rfl; omega
                case c2 => have := HNF.out; have h1 : ([((y1, y2) : Int × Nat)]).length = 1 := rfl; omega
                case c3 => have := HO4.out.size; simp; omega
                case c4 =>
                  intro v5 w5 hv ho5 hb5
                  have hA := (Only.refl [] wr).alloc (.cells (prow (y1, y2)).toArray 31)
                  have HS5 := Lib.hid ((HS2.out.only0 hA).grow hv ho5 (hb5.elim .inl (fun e => .inr ⟨_, e, by simp⟩)))
                  have HO5 := Lib.hid ((HO4.out.trans hA (by simp)).trans ho5 (fun x hx => .inr ((HS2.out.own2.own x (by simpa using hx)).1)))
                  clear hv ho5 hb5 hA
                  go_wp2_with fail
                  go_roundw
                  case rel => exact ⟨k + 1, by go_num, HKL.out, by rw [HE.out]; exact HS5.out, HO5.out⟩
                  case measure => have := HKL.out; simp only [intOf]; omega
              · have hleI : ¬ (y2 : Int) ≤ n' := by omega
                have HE := Lib.hid (show (L.take (k + 1)).filter (fun p => decide (p.2 ≤ n')) = (L.take k).filter (fun p => decide (p.2 ≤ n')) by rw [HTK.out, List.filter_append]; simp [hle])
                clear hle
                go_wp2_with fail
                go_roundw
                case rel => exact ⟨k + 1, by go_num, HKL.out, by rw [HE.out]; exact HS2.out, HO4.out⟩
                case measure => have := HKL.out; simp only [intOf]; omega
            · obtain rfl : k = nl := by omega
              have hkI : ¬ (k : Int) < k := by omega
              clear hS2 ho hk hkl
              go_wp2_with fail
              go_roundw
              case rel =>
                have hf := HS2.out.one
                rw [show L.take k = L by rw [HNL.out]; exact List.take_length] at hf
                exact ⟨n', i + 1, M', _, by go_num, by go_num, by omega, by omega, HL.out.up, hf, HO4.out, Nat.le_trans (List.length_filter_le _ _) (Nat.le_succ_of_le HT.out.2.2.2)⟩
              case measure => simp only [intOf]; omega
        · obtain rfl : n = 0 := by omega
          clear hn
          go_wp2_with fail
          go_roundw
          case rel => exact ⟨0, i + 1, M, L, rfl, by go_num, by omega, by omega, by rw [HNL.out]; exact HT.out.up⟩
          case measure => simp only [intOf]; omega
      · have m0b : (m == 0) = false := by simpa using m0
        have m1b : (m == 1) = false := by simpa using m1
        have ca := alloc_any _ _ p n i M _ L HT.out (by omega)
        clear m0 m1
        go_wp2_with fail
        refine ca.mono ?_
        rintro e w3 ⟨rr, er, M', rfl, hS, ho, hcase⟩
        have HS := Lib.hid hS
        have HO3 := Lib.hid ho
        clear ca hS ho c0
        rcases hcase with ⟨rfl, hL⟩ | ⟨rfl, hn0, hL⟩
        · have HL := Lib.hid hL
          clear hL
          go_wp2_with (at_builtin; refine append_own tyPr rowPr rfl _ _ rfl w.heap.size _ L rfl (by rw [HNL.out]; exact HS.out.own.alloc _) _ [(rr, n)] rfl (rd_one rowPr w3 31 (rr, n)) ?c1 ?c2 ?c3 ?c4)
          case c1 => have := HT.out.2.2.2; simp only [List.length_cons, List.length_nil]; omega
          case c2 => have := HT.out.2.2.2; simp only [List.length_cons, List.length_nil]; omega
          case c3 => have := HO3.out.size; simp; omega
          case c4 =>
            intro v5 w5 hv ho5 hb5
            have hA := (Only.refl [] w3).alloc (.cells (prow (rr, n)).toArray 31)
            have HS5 := Lib.hid ((HS.out.only0 hA).grow hv (by rw [HNL.out] at ho5; exact ho5) (by rw [HNL.out] at hb5; exact hb5.elim .inl (fun e => .inr ⟨_, e, by simp⟩)))
            have HO5 := Lib.hid ((HO3.out.trans hA (by simp)).trans ho5 (fun x hx => .inr ((HS.out.own.own x (by rw [HNL.out] at hx; simpa using hx)).1)))
            clear hv ho5 hb5 hA
            go_wp2_with fail
            go_roundw
            case rel => exact ⟨n, i + 1, M', L ++ [(rr, n)], rfl, by go_num, by omega, by omega, HL.out, HS5.out, HO5.out, by rw [List.length_append]; have := HT.out.2.2.2; simp; omega⟩
            case measure => simp only [intOf]; omega
        · have HL := Lib.hid hL
          have hn1 : ((n : Int) == 0) = false := by simp; omega
          clear hL
          go_wp2_with fail
          go_roundw
          case rel => exact ⟨n, i + 1, M', L, rfl, by go_num, by omega, by omega, HL.out, by rw [HNL.out]; exact HS.out, HO3.out, Nat.le_succ_of_le HT.out.2.2.2⟩
          case measure => simp only [intOf]; omega
    · --<E
      clear hmx
      have HI := Lib.hid hi2
      have HI1 := Lib.hid hi1
      by_cases hlt1 : i < len0
      · have hxa : (i : Int) < len0 := by omega
        have hxb : ¬ (i : Int) < 80 := by omega
        clear hlt hlt1
        go_wp2_with fail
        obtain ⟨w9, rfl⟩ : ∃ z, z = wr := ⟨_, rfl⟩
        go_loopw [14] (fun kv wq => ∃ k : Nat, kv = .int .i64 k ∧ k ≤ nl ∧ Only [] w9 wq) (fun kv _ => nl - (intOf kv).toNat)
        case atStart => exact ⟨0, rfl, Nat.zero_le _, Only.refl _ _⟩
        case round =>
          obtain ⟨k, rfl, hk, ho⟩ := hrel
          have HO4 := Lib.hid ho
          clear ho
          by_cases hkl : k < nl
          · have hkI : (k : Int) < nl := by omega
            have HKL := Lib.hid hkl
            clear hk hkl
            go_wp2_with fail
            obtain ⟨w8, rfl⟩ : ∃ z, z = wr := ⟨_, rfl⟩
            go_loopw [15] (fun kv wq => ∃ j : Nat, kv = .int .i64 j ∧ j ≤ nl ∧ Only [] w9 wq) (fun kv _ => nl - (intOf kv).toNat)
            case atStart => exact ⟨0, rfl, Nat.zero_le _, HO4.out⟩
            case round =>
              obtain ⟨j, rfl, hj, ho⟩ := hrel
              have HO5 := Lib.hid ho
              by_cases hjl : j < nl
              · have hjI : (j : Int) < nl := by omega
                have HJL := Lib.hid hjl
                have hT := HT.out.only0 ho
                obtain ⟨g, cap, he, x0, x1⟩ := hT.2.1.own.pair (k := k) (by rw [← HNL.out]; exact HKL.out)
                obtain ⟨g', cap', he', y0, y1⟩ := hT.2.1.own.pair (k := j) (by rw [← HNL.out]; exact hjl)
                rw [he] at he'
                simp only [Value.slice.injEq, Option.some.injEq, Addr.mk.injEq] at he he'
                obtain ⟨⟨rfl, -⟩, -, -⟩ := he'
                obtain ⟨rfl, -, -⟩ := he
                have mx : L.getD k default ∈ L := by rw [List.getD_eq_getElem?_getD, List.getElem?_eq_getElem (by rw [← HNL.out]; exact HKL.out)]; exact List.getElem_mem _
                have my : L.getD j default ∈ L := by rw [List.getD_eq_getElem?_getD, List.getElem?_eq_getElem (by rw [← HNL.out]; exact hjl)]; exact List.getElem_mem _
                have CM9 := Lib.hid (fun wx (hox : Only [] wr wx) => may_any w wx p n i M _ L (hT.only0 hox) HI.out mx my)
                obtain ⟨⟨xa, xb⟩, hx⟩ : ∃ y, y = L.getD k default := ⟨_, rfl⟩
                obtain ⟨⟨ya, yb⟩, hy⟩ : ∃ y, y = L.getD j default := ⟨_, rfl⟩
                rw [← hx, ← hy] at CM9
                rw [← hx] at x0 x1
                rw [← hy] at y0 y1
                dsimp only at CM9
                have HSL := Lib.hid (show ∀ wl, Only [] wr wl → wl.cell? ⟨g, k * 2, none⟩ = some (.int .i64 xa) ∧ wl.cell? ⟨g, j * 2, none⟩ = some (.int .i64 ya) from fun wl hl => ⟨hl.cell x0 (by simp), hl.cell y0 (by simp)⟩)
                have HX1 := Lib.hid x1
                have HY1 := Lib.hid y1
                have hkJ : (k : Int) < nl := hkI
                clear ho hj hjl hT mx my hx hy x1 y1 x0 y0
                by_cases hle : yb ≤ xb
                · have hleI : (yb : Int) ≤ xb := by omega
                  rw [decide_eq_true hle] at CM9
                  clear hle
                  go_upto_region 39 with fail
                  go_region_held3 (fun wl => wl.cell? ⟨g, k * 2, none⟩ = some (.int .i64 xa) ∧ wl.cell? ⟨g, j * 2, none⟩ = some (.int .i64 ya))
                    (first | exact HSL.out _ (Only.refl _ _).drew | exact HSL.out _ hoD)
                    (first | (go_at_call 8; refine (CM9.out _ (Only.refl _ _).drew).mono ?_; rintro e w5 ⟨rfl, hd⟩; have hoD := (Only.refl [] wr).drew.trans (hd.only []) (by simp)))
                  have x1 := hoD.cell HX1.out (by simp)
                  have y1 := hoD.cell HY1.out (by simp)
                  have HO6 := Lib.hid (HO5.out.trans hoD (by simp))
                  clear hoD hd
                  go_wp2_with fail
                  go_quiet (fail)
                  go_wp2_with fail
                  go_roundw
                  case rel => exact ⟨j + 1, by go_num, HJL.out, HO6.out.drewN _⟩
                  case measure => have := HJL.out; simp only [intOf]; omega
                · have hleI : ¬ (yb : Int) ≤ xb := by omega
                  rw [decide_eq_false hle] at CM9
                  clear hle
                  go_upto_region 39 with fail
                  go_region_held3 (fun wl => wl.cell? ⟨g, k * 2, none⟩ = some (.int .i64 xa) ∧ wl.cell? ⟨g, j * 2, none⟩ = some (.int .i64 ya))
                    (first | exact HSL.out _ (Only.refl _ _).drew | exact HSL.out _ hoD)
                    (first | (go_at_call 8; refine (CM9.out _ (Only.refl _ _).drew).mono ?_; rintro e w5 ⟨rfl, hd⟩; have hoD := (Only.refl [] wr).drew.trans (hd.only []) (by simp)))
                  have x1 := hoD.cell HX1.out (by simp)
                  have y1 := hoD.cell HY1.out (by simp)
                  have HO6 := Lib.hid (HO5.out.trans hoD (by simp))
                  clear hoD hd
                  go_wp2_with fail
                  go_quiet (fail)
                  go_wp2_with fail
                  go_roundw
                  case rel => exact ⟨j + 1, by go_num, HJL.out, HO6.out.drewN _⟩
                  case measure => have := HJL.out; simp only [intOf]; omega
              · obtain rfl : j = nl := by omega
                have hjI : ¬ (j : Int) < j := by omega
                clear ho hj hjl
                go_wp2_with fail
                go_roundw
                case rel => exact ⟨k + 1, by go_num, HKL.out, HO5.out⟩
                case measure => have := HKL.out; simp only [intOf]; omega
          · obtain rfl : k = nl := by omega
            have hkI : ¬ (k : Int) < k := by omega
            have cst := stack_any w _ p n i M _ L (HT.out.only0 HO4.out)
            clear hk hkl
            go_wp2_with fail
            refine cst.mono ?_
            rintro e w5 ⟨v, rfl, hv, ho⟩
            obtain ⟨va, vc, rfl⟩ := hv.len
            have HO5 := Lib.hid ((HT.out.2.2.1.trans HO4.out (by simp)).trans ho (by simp))
            rw [show (stkL n, (0 : Int)).1.length = n + 1 from stkL_len n]
            have csa := saneA w5
            clear cst hv ho
            go_wp2_with fail
            refine csa.mono ?_
            rintro e w6 ⟨rfl, ho⟩
            have HO6 := Lib.hid (HO5.out.trans ho (by simp))
            clear csa ho
            go_wp2_with fail
            exact hR.out _ _ ⟨rfl, HO6.out.below (Nat.le_refl _) (by simp)⟩
      · have hxa : ¬ (i : Int) < len0 := by omega
        clear hlt hlt1
        go_wp2_with fail
        obtain ⟨w9, rfl⟩ : ∃ z, z = wr := ⟨_, rfl⟩
        go_loopw [14] (fun kv wq => ∃ k : Nat, kv = .int .i64 k ∧ k ≤ nl ∧ Only [] w9 wq) (fun kv _ => nl - (intOf kv).toNat)
        case atStart => exact ⟨0, rfl, Nat.zero_le _, Only.refl _ _⟩
        case round =>
          obtain ⟨k, rfl, hk, ho⟩ := hrel
          have HO4 := Lib.hid ho
          clear ho
          by_cases hkl : k < nl
          · have hkI : (k : Int) < nl := by omega
            have HKL := Lib.hid hkl
            clear hk hkl
            go_wp2_with fail
            obtain ⟨w8, rfl⟩ : ∃ z, z = wr := ⟨_, rfl⟩
            go_loopw [15] (fun kv wq => ∃ j : Nat, kv = .int .i64 j ∧ j ≤ nl ∧ Only [] w9 wq) (fun kv _ => nl - (intOf kv).toNat)
            case atStart => exact ⟨0, rfl, Nat.zero_le _, HO4.out⟩
            case round =>
              obtain ⟨j, rfl, hj, ho⟩ := hrel
              have HO5 := Lib.hid ho
              by_cases hjl : j < nl
              · have hjI : (j : Int) < nl := by omega
                have HJL := Lib.hid hjl
                have hT := HT.out.only0 ho
                obtain ⟨g, cap, he, x0, x1⟩ := hT.2.1.own.pair (k := k) (by rw [← HNL.out]; exact HKL.out)
                obtain ⟨g', cap', he', y0, y1⟩ := hT.2.1.own.pair (k := j) (by rw [← HNL.out]; exact hjl)
                rw [he] at he'
                simp only [Value.slice.injEq, Option.some.injEq, Addr.mk.injEq] at he he'
                obtain ⟨⟨rfl, -⟩, -, -⟩ := he'
                obtain ⟨rfl, -, -⟩ := he
                have mx : L.getD k default ∈ L := by rw [List.getD_eq_getElem?_getD, List.getElem?_eq_getElem (by rw [← HNL.out]; exact HKL.out)]; exact List.getElem_mem _
                have my : L.getD j default ∈ L := by rw [List.getD_eq_getElem?_getD, List.getElem?_eq_getElem (by rw [← HNL.out]; exact hjl)]; exact List.getElem_mem _
                have CM9 := Lib.hid (fun wx (hox : Only [] wr wx) => may_any w wx p n i M _ L (hT.only0 hox) HI.out mx my)
                obtain ⟨⟨xa, xb⟩, hx⟩ : ∃ y, y = L.getD k default := ⟨_, rfl⟩
                obtain ⟨⟨ya, yb⟩, hy⟩ : ∃ y, y = L.getD j default := ⟨_, rfl⟩
                rw [← hx, ← hy] at CM9
                rw [← hx] at x0 x1
                rw [← hy] at y0 y1
                dsimp only at CM9
                have HSL := Lib.hid (show ∀ wl, Only [] wr wl → wl.cell? ⟨g, k * 2, none⟩ = some (.int .i64 xa) ∧ wl.cell? ⟨g, j * 2, none⟩ = some (.int .i64 ya) from fun wl hl => ⟨hl.cell x0 (by simp), hl.cell y0 (by simp)⟩)
                have HX1 := Lib.hid x1
                have HY1 := Lib.hid y1
                have hkJ : (k : Int) < nl := hkI
                clear ho hj hjl hT mx my hx hy x1 y1 x0 y0
                by_cases hle : yb ≤ xb
                · have hleI : (yb : Int) ≤ xb := by omega
                  rw [decide_eq_true hle] at CM9
                  clear hle
                  go_upto_region 39 with fail
                  go_region_held3 (fun wl => wl.cell? ⟨g, k * 2, none⟩ = some (.int .i64 xa) ∧ wl.cell? ⟨g, j * 2, none⟩ = some (.int .i64 ya))
                    (first | exact HSL.out _ (Only.refl _ _).drew | exact HSL.out _ hoD)
                    (first | (go_at_call 8; refine (CM9.out _ (Only.refl _ _).drew).mono ?_; rintro e w5 ⟨rfl, hd⟩; have hoD := (Only.refl [] wr).drew.trans (hd.only []) (by simp)))
                  have x1 := hoD.cell HX1.out (by simp)
                  have y1 := hoD.cell HY1.out (by simp)
                  have HO6 := Lib.hid (HO5.out.trans hoD (by simp))
                  clear hoD hd
                  go_wp2_with fail
                  go_quiet (fail)
                  go_wp2_with fail
                  go_roundw
                  case rel => exact ⟨j + 1, by go_num, HJL.out, HO6.out.drewN _⟩
                  case measure => have := HJL.out; simp only [intOf]; omega
                · have hleI : ¬ (yb : Int) ≤ xb := by omega
                  rw [decide_eq_false hle] at CM9
                  clear hle
                  go_upto_region 39 with fail
                  go_region_held3 (fun wl => wl.cell? ⟨g, k * 2, none⟩ = some (.int .i64 xa) ∧ wl.cell? ⟨g, j * 2, none⟩ = some (.int .i64 ya))
                    (first | exact HSL.out _ (Only.refl _ _).drew | exact HSL.out _ hoD)
                    (first | (go_at_call 8; refine (CM9.out _ (Only.refl _ _).drew).mono ?_; rintro e w5 ⟨rfl, hd⟩; have hoD := (Only.refl [] wr).drew.trans (hd.only []) (by simp)))
                  have x1 := hoD.cell HX1.out (by simp)
                  have y1 := hoD.cell HY1.out (by simp)
                  have HO6 := Lib.hid (HO5.out.trans hoD (by simp))
                  clear hoD hd
                  go_wp2_with fail
                  go_quiet (fail)
                  go_wp2_with fail
                  go_roundw
                  case rel => exact ⟨j + 1, by go_num, HJL.out, HO6.out.drewN _⟩
                  case measure => have := HJL.out; simp only [intOf]; omega
              · obtain rfl : j = nl := by omega
                have hjI : ¬ (j : Int) < j := by omega
                clear ho hj hjl
                go_wp2_with fail
                go_roundw
                case rel => exact ⟨k + 1, by go_num, HKL.out, HO5.out⟩
                case measure => have := HKL.out; simp only [intOf]; omega
          · obtain rfl : k = nl := by omega
            have hkI : ¬ (k : Int) < k := by omega
            have cst := stack_any w _ p n i M _ L (HT.out.only0 HO4.out)
            clear hk hkl
            go_wp2_with fail
            refine cst.mono ?_
            rintro e w5 ⟨v, rfl, hv, ho⟩
            obtain ⟨va, vc, rfl⟩ := hv.len
            have HO5 := Lib.hid ((HT.out.2.2.1.trans HO4.out (by simp)).trans ho (by simp))
            rw [show (stkL n, (0 : Int)).1.length = n + 1 from stkL_len n]
            have csa := saneA w5
            clear cst hv ho
            go_wp2_with fail
            refine csa.mono ?_
            rintro e w6 ⟨rfl, ho⟩
            have HO6 := Lib.hid (HO5.out.trans ho (by simp))
            clear csa ho
            go_wp2_with fail
            exact hR.out _ _ ⟨rfl, HO6.out.below (Nat.le_refl _) (by simp)⟩
      --E>
end Go.Proofs.YtkacgbigeobncaaGreat
