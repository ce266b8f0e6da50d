/- Lemmas of this claim. -/
import Derived.Test.YthflghdaejbdkaaGreatVRObjK
namespace Go.Proofs.YthflghdaejbdkaaGreat
open Go.RowKit Go.Maps
set_option maxHeartbeats 6400000
set_option maxRecDepth 100000
set_option linter.unusedVariables false
section
variable {L : Nat → Option Gb} {hb : Nat} {M : Hp} {X : GX}
theorem replicate_snoc {α : Type} (n : Nat) (x : α) : List.replicate n x ++ [x] = List.replicate (n + 1) x := by
  rw [List.replicate_succ']
theorem gnewArray_good (w : World) (h : GRep w L hb M X) (hk : M.Ok) (k c : Int) (n : Nat) (hn : n ≤ 48) (b i : Bool) (hot : (arrT k c n).ok1 ∧ ∀ s, gI (arrT k c n).slots s = 0) (hb4 : decide (k = 4) = b)
    (R : Ending → World → Prop) (hR : Hid (∀ e w', GDid w L hb (.tuple #[.int .i64 (M.add (arrT k c n)).1, .int .i64 (M.add (arrT k c n)).2.1]) (M.add (arrT k c n)).2.2 e w' → R e w'))
    (hkc : Hid ((k = 3 ∧ c = 0) ∨ (k = 4 ∧ 0 ≤ c ∧ c < 10))) :
    Calls Tryz.prog 174 #[.pointer (some ⟨hb, 0, none⟩), .int .i64 k, .int .i64 c, .int .i64 n] w R := by
  have h1 := gthere_rep w h
  obtain ⟨i0, hi0, hz0, hz1, hz2⟩ := info_parts infoInt
  obtain ⟨C, hC⟩ : ∃ C : Array Value, C.toList = List.replicate n (.int .i64 0) := ⟨(List.replicate n (.int .i64 0)).toArray, by simp⟩
  have hmk : ∀ wx, (Instr.makeSlice 23 (.int .i64 (n : Int)) (.int .i64 (n : Int))).run Tryz.prog wx = .ok (.slice (some ⟨wx.heap.size, 0, none⟩) n n) (wx.alloc (.cells C 3)) := fun wx => by
    rw [run_makeSlice (P := Tryz.prog) (w := wx) 23 3 i0 _ Tryz.underlying23 hi0 hz0 .i64 .i64 _ _ (by omega) (by omega) (by rw [hz1]; omega) (by rw [hz2]; omega) (by omega), hz1]
    have e : madeCells (Value.int .i64 0).cells (n * 1) = C := by
      rw [← Array.toList_inj, made_ints, hC]
    simp only [Int.toNat_natCast]
    rw [e]
  have n0 : ¬ (n : Int) < 0 := by omega
  have n48 : ¬ (48 : Int) < n := by omega
  have HMADE : Hid (∀ wx (rv sv : Value), Only [] w wx → Bls wx w.heap.size rv (List.replicate n b) → Ints wx w.heap.size sv (List.replicate n 0) → (∀ g, rv.ownBlock = some g → sv.ownBlock ≠ some g) →
      Calls Tryz.prog 211 #[.pointer (some ⟨hb, 0, none⟩), .agg #[.int .i64 k, .int .i64 c, rv, sv, .slice none 0 0], .bool true] wx (GDid w L hb (.tuple #[.int .i64 (M.add (arrT k c n)).1, .int .i64 (M.add (arrT k c n)).2.1]) (M.add (arrT k c n)).2.2)) := fun wx rv sv ho hrv hsv hd =>
    gmade_rep wx h hk ho (arrT k c n) hot.1 hot.2 rv sv (by rw [← hb4] at hrv; exact hrv) hsv hd true (fun e => by cases e)
  obtain ⟨F, hF⟩ : ∃ F : Ending → World → Prop, F = GDid w L hb (.tuple #[.int .i64 (M.add (arrT k c n)).1, .int .i64 (M.add (arrT k c n)).2.1]) (M.add (arrT k c n)).2.2 := ⟨_, rfl⟩
  rw [← hF] at HMADE
  replace hR : Hid (∀ e w', F e w' → R e w') := by rw [hF]; exact hR
  have HRET : Hid (∀ e w', F e w' → ∃ r0 r1 : Int, e = .returned (.tuple #[.int .i64 r0, .int .i64 r1])) := fun e w' he => by rw [hF] at he; exact ⟨_, _, he.1⟩
  have HZ := Lib.hid (zeros_new w n (by omega) C hC)
  have HB4 := Lib.hid hb4
  have HO1 : Hid (Only [] w ((w.alloc (.cells C 3)).alloc (.cells #[.int .i64 k, .int .i64 c, .slice none 0 0, .slice (some ⟨w.heap.size, 0, none⟩) n n, .slice none 0 0] 217))) := ((Only.refl [] w).alloc _).alloc _
  have HROW : Hid (Row ((w.alloc (.cells C 3)).alloc (.cells #[.int .i64 k, .int .i64 c, .slice none 0 0, .slice (some ⟨w.heap.size, 0, none⟩) n n, .slice none 0 0] 217)) (w.heap.size + 1) 217 [.int .i64 k, .int .i64 c, .slice none 0 0, .slice (some ⟨w.heap.size, 0, none⟩) n n, .slice none 0 0]) := by
    have := Row.new (w.alloc (.cells C 3)) 217 [.int .i64 k, .int .i64 c, .slice none 0 0, .slice (some ⟨w.heap.size, 0, none⟩) n n, .slice none 0 0]
    rwa [World.size_alloc] at this
  have HZ1 : Hid (Ints ((w.alloc (.cells C 3)).alloc (.cells #[.int .i64 k, .int .i64 c, .slice none 0 0, .slice (some ⟨w.heap.size, 0, none⟩) n n, .slice none 0 0] 217)) w.heap.size (.slice (some ⟨w.heap.size, 0, none⟩) n n) (List.replicate n 0)) := HZ.out.alloc _
  have HS1 : Hid (((w.alloc (.cells C 3)).alloc (.cells #[.int .i64 k, .int .i64 c, .slice none 0 0, .slice (some ⟨w.heap.size, 0, none⟩) n n, .slice none 0 0] 217)).heap.size = w.heap.size + 2) := by show _ = _; simp
  have HN := Lib.hid hn
  clear hF hot h hk hi0 hz0 hz1 hz2 hC HZ hb4 hn
  rcases hkc.out with ⟨rfl, rfl⟩ | ⟨rfl, g1, g2⟩
  · have hbv := HB4.out
    simp at hbv
    subst hbv
    clear hkc HB4
    go_enter Tryz.func174, Tryz.ntmps174
    go_wp2_with fail
    refine h1.mono ?_
    rintro e _ ⟨rfl, rfl⟩
    clear h1
    go_wp2_with fail
    generalize (w.alloc (.cells C 3)).alloc (.cells #[.int .i64 3, .int .i64 0, .slice none 0 0, .slice (some ⟨w.heap.size, 0, none⟩) n n, .slice none 0 0] 217) = w1 at *
    obtain ⟨x0, hx0⟩ : ∃ z, z = w.heap.size := ⟨_, rfl⟩
    have HX0 := Lib.hid hx0
    obtain ⟨y, hy⟩ : ∃ z, z = x0 + 1 := ⟨_, rfl⟩
    rw [← hx0, ← hy] at HROW
    rw [← hx0] at HZ1 HS1 HMADE
    rw [← hx0, ← hy]
    have HY : Hid (x0 < y ∧ y < x0 + 2 ∧ w1.heap.size = x0 + 2) := ⟨by omega, by omega, HS1.out⟩
    clear hx0 hy hmk HS1
    go_loopw [13] (fun iv wr => ∃ (m : Nat) (rv : Value), m ≤ n ∧ iv = .int .i64 m ∧ Bls wr w1.heap.size rv (List.replicate m false) ∧ Row wr y 217 [.int .i64 3, .int .i64 0, rv, .slice (some ⟨x0, 0, none⟩) n n, .slice none 0 0] ∧ Only [y] w1 wr) (fun iv _ => n - (intOf iv).toNat)
    case atStart => exact ⟨0, .slice none 0 0, by omega, rfl, Bls.nil _ _, HROW.out, Only.refl _ _⟩
    case round =>
      clear HROW
      obtain ⟨m, rv, hm, rfl, hbv, hrow, ho⟩ := hrel
      obtain ⟨ra, rc, hre⟩ := hbv.len
      rw [List.length_replicate] at hre
      subst hre
      have HBV := Lib.hid hbv
      have HR5 := Lib.hid hrow
      have HO := Lib.hid ho
      have c2 : wr.cell? ⟨y, 2, none⟩ = _ := hrow.cell 2 rfl
      clear hbv hrow ho
      by_cases hlt : m < n
      · have hlt1 : (m : Int) < n := by omega
        go_wp2_with (at_builtin; refine append_bl1 rfl _ _ rfl w1.heap.size _ _ rfl (HBV.out.alloc _) wr.heap.size false rfl ?c1 ?c2 ?c3 ?c4)
        case c1 => exact (Row.new wr _ [_]).cell 0 rfl
        case c2 => simp; have := HN.out; omega
        case c3 => have := HO.out.size; simp; omega
        case c4 =>
          intro v' w6 hv6 ho6 hb6
          rw [replicate_snoc] at hv6
          obtain ⟨va', vc', hve⟩ := hv6.len
          rw [List.length_replicate] at hve
          subst hve
          have hyn : y ∉ (Value.slice ra m rc).ownBlock.toList := fun hx => by
            have := (HBV.out.own y (by simpa using hx)).1
            have := HY.out
            omega
          have hr6 := ho6.row (HR5.out.alloc (.cells #[.bool false] 4)) hyn
          have f6 := hr6.free 2
          have c6 : w6.cell? ⟨y, 2, none⟩ = _ := hr6.cell 2 rfl
          have HV7 : Hid (Bls (w6.setCell ⟨y, 2, none⟩ (.slice va' (m + 1) vc')) w1.heap.size (.slice va' (m + 1) vc') (List.replicate (m + 1) false)) := hv6.only ((Only.refl [y] w6).set (p := ⟨y, 2, none⟩) (.inl (by simp)) (.slice va' (m + 1) vc')) (fun g' hg' => by have := (hv6.own g' hg').1; have := HY.out; simp; omega)
          have HROW7 : Hid (Row (w6.setCell ⟨y, 2, none⟩ (.slice va' (m + 1) vc')) y 217 [.int .i64 3, .int .i64 0, .slice va' (m + 1) vc', .slice (some ⟨x0, 0, none⟩) n n, .slice none 0 0]) := hr6.set 2 (.slice va' (m + 1) vc')
          have HO7 : Hid (Only [y] w1 (w6.setCell ⟨y, 2, none⟩ (.slice va' (m + 1) vc'))) := ((HO.out.alloc _).trans ho6 (fun x hx => .inr (HBV.out.own x (by simpa using hx)).1)).set (.inl (by simp)) _
          clear hv6 ho6 hyn hr6 c2 hb6
          go_wp2_with fail
          exact ⟨⟨m + 1, .slice va' (m + 1) vc', by omega, by go_num, HV7.out, HROW7.out, HO7.out⟩, by simp [intOf]; omega⟩
      · obtain rfl : m = n := by omega
        have hlt1 : ¬ (m : Int) < (m : Int) := by omega
        have c0 : wr.cell? ⟨y, 0, none⟩ = _ := HR5.out.cell 0 rfl
        have c1 : wr.cell? ⟨y, 1, none⟩ = _ := HR5.out.cell 1 rfl
        have c3 : wr.cell? ⟨y, 3, none⟩ = _ := HR5.out.cell 3 rfl
        have c4 : wr.cell? ⟨y, 4, none⟩ = _ := HR5.out.cell 4 rfl
        have HM := HMADE.out wr (.slice ra m rc) (.slice (some ⟨x0, 0, none⟩) m m) (HO1.out.trans HO.out (fun x hx => .inr (by have := HY.out; have := HX0.out; simp at hx; omega))) (HBV.out.base (by have := HY.out; omega))
          (HZ1.out.only HO.out (fun g hg => by cases hg; have := HY.out; simp; omega)) (fun g hg => by have := (HBV.out.own g hg).1; have := HY.out; simp [Value.ownBlock]; omega)
        clear HMADE
        go_wp2_with fail
        refine HM.mono ?_
        intro e w9 hf
        obtain ⟨r0, r1, rfl⟩ := HRET.out _ _ hf
        go_wp2_with fail
        exact hR.out _ _ hf
  · have hbv := HB4.out
    simp at hbv
    subst hbv
    clear hkc HB4
    go_enter Tryz.func174, Tryz.ntmps174
    go_wp2_with fail
    refine h1.mono ?_
    rintro e _ ⟨rfl, rfl⟩
    clear h1
    go_wp2_with fail
    generalize (w.alloc (.cells C 3)).alloc (.cells #[.int .i64 4, .int .i64 c, .slice none 0 0, .slice (some ⟨w.heap.size, 0, none⟩) n n, .slice none 0 0] 217) = w1 at *
    obtain ⟨x0, hx0⟩ : ∃ z, z = w.heap.size := ⟨_, rfl⟩
    have HX0 := Lib.hid hx0
    obtain ⟨y, hy⟩ : ∃ z, z = x0 + 1 := ⟨_, rfl⟩
    rw [← hx0, ← hy] at HROW
    rw [← hx0] at HZ1 HS1 HMADE
    rw [← hx0, ← hy]
    have HY : Hid (x0 < y ∧ y < x0 + 2 ∧ w1.heap.size = x0 + 2) := ⟨by omega, by omega, HS1.out⟩
    clear hx0 hy hmk HS1
    go_loopw [13] (fun iv wr => ∃ (m : Nat) (rv : Value), m ≤ n ∧ iv = .int .i64 m ∧ Bls wr w1.heap.size rv (List.replicate m true) ∧ Row wr y 217 [.int .i64 4, .int .i64 c, rv, .slice (some ⟨x0, 0, none⟩) n n, .slice none 0 0] ∧ Only [y] w1 wr) (fun iv _ => n - (intOf iv).toNat)
    case atStart => exact ⟨0, .slice none 0 0, by omega, rfl, Bls.nil _ _, HROW.out, Only.refl _ _⟩
    case round =>
      clear HROW
      obtain ⟨m, rv, hm, rfl, hbv, hrow, ho⟩ := hrel
      obtain ⟨ra, rc, hre⟩ := hbv.len
      rw [List.length_replicate] at hre
      subst hre
      have HBV := Lib.hid hbv
      have HR5 := Lib.hid hrow
      have HO := Lib.hid ho
      have c2 : wr.cell? ⟨y, 2, none⟩ = _ := hrow.cell 2 rfl
      clear hbv hrow ho
      by_cases hlt : m < n
      · have hlt1 : (m : Int) < n := by omega
        go_wp2_with (at_builtin; refine append_bl1 rfl _ _ rfl w1.heap.size _ _ rfl (HBV.out.alloc _) wr.heap.size true rfl ?c1 ?c2 ?c3 ?c4)
        case c1 => exact (Row.new wr _ [_]).cell 0 rfl
        case c2 => simp; have := HN.out; omega
        case c3 => have := HO.out.size; simp; omega
        case c4 =>
          intro v' w6 hv6 ho6 hb6
          rw [replicate_snoc] at hv6
          obtain ⟨va', vc', hve⟩ := hv6.len
          rw [List.length_replicate] at hve
          subst hve
          have hyn : y ∉ (Value.slice ra m rc).ownBlock.toList := fun hx => by
            have := (HBV.out.own y (by simpa using hx)).1
            have := HY.out
            omega
          have hr6 := ho6.row (HR5.out.alloc (.cells #[.bool true] 4)) hyn
          have f6 := hr6.free 2
          have c6 : w6.cell? ⟨y, 2, none⟩ = _ := hr6.cell 2 rfl
          have HV7 : Hid (Bls (w6.setCell ⟨y, 2, none⟩ (.slice va' (m + 1) vc')) w1.heap.size (.slice va' (m + 1) vc') (List.replicate (m + 1) true)) := hv6.only ((Only.refl [y] w6).set (p := ⟨y, 2, none⟩) (.inl (by simp)) (.slice va' (m + 1) vc')) (fun g' hg' => by have := (hv6.own g' hg').1; have := HY.out; simp; omega)
          have HROW7 : Hid (Row (w6.setCell ⟨y, 2, none⟩ (.slice va' (m + 1) vc')) y 217 [.int .i64 4, .int .i64 c, .slice va' (m + 1) vc', .slice (some ⟨x0, 0, none⟩) n n, .slice none 0 0]) := hr6.set 2 (.slice va' (m + 1) vc')
          have HO7 : Hid (Only [y] w1 (w6.setCell ⟨y, 2, none⟩ (.slice va' (m + 1) vc'))) := ((HO.out.alloc _).trans ho6 (fun x hx => .inr (HBV.out.own x (by simpa using hx)).1)).set (.inl (by simp)) _
          clear hv6 ho6 hyn hr6 c2 hb6
          go_wp2_with fail
          exact ⟨⟨m + 1, .slice va' (m + 1) vc', by omega, by go_num, HV7.out, HROW7.out, HO7.out⟩, by simp [intOf]; omega⟩
      · obtain rfl : m = n := by omega
        have hlt1 : ¬ (m : Int) < (m : Int) := by omega
        have c0 : wr.cell? ⟨y, 0, none⟩ = _ := HR5.out.cell 0 rfl
        have c1 : wr.cell? ⟨y, 1, none⟩ = _ := HR5.out.cell 1 rfl
        have c3 : wr.cell? ⟨y, 3, none⟩ = _ := HR5.out.cell 3 rfl
        have c4 : wr.cell? ⟨y, 4, none⟩ = _ := HR5.out.cell 4 rfl
        have HM := HMADE.out wr (.slice ra m rc) (.slice (some ⟨x0, 0, none⟩) m m) (HO1.out.trans HO.out (fun x hx => .inr (by have := HY.out; have := HX0.out; simp at hx; omega))) (HBV.out.base (by have := HY.out; omega))
          (HZ1.out.only HO.out (fun g hg => by cases hg; have := HY.out; simp; omega)) (fun g hg => by have := (HBV.out.own g hg).1; have := HY.out; simp [Value.ownBlock]; omega)
        clear HMADE
        go_wp2_with fail
        refine HM.mono ?_
        intro e w9 hf
        obtain ⟨r0, r1, rfl⟩ := HRET.out _ _ hf
        go_wp2_with fail
        exact hR.out _ _ hf
-- good ends
theorem gnewArray_rep (w : World) (h : GRep w L hb M X) (hk : M.Ok) (k c n : Int) :
    Calls Tryz.prog 174 #[.pointer (some ⟨hb, 0, none⟩), .int .i64 k, .int .i64 c, .int .i64 n] w (GDid w L hb (.tuple #[.int .i64 (M.newArray k c n).1, .int .i64 (M.newArray k c n).2.1]) (M.newArray k c n).2.2) := by
  refine calls_abs fun R hR => ?_
  by_cases hgood : ¬ (n < 0 ∨ 48 < n) ∧ ((k = 3 ∧ c = 0) ∨ (k = 4 ∧ 0 ≤ c ∧ c < 10))
  · obtain ⟨hb1, hkc⟩ := hgood
    have hr : M.newArray k c n = M.add (arrT k c n.toNat) := by unfold Hp.newArray; rw [if_neg hb1, if_pos hkc]
    rw [hr] at hR
    have hot := arrT_ok hb1 hkc
    obtain ⟨m, rfl⟩ : ∃ m : Nat, n = m := ⟨n.toNat, by omega⟩
    rw [Int.toNat_natCast] at hR hot
    exact gnewArray_good w h hk k c m (by omega) _ true hot rfl R hR hkc
  · have hr : M.newArray k c n = (0, 1, M) := by
      unfold Hp.newArray
      by_cases hb1 : n < 0 ∨ 48 < n
      · rw [if_pos hb1]
      · rw [if_neg hb1, if_neg (fun e => hgood ⟨hb1, e⟩)]
    rw [hr] at hR
    have h1 := gthere_rep w h
    have HD : Hid (GDid w L hb (.tuple #[.int .i64 0, .int .i64 1]) M (.returned (.tuple #[.int .i64 0, .int .i64 1])) w) := GDid.none0 h (Only.refl _ _)
    have HGOOD := Lib.hid hgood
    clear h hr hgood hk
    go_enter Tryz.func174, Tryz.ntmps174
    by_cases a1 : k = 3
    · subst a1
      by_cases a2 : c = 0
      · subst a2
        by_cases n1 : n < 0
        · clear HGOOD
          go_wp2_with fail
          refine h1.mono ?_
          rintro e _ ⟨rfl, rfl⟩
          go_wp2_with fail
          exact hR.out _ _ HD.out
        · have n2 : 48 < n := by
            by_cases e : 48 < n
            · exact e
            · exact absurd ⟨by omega, .inl ⟨rfl, rfl⟩⟩ HGOOD.out
          clear HGOOD
          go_wp2_with fail
          refine h1.mono ?_
          rintro e _ ⟨rfl, rfl⟩
          go_wp2_with fail
          exact hR.out _ _ HD.out
      · clear HGOOD
        go_wp2_with fail
        refine h1.mono ?_
        rintro e _ ⟨rfl, rfl⟩
        go_wp2_with fail
        exact hR.out _ _ HD.out
    · by_cases a3 : k = 4
      · subst a3
        by_cases a4 : 0 ≤ c
        · by_cases a5 : c < 10
          · by_cases n1 : n < 0
            · clear HGOOD
              go_wp2_with fail
              refine h1.mono ?_
              rintro e _ ⟨rfl, rfl⟩
              go_wp2_with fail
              exact hR.out _ _ HD.out
            · have n2 : 48 < n := by
                by_cases e : 48 < n
                · exact e
                · exact absurd ⟨by omega, .inr ⟨rfl, a4, a5⟩⟩ HGOOD.out
              clear HGOOD
              go_wp2_with fail
              refine h1.mono ?_
              rintro e _ ⟨rfl, rfl⟩
              go_wp2_with fail
              exact hR.out _ _ HD.out
          · clear HGOOD
            go_wp2_with fail
            refine h1.mono ?_
            rintro e _ ⟨rfl, rfl⟩
            go_wp2_with fail
            exact hR.out _ _ HD.out
        · clear HGOOD
          go_wp2_with fail
          refine h1.mono ?_
          rintro e _ ⟨rfl, rfl⟩
          go_wp2_with fail
          exact hR.out _ _ HD.out
      · clear HGOOD
        go_wp2_with fail
        refine h1.mono ?_
        rintro e _ ⟨rfl, rfl⟩
        go_wp2_with fail
        exact hR.out _ _ HD.out
end
end Go.Proofs.YthflghdaejbdkaaGreat
