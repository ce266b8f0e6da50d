/- Layer 12's laws: sane, refs, before, begun. Layer 12's laws: before (printed by wip/gen/mkbefore.py). Layer 12's laws: sane, begun. -/
import Derived.Test.YtkjocehdbpekjaaGreatMkG
namespace Go.Proofs.YtkjocehdbpekjaaGreat
open Go.RowKit Go.Maps
set_option maxHeartbeats 6400000
set_option maxRecDepth 100000
set_option linter.unusedVariables false
def listF (n : Nat) (f : Nat → Int) : List Int := (List.range n).map f
theorem listF_at {n : Nat} {f : Nat → Int} {i : Nat} (h : i < n) : gI (listF n f) i = f i := by
  unfold gI listF
  rw [List.getElem?_map, List.getElem?_range h]
  rfl
theorem numsRead {w : World} {a : Option Addr} {len cap : Nat} {f : Nat → Int} (h : Nums w a len f) : Read w (.slice a len cap) (listF len f) := by
  have hl : (listF len f).length = len := by simp [listF]
  rcases h.2 with h | ⟨b, o, e, hc⟩
  · subst h
    exact .inr ⟨a, cap, rfl, rfl⟩
  · refine .inl ⟨b, o, cap, by rw [hl, e], fun i hi => ?_⟩
    rw [hl] at hi
    rw [listF_at hi]
    exact (hc i hi).1
theorem numsWf {w : World} {a : Option Addr} {len : Nat} {f : Nat → Int} (h : Nums w a len f) : ∀ x, x ∈ listF len f → wfI x := by
  intro x hx
  obtain ⟨i, hi, rfl⟩ := mem_gI.1 hx
  have hl : (listF len f).length = len := by simp [listF]
  rw [hl] at hi
  rw [listF_at hi]
  rcases h.2 with h | ⟨b, o, e, hc⟩
  · omega
  · exact (hc i hi).2
def bitAt (c : Int) (i : Nat) : Bool := bits BinOp.and IntKind.i64 (c / 2 ^ i) 1 == 1
def cut9 (b : Int) : Nat := min b.toNat 9
def bitsL (b c : Int) (k : Nat) : List Bool := (List.range k).map (bitAt c)
theorem bitsL_len (b c : Int) (k : Nat) : (bitsL b c k).length = k := by simp [bitsL]
theorem bitsL_succ (b c : Int) (k : Nat) : bitsL b c (k + 1) = bitsL b c k ++ [bitAt c k] := by simp [bitsL, List.range_succ]
theorem cut9_le (b : Int) : cut9 b ≤ 9 := Nat.min_le_right _ _
theorem mrefs_any (w : World) (d a b c : Int) : Calls Tryz.prog 47 #[.agg #[.int .i64 d, .int .i64 a, .int .i64 b, .int .i64 c]] w (fun e w' => ∃ v, e = .returned v ∧ Bls w' w.heap.size v (bitsL b c (cut9 b)) ∧ Only [] w w') := by
  refine calls_abs fun R hR => ?_
  have HR1 : Hid (Row (w.alloc (.cells #[.int .i64 d, .int .i64 a, .int .i64 b, .int .i64 c] 73)) w.heap.size 73 [.int .i64 d, .int .i64 a, .int .i64 b, .int .i64 c]) := Row.new w 73 _
  have HO1 : Hid (Only [] w (w.alloc (.cells #[.int .i64 d, .int .i64 a, .int .i64 b, .int .i64 c] 73))) := (Only.refl [] w).alloc _
  go_enter Tryz.func47, Tryz.ntmps47
  go_wp2_with fail
  generalize w.alloc (.cells #[.int .i64 d, .int .i64 a, .int .i64 b, .int .i64 c] 73) = w1 at *
  go_loopw [3, 4] (fun vv iv wr => ∃ k : Nat, k ≤ cut9 b ∧ iv = .int .i64 k ∧ Bls wr w1.heap.size vv (bitsL b c k) ∧ Only [] w1 wr) (fun _ iv _ => cut9 b - (intOf iv).toNat)
  case atStart => exact ⟨0, by omega, rfl, Bls.nil _ _, Only.refl _ _⟩
  case round =>
    obtain ⟨k, hk, rfl, hi, ho⟩ := hrel
    have e2 := (ho.row HR1.out (by simp)).cell 2 rfl
    have e3 := (ho.row HR1.out (by simp)).cell 3 rfl
    have HI := Lib.hid hi
    have HO := Lib.hid ho
    obtain ⟨va, vc, hvv⟩ := hi.len
    have hl : (bitsL b c k).length = k := by simp [bitsL]
    rw [hl] at hvv
    subst hvv
    clear hi ho hl
    by_cases hlt : (k : Int) < b
    · by_cases hl9 : (k : Int) < 9
      · have hk0 : (0 : Int) ≤ k := by omega
        have hkc : k < cut9 b := by unfold cut9; omega
        have HBT : Hid ((bits BinOp.and IntKind.i64 (c / 2 ^ k) 1 == 1) = bitAt c k) := rfl
        have hk9 : k ≤ 9 := Nat.le_trans hk (cut9_le b)
        go_wp2_with (at_builtin; refine append_bl1 rfl _ _ rfl w1.heap.size _ _ rfl (HI.out.alloc _) wr.heap.size (bits BinOp.and IntKind.i64 (c / 2 ^ k) 1 == 1) rfl ?c1 ?c2 ?c3 ?c4)
        case c1 => exact (Row.new wr _ [_]).cell 0 rfl
        case c2 => rw [bitsL_len]; omega
        case c3 => have := HO.out.size; have := HO1.out.size; simp; omega
        case c4 =>
          intro v' w3 hi2 ho2 hb2
          have HO4 : Hid (Only [] w1 w3) := by
            exact (HO.out.alloc _).trans ho2 (fun z hz => .inr (HI.out.own z (own_mem hz)).1)
          have HI4 : Hid (Bls w3 w1.heap.size v' (bitsL b c (k + 1))) := by
            show Bls _ _ _ _
            rw [bitsL_succ, ← HBT.out]; exact hi2
          clear hi2 ho2 hb2 HBT
          go_wp2_with fail
          exact ⟨⟨k + 1, by omega, by go_num, HI4.out, HO4.out⟩, by simp [intOf]; omega⟩
      · have hkc : k = cut9 b := by unfold cut9 at hk ⊢; omega
        have HE : Hid (Bls wr w.heap.size (.slice va k vc) (bitsL b c (cut9 b))) := by rw [← hkc]; exact HI.out.base HO1.out.size
        have HOE : Hid (Only [] w wr) := HO1.out.trans HO.out (by simp)
        clear hkc
        go_wp2_with fail
        exact hR.out _ _ ⟨_, rfl, HE.out, HOE.out⟩
    · have hkc : k = cut9 b := by unfold cut9 at hk ⊢; omega
      have HE : Hid (Bls wr w.heap.size (.slice va k vc) (bitsL b c (cut9 b))) := by rw [← hkc]; exact HI.out.base HO1.out.size
      have HOE : Hid (Only [] w wr) := HO1.out.trans HO.out (by simp)
      clear hkc
      go_wp2_with fail
      exact hR.out _ _ ⟨_, rfl, HE.out, HOE.out⟩
/-- Two numbers lists are compared. -/
theorem mints_same (w : World) (v1 v2 : Value) (l : List Int) (h1 : Read w v1 l) (h2 : Read w v2 l) (hl : l.length ≤ 1000) :
    Calls Tryz.prog 111 #[v1, v2] w (fun e w' => e = .returned (.bool true) ∧ Drew w w') := by
  refine calls_abs fun R hR => ?_
  obtain ⟨a1, c1, rfl⟩ := h1.len
  obtain ⟨a2, c2, rfl⟩ := h2.len
  have H1 := Lib.hid h1
  have H2 := Lib.hid h2
  obtain ⟨n, hn⟩ : ∃ n, n = l.length := ⟨_, rfl⟩
  rw [← hn] at hl H1 H2 ⊢
  have HN := Lib.hid hn
  clear h1 h2 hn
  go_enter Tryz.func111, Tryz.ntmps111
  go_wp2_with fail
  go_loopw [5] (fun iv wr => ∃ k m : Nat, k ≤ n ∧ iv = .int .i64 k ∧ wr = w.drewN m) (fun iv _ => n - (intOf iv).toNat)
  case atStart => exact ⟨0, 0, by omega, rfl, rfl⟩
  case round =>
    obtain ⟨k, m, hk, rfl, rfl⟩ := hrel
    by_cases hlt : k < n
    · have hlt' : k < l.length := by have := HN.out; omega
      rcases H1.out with ⟨b1, o1, d1, f1, g1⟩ | ⟨oa, d, f1, g1⟩
      rotate_left
      · rw [g1] at hlt'; simp at hlt'
      rcases H2.out with ⟨b2, o2, d2, f2, g2⟩ | ⟨oa, d, f2, g2⟩
      rotate_left
      · rw [g2] at hlt'; simp at hlt'
      have e1 : a1 = some ⟨b1, o1, none⟩ := by cases f1; rfl
      have e2 : a2 = some ⟨b2, o2, none⟩ := by cases f2; rfl
      subst e1 e2
      have k1 := g1 k hlt'
      have k2 := g2 k hlt'
      have hb1 : (0 : Int) ≤ k := by omega
      have hb2 : (k : Int) < n := by omega
      generalize gI l k = z at *
      clear g1 g2 f1 f2
      go_wp2_with fail
      go_quiet (fail)
      go_wp2_with fail
      exact ⟨⟨k + 1, _, by omega, by go_num, rfl⟩, by simp [intOf]; omega⟩
    · obtain rfl : k = n := by omega
      go_wp2_with fail
      exact hR.out _ _ ⟨rfl, m, rfl⟩
end Go.Proofs.YtkjocehdbpekjaaGreat
namespace Go.Proofs.YtkjocehdbpekjaaGreat
open Go.RowKit Go.Maps
set_option maxHeartbeats 12800000
set_option maxRecDepth 100000
set_option linter.unusedVariables false
theorem mbefore_any (w0 w : World) {p q : Nat} {M : Hp} (hf : Fam w0 w [PH p M, GH q M]) (b : Option Addr) (n cap : Nat) (f : Nat → Nat → Int) (hd : Recs 4 w0 b n f) :
    Calls Tryz.prog 83 #[.pointer (some ⟨p, 0, none⟩), .pointer (some ⟨q, 0, none⟩), .slice b n cap] w (fun e w' => e = .returned (.bool true) ∧ ∃ M', Fam w0 w' [PH p M', GH q M']) := by
  refine calls_abs fun R hR => ?_
  have HF := Lib.hid hf
  have HD := Lib.hid hd
  clear hf hd
  go_enter Tryz.func83, Tryz.ntmps83
  go_wp2_with fail
  go_loopw [7] (fun iv wr => ∃ (x : Nat) (M : Hp), x ≤ n ∧ x ≤ 80 ∧ iv = .int .i64 x ∧ Fam w0 wr [PH p M, GH q M]) (fun iv _ => n - (intOf iv).toNat)
  case atStart => exact ⟨0, M, by omega, by omega, rfl, HF.out⟩
  case round =>
    clear HF
    obtain ⟨x, N, hx, hx80, rfl, hF⟩ := hrel
    have HF := Lib.hid hF
    clear hF
    by_cases hlt : x < n ∧ x < 80
    · obtain ⟨hlt, hl8⟩ := hlt
      have hlt1 : (x : Int) < n := by omega
      have hx0 : (0 : Int) ≤ x := by omega
      have hl81 : (x : Int) < 80 := by omega
      rcases HD.out.2 with h0 | ⟨bb, oo, rfl, hc⟩
      · omega
      have c0 := HF.out.cell (hc x (by omega) 0 (by omega)).1
      have c1 := HF.out.cell (hc x (by omega) 1 (by omega)).1
      have c2 := HF.out.cell (hc x (by omega) 2 (by omega)).1
      have c3 := HF.out.cell (hc x (by omega) 3 (by omega)).1
      rw [Nat.add_zero] at c0
      rw [← Nat.add_assoc] at c1 c2 c3
      have wa := (hc x (by omega) 1 (by omega)).2
      have wb := (hc x (by omega) 2 (by omega)).2
      have wc := (hc x (by omega) 3 (by omega)).2
      generalize f x 0 = d0 at *
      generalize f x 1 = d1 at *
      generalize f x 2 = d2 at *
      generalize f x 3 = d3 at *
      clear hc
      by_cases hd0 : d0 = 0
      · subst hd0
        have HFA := Lib.hid (HF.out.addRow 73 [.int .i64 0, .int .i64 d1, .int .i64 d2, .int .i64 d3])
        replace HFA : Hid (Fam w0 (wr.alloc (.cells #[.int .i64 0, .int .i64 d1, .int .i64 d2, .int .i64 d3] 73)) [PH p N, GH q N, RowA wr.heap.size 73 [.int .i64 0, .int .i64 d1, .int .i64 d2, .int .i64 d3]]) := HFA
        have e0 := (HFA.out.row 2 rfl).cell 0 rfl
        have e1 := (HFA.out.row 2 rfl).cell 1 rfl
        have e2 := (HFA.out.row 2 rfl).cell 2 rfl
        have e3 := (HFA.out.row 2 rfl).cell 3 rfl
        obtain ⟨sg, hsg⟩ : ∃ z, z = wr.heap.size := ⟨_, rfl⟩
        rw [← hsg] at HFA e0 e1 e2 e3
        have HC1 : Hid (∀ wx v, Fam w0 wx [PH p N, GH q N, RowA sg 73 [.int .i64 0, .int .i64 d1, .int .i64 d2, .int .i64 d3]] → BArg wx v (bitsL d2 d3 (cut9 d2)) → Calls Tryz.prog 62 #[.pointer (some ⟨p, 0, none⟩), .int .i64 d1, v] wx (fun e w1 => e = .returned (.tuple #[.int .i64 (N.newObject d1 (bitsL d2 d3 (cut9 d2))).1, .int .i64 (N.newObject d1 (bitsL d2 d3 (cut9 d2))).2.1]) ∧ Fam w0 w1 [PH p (N.newObject d1 (bitsL d2 d3 (cut9 d2))).2.2, GH q N, RowA sg 73 [.int .i64 0, .int .i64 d1, .int .i64 d2, .int .i64 d3]])) := fun wx v hf hb =>
          hf.pstep 0 rfl (fun hk => hk.newObject d1 _) (fun L X hr hk => newObject_rep wx hr hk d1 v _ hb (by rw [bitsL_len]; have := cut9_le d2; omega))
        have HC2 : Hid (∀ wx v, Fam w0 wx [PH p (N.newObject d1 (bitsL d2 d3 (cut9 d2))).2.2, GH q N, RowA sg 73 [.int .i64 0, .int .i64 d1, .int .i64 d2, .int .i64 d3]] → BArg wx v (bitsL d2 d3 (cut9 d2)) → Calls Tryz.prog 63 #[.pointer (some ⟨q, 0, none⟩), .int .i64 d1, v] wx (fun e w1 => e = .returned (.tuple #[.int .i64 (N.newObject d1 (bitsL d2 d3 (cut9 d2))).1, .int .i64 (N.newObject d1 (bitsL d2 d3 (cut9 d2))).2.1]) ∧ Fam w0 w1 [PH p (N.newObject d1 (bitsL d2 d3 (cut9 d2))).2.2, GH q (N.newObject d1 (bitsL d2 d3 (cut9 d2))).2.2, RowA sg 73 [.int .i64 0, .int .i64 d1, .int .i64 d2, .int .i64 d3]])) := fun wx v hf hb =>
          hf.gstep 1 rfl (fun hk => hk.newObject d1 _) (fun L X hr hk => gnewObject_rep wx hr hk d1 v _ hb (by rw [bitsL_len]; have := cut9_le d2; omega))
        generalize N.newObject d1 (bitsL d2 d3 (cut9 d2)) = r at *
        obtain ⟨r1, r2, N'⟩ := r
        go_wp2_with fail
        rw [← hsg]
        generalize wr.alloc (.cells #[.int .i64 0, .int .i64 d1, .int .i64 d2, .int .i64 d3] 73) = w1 at *
        clear hsg c0 c1 c2 c3
        have HFD := Lib.hid HFA.out.drew
        go_region_held3 (fun w' => w'.cell? ⟨sg, 0, none⟩ = some (.int .i64 0) ∧ w'.cell? ⟨sg, 1, none⟩ = some (.int .i64 d1) ∧ w'.cell? ⟨sg, 2, none⟩ = some (.int .i64 d2) ∧ w'.cell? ⟨sg, 3, none⟩ = some (.int .i64 d3))
          (first | (exact ⟨e0, e1, e2, e3⟩) | (exact ⟨(f4.row 2 rfl).cell 0 rfl, (f4.row 2 rfl).cell 1 rfl, (f4.row 2 rfl).cell 2 rfl, (f4.row 2 rfl).cell 3 rfl⟩) | (exact ⟨(f3.row 2 rfl).cell 0 rfl, (f3.row 2 rfl).cell 1 rfl, (f3.row 2 rfl).cell 2 rfl, (f3.row 2 rfl).cell 3 rfl⟩))
          (first
            | (go_at_call 47; refine (mrefs_any _ 0 d1 d2 d3).mono ?_; rintro e w3 ⟨v1, rfl, hb3, ho3⟩; have f3 := HFD.out.only0 ho3)
            | (go_at_call 62; refine (HC1.out w3 v1 f3 hb3.barg).mono ?_; rintro e w4 ⟨rfl, f4⟩))
        have HF4 := Lib.hid f4
        have HFD4 := Lib.hid f4.drew
        obtain ⟨e0, e1, e2, e3⟩ : (w4.drew.cell? ⟨sg, 0, none⟩ = some (.int .i64 0)) ∧ (w4.drew.cell? ⟨sg, 1, none⟩ = some (.int .i64 d1)) ∧ (w4.drew.cell? ⟨sg, 2, none⟩ = some (.int .i64 d2)) ∧ (w4.drew.cell? ⟨sg, 3, none⟩ = some (.int .i64 d3)) := ⟨(HFD4.out.row 2 rfl).cell 0 rfl, (HFD4.out.row 2 rfl).cell 1 rfl, (HFD4.out.row 2 rfl).cell 2 rfl, (HFD4.out.row 2 rfl).cell 3 rfl⟩
        clear f3 f4 hb3 ho3 HC1
        go_wp2_with fail
        go_region_held3 (fun w' => w'.cell? ⟨sg, 0, none⟩ = some (.int .i64 0) ∧ w'.cell? ⟨sg, 1, none⟩ = some (.int .i64 d1) ∧ w'.cell? ⟨sg, 2, none⟩ = some (.int .i64 d2) ∧ w'.cell? ⟨sg, 3, none⟩ = some (.int .i64 d3))
          (first | (exact ⟨e0, e1, e2, e3⟩) | (exact ⟨(f6.row 2 rfl).cell 0 rfl, (f6.row 2 rfl).cell 1 rfl, (f6.row 2 rfl).cell 2 rfl, (f6.row 2 rfl).cell 3 rfl⟩) | (exact ⟨(f5.row 2 rfl).cell 0 rfl, (f5.row 2 rfl).cell 1 rfl, (f5.row 2 rfl).cell 2 rfl, (f5.row 2 rfl).cell 3 rfl⟩))
          (first
            | (go_at_call 47; refine (mrefs_any _ 0 d1 d2 d3).mono ?_; rintro e w5 ⟨v2, rfl, hb5, ho5⟩; have f5 := HFD4.out.only0 ho5)
            | (go_at_call 63; refine (HC2.out w5 v2 f5 hb5.barg).mono ?_; rintro e w6 ⟨rfl, f6⟩))
        have HFE : Hid (Fam w0 w6 [PH p N', GH q N']) := Fam.pop (l := [PH p N', GH q N']) f6
        clear f5 f6 hb5 ho5
        go_wp2_with fail
        exact ⟨⟨x + 1, N', by omega, by omega, by go_num, HFE.out⟩, by simp [intOf]; omega⟩
      · by_cases hd1 : d0 = 1
        · subst hd1
          have HFA := Lib.hid (HF.out.addRow 73 [.int .i64 1, .int .i64 d1, .int .i64 d2, .int .i64 d3])
          replace HFA : Hid (Fam w0 (wr.alloc (.cells #[.int .i64 1, .int .i64 d1, .int .i64 d2, .int .i64 d3] 73)) [PH p N, GH q N, RowA wr.heap.size 73 [.int .i64 1, .int .i64 d1, .int .i64 d2, .int .i64 d3]]) := HFA
          have e0 := (HFA.out.row 2 rfl).cell 0 rfl
          have e1 := (HFA.out.row 2 rfl).cell 1 rfl
          have e2 := (HFA.out.row 2 rfl).cell 2 rfl
          have e3 := (HFA.out.row 2 rfl).cell 3 rfl
          obtain ⟨sg, hsg⟩ : ∃ z, z = wr.heap.size := ⟨_, rfl⟩
          rw [← hsg] at HFA e0 e1 e2 e3
          have HC1 : Hid (∀ wx, Fam w0 wx [PH p N, GH q N, RowA sg 73 [.int .i64 1, .int .i64 d1, .int .i64 d2, .int .i64 d3]] → Calls Tryz.prog 107 #[.pointer (some ⟨p, 0, none⟩), .int .i64 d1, .int .i64 d3, .int .i64 d2] wx (fun e w1 => e = .returned (.tuple #[.int .i64 (N.newArray d1 d3 d2).1, .int .i64 (N.newArray d1 d3 d2).2.1]) ∧ Fam w0 w1 [PH p (N.newArray d1 d3 d2).2.2, GH q N, RowA sg 73 [.int .i64 1, .int .i64 d1, .int .i64 d2, .int .i64 d3]])) := fun wx hf =>
            hf.pstep 0 rfl (fun hk => hk.newArray d1 d3 d2) (fun L X hr hk => newArray_rep wx hr hk d1 d3 d2)
          have HC2 : Hid (∀ wx, Fam w0 wx [PH p (N.newArray d1 d3 d2).2.2, GH q N, RowA sg 73 [.int .i64 1, .int .i64 d1, .int .i64 d2, .int .i64 d3]] → Calls Tryz.prog 150 #[.pointer (some ⟨q, 0, none⟩), .int .i64 d1, .int .i64 d3, .int .i64 d2] wx (fun e w1 => e = .returned (.tuple #[.int .i64 (N.newArray d1 d3 d2).1, .int .i64 (N.newArray d1 d3 d2).2.1]) ∧ Fam w0 w1 [PH p (N.newArray d1 d3 d2).2.2, GH q (N.newArray d1 d3 d2).2.2, RowA sg 73 [.int .i64 1, .int .i64 d1, .int .i64 d2, .int .i64 d3]])) := fun wx hf =>
            hf.gstep 1 rfl (fun hk => hk.newArray d1 d3 d2) (fun L X hr hk => gnewArray_rep wx hr hk d1 d3 d2)
          generalize N.newArray d1 d3 d2 = r at *
          obtain ⟨r1, r2, N'⟩ := r
          have k1 := HC1.out _ HFA.out
          rw [hsg] at k1 HC2 e0 e1 e2 e3
          clear hsg HFA
          go_wp2_with fail
          refine k1.mono ?_
          rintro e w3 ⟨rfl, f3⟩
          have k2 := HC2.out _ f3
          obtain ⟨e1, e2, e3⟩ : (w3.cell? ⟨wr.heap.size, 1, none⟩ = some (.int .i64 d1)) ∧ (w3.cell? ⟨wr.heap.size, 2, none⟩ = some (.int .i64 d2)) ∧ (w3.cell? ⟨wr.heap.size, 3, none⟩ = some (.int .i64 d3)) := ⟨(f3.row 2 rfl).cell 1 rfl, (f3.row 2 rfl).cell 2 rfl, (f3.row 2 rfl).cell 3 rfl⟩
          clear k1 f3 HC1 HC2
          go_wp2_with fail
          refine k2.mono ?_
          rintro e w4 ⟨rfl, f4⟩
          have HFE : Hid (Fam w0 w4 [PH p N', GH q N']) := Fam.pop (l := [PH p N', GH q N']) f4
          clear k2 f4
          go_wp2_with fail
          exact ⟨⟨x + 1, N', by omega, by omega, by go_num, HFE.out⟩, by simp [intOf]; omega⟩
        · by_cases hd2 : d0 = 2
          · subst hd2
            have HFA := Lib.hid (HF.out.addRow 73 [.int .i64 2, .int .i64 d1, .int .i64 d2, .int .i64 d3])
            replace HFA : Hid (Fam w0 (wr.alloc (.cells #[.int .i64 2, .int .i64 d1, .int .i64 d2, .int .i64 d3] 73)) [PH p N, GH q N, RowA wr.heap.size 73 [.int .i64 2, .int .i64 d1, .int .i64 d2, .int .i64 d3]]) := HFA
            have e0 := (HFA.out.row 2 rfl).cell 0 rfl
            have e1 := (HFA.out.row 2 rfl).cell 1 rfl
            have e2 := (HFA.out.row 2 rfl).cell 2 rfl
            have e3 := (HFA.out.row 2 rfl).cell 3 rfl
            obtain ⟨sg, hsg⟩ : ∃ z, z = wr.heap.size := ⟨_, rfl⟩
            rw [← hsg] at HFA e0 e1 e2 e3
            have HP1 : Hid (∀ wx Q, Fam w0 wx [PH p N, GH q Q, RowA sg 73 [.int .i64 2, .int .i64 d1, .int .i64 d2, .int .i64 d3]] → Calls Tryz.prog 64 #[.pointer (some ⟨p, 0, none⟩), .int .i64 d1, .int .i64 d2, .int .i64 d3] wx (fun e w1 => e = .returned (.int .i64 (N.set d1 d2 d3).1) ∧ Fam w0 w1 [PH p (N.set d1 d2 d3).2, GH q Q, RowA sg 73 [.int .i64 2, .int .i64 d1, .int .i64 d2, .int .i64 d3]])) := fun wx Q hf =>
              hf.pstep 0 rfl (fun hk => hk.set d1 d2 d3) (fun L X hr hk => set_rep wx hr hk d1 d2 d3 wa wc)
            have HG1 : Hid (∀ wx Q, Fam w0 wx [PH p Q, GH q N, RowA sg 73 [.int .i64 2, .int .i64 d1, .int .i64 d2, .int .i64 d3]] → Calls Tryz.prog 65 #[.pointer (some ⟨q, 0, none⟩), .int .i64 d1, .int .i64 d2, .int .i64 d3] wx (fun e w1 => e = .returned (.int .i64 (N.set d1 d2 d3).1) ∧ Fam w0 w1 [PH p Q, GH q (N.set d1 d2 d3).2, RowA sg 73 [.int .i64 2, .int .i64 d1, .int .i64 d2, .int .i64 d3]])) := fun wx Q hf =>
              hf.gstep 1 rfl (fun hk => hk.set d1 d2 d3) (fun L X hr hk => gset_rep wx hr hk d1 d2 d3)
            generalize N.set d1 d2 d3 = r at *
            obtain ⟨r1, N'⟩ := r
            go_wp2_with fail
            rw [← hsg]
            generalize wr.alloc (.cells #[.int .i64 2, .int .i64 d1, .int .i64 d2, .int .i64 d3] 73) = w1 at *
            clear hsg c0 c1 c2 c3
            have HFD := Lib.hid HFA.out.drew
            go_region_held3 (fun w' => w'.cell? ⟨sg, 0, none⟩ = some (.int .i64 2) ∧ w'.cell? ⟨sg, 1, none⟩ = some (.int .i64 d1) ∧ w'.cell? ⟨sg, 2, none⟩ = some (.int .i64 d2) ∧ w'.cell? ⟨sg, 3, none⟩ = some (.int .i64 d3))
              (first | (exact ⟨e0, e1, e2, e3⟩) | (exact ⟨(g4.row 2 rfl).cell 0 rfl, (g4.row 2 rfl).cell 1 rfl, (g4.row 2 rfl).cell 2 rfl, (g4.row 2 rfl).cell 3 rfl⟩) | (exact ⟨(f4.row 2 rfl).cell 0 rfl, (f4.row 2 rfl).cell 1 rfl, (f4.row 2 rfl).cell 2 rfl, (f4.row 2 rfl).cell 3 rfl⟩) | (exact ⟨(f3.row 2 rfl).cell 0 rfl, (f3.row 2 rfl).cell 1 rfl, (f3.row 2 rfl).cell 2 rfl, (f3.row 2 rfl).cell 3 rfl⟩) | (exact ⟨(g3.row 2 rfl).cell 0 rfl, (g3.row 2 rfl).cell 1 rfl, (g3.row 2 rfl).cell 2 rfl, (g3.row 2 rfl).cell 3 rfl⟩))
              (first
                | (go_at_call 64; refine (HP1.out _ _ HFD.out).mono ?_; rintro e w3 ⟨rfl, f3⟩)
                | (go_at_call 64; refine (HP1.out _ _ g3).mono ?_; rintro e w4 ⟨rfl, f4⟩; have hfin := f4)
                | (go_at_call 65; refine (HG1.out _ _ HFD.out).mono ?_; rintro e w3 ⟨rfl, g3⟩)
                | (go_at_call 65; refine (HG1.out _ _ f3).mono ?_; rintro e w4 ⟨rfl, g4⟩; have hfin := g4))
            all_goals
              have HFE : Hid (Fam w0 w4 [PH p N', GH q N']) := Fam.pop (l := [PH p N', GH q N']) hfin
              clear hfin
              go_wp2_with fail
              exact ⟨⟨x + 1, N', by omega, by omega, by go_num, HFE.out⟩, by simp [intOf]; omega⟩
          · by_cases hd6 : d0 = 6
            · subst hd6
              have HFA := Lib.hid (HF.out.addRow 73 [.int .i64 6, .int .i64 d1, .int .i64 d2, .int .i64 d3])
              replace HFA : Hid (Fam w0 (wr.alloc (.cells #[.int .i64 6, .int .i64 d1, .int .i64 d2, .int .i64 d3] 73)) [PH p N, GH q N, RowA wr.heap.size 73 [.int .i64 6, .int .i64 d1, .int .i64 d2, .int .i64 d3]]) := HFA
              have e0 := (HFA.out.row 2 rfl).cell 0 rfl
              have e1 := (HFA.out.row 2 rfl).cell 1 rfl
              have e2 := (HFA.out.row 2 rfl).cell 2 rfl
              have e3 := (HFA.out.row 2 rfl).cell 3 rfl
              obtain ⟨sg, hsg⟩ : ∃ z, z = wr.heap.size := ⟨_, rfl⟩
              rw [← hsg] at HFA e0 e1 e2 e3
              have HP1 : Hid (∀ wx Q, Fam w0 wx [PH p N, GH q Q, RowA sg 73 [.int .i64 6, .int .i64 d1, .int .i64 d2, .int .i64 d3]] → Calls Tryz.prog 95 #[.pointer (some ⟨p, 0, none⟩), .int .i64 d1] wx (fun e w1 => e = .returned (.int .i64 (N.release d1).1) ∧ Fam w0 w1 [PH p (N.release d1).2, GH q Q, RowA sg 73 [.int .i64 6, .int .i64 d1, .int .i64 d2, .int .i64 d3]])) := fun wx Q hf =>
                hf.pstep 0 rfl (fun hk => hk.release d1) (fun L X hr hk => release_rep wx hr hk d1 wa)
              have HG1 : Hid (∀ wx Q, Fam w0 wx [PH p Q, GH q N, RowA sg 73 [.int .i64 6, .int .i64 d1, .int .i64 d2, .int .i64 d3]] → Calls Tryz.prog 96 #[.pointer (some ⟨q, 0, none⟩), .int .i64 d1] wx (fun e w1 => e = .returned (.int .i64 (N.release d1).1) ∧ Fam w0 w1 [PH p Q, GH q (N.release d1).2, RowA sg 73 [.int .i64 6, .int .i64 d1, .int .i64 d2, .int .i64 d3]])) := fun wx Q hf =>
                hf.gstep 1 rfl (fun hk => hk.release d1) (fun L X hr hk => grelease_rep wx hr hk d1)
              generalize N.release d1 = r at *
              obtain ⟨r1, N'⟩ := r
              go_wp2_with fail
              rw [← hsg]
              generalize wr.alloc (.cells #[.int .i64 6, .int .i64 d1, .int .i64 d2, .int .i64 d3] 73) = w1 at *
              clear hsg c0 c1 c2 c3
              have HFD := Lib.hid HFA.out.drew
              go_region_held3 (fun w' => w'.cell? ⟨sg, 0, none⟩ = some (.int .i64 6) ∧ w'.cell? ⟨sg, 1, none⟩ = some (.int .i64 d1) ∧ w'.cell? ⟨sg, 2, none⟩ = some (.int .i64 d2) ∧ w'.cell? ⟨sg, 3, none⟩ = some (.int .i64 d3))
                (first | (exact ⟨e0, e1, e2, e3⟩) | (exact ⟨(g4.row 2 rfl).cell 0 rfl, (g4.row 2 rfl).cell 1 rfl, (g4.row 2 rfl).cell 2 rfl, (g4.row 2 rfl).cell 3 rfl⟩) | (exact ⟨(f4.row 2 rfl).cell 0 rfl, (f4.row 2 rfl).cell 1 rfl, (f4.row 2 rfl).cell 2 rfl, (f4.row 2 rfl).cell 3 rfl⟩) | (exact ⟨(f3.row 2 rfl).cell 0 rfl, (f3.row 2 rfl).cell 1 rfl, (f3.row 2 rfl).cell 2 rfl, (f3.row 2 rfl).cell 3 rfl⟩) | (exact ⟨(g3.row 2 rfl).cell 0 rfl, (g3.row 2 rfl).cell 1 rfl, (g3.row 2 rfl).cell 2 rfl, (g3.row 2 rfl).cell 3 rfl⟩))
                (first
                  | (go_at_call 95; refine (HP1.out _ _ HFD.out).mono ?_; rintro e w3 ⟨rfl, f3⟩)
                  | (go_at_call 95; refine (HP1.out _ _ g3).mono ?_; rintro e w4 ⟨rfl, f4⟩; have hfin := f4)
                  | (go_at_call 96; refine (HG1.out _ _ HFD.out).mono ?_; rintro e w3 ⟨rfl, g3⟩)
                  | (go_at_call 96; refine (HG1.out _ _ f3).mono ?_; rintro e w4 ⟨rfl, g4⟩; have hfin := g4))
              all_goals
                have HFE : Hid (Fam w0 w4 [PH p N', GH q N']) := Fam.pop (l := [PH p N', GH q N']) hfin
                clear hfin
                go_wp2_with fail
                exact ⟨⟨x + 1, N', by omega, by omega, by go_num, HFE.out⟩, by simp [intOf]; omega⟩
            · have k0 : (d0 == 0) = false := by simpa using hd0
              have k1 : (d0 == 1) = false := by simpa using hd1
              have k2 : (d0 == 2) = false := by simpa using hd2
              have k6 : (d0 == 6) = false := by simpa using hd6
              have e0 := (Row.new wr 73 [.int .i64 d0, .int .i64 d1, .int .i64 d2, .int .i64 d3]).cell 0 rfl
              have HFE : Hid (Fam w0 (wr.alloc (.cells #[.int .i64 d0, .int .i64 d1, .int .i64 d2, .int .i64 d3] 73)) [PH p N, GH q N]) := HF.out.alloc _
              go_wp2_with fail
              exact ⟨⟨x + 1, N, by omega, by omega, by go_num, HFE.out⟩, by simp [intOf]; omega⟩
    · have hcs : (x : Int) < n ∧ ¬ (x : Int) < 80 ∨ ¬ (x : Int) < n := by omega
      rcases hcs with ⟨h1, h2⟩ | h1
      · go_wp2_with fail
        exact hR.out _ _ ⟨rfl, N, HF.out⟩
      · go_wp2_with fail
        exact hR.out _ _ ⟨rfl, N, HF.out⟩
end Go.Proofs.YtkjocehdbpekjaaGreat
namespace Go.Proofs.YtkjocehdbpekjaaGreat
open Go.RowKit Go.Maps
set_option maxHeartbeats 12800000
set_option maxRecDepth 100000
set_option linter.unusedVariables false
def kM0 : Hp := Hp.new 2
def kM1 : Hp := (kM0.newObject 0 [true]).2.2
def kM2 : Hp := (kM1.newObject 0 []).2.2
def kM3 : Hp := (kM2.set 1 0 2).2
def km0 : Mk := (Mk.start kM3).shades [1]
def km1 : Mk := (km0.store 1 0 0).2
theorem ksane_r : (kM0.newObject 0 [true]).1 = 1 ∧ (kM0.newObject 0 [true]).2.1 = 0 ∧ (kM1.newObject 0 []).1 = 2 ∧ (kM1.newObject 0 []).2.1 = 0 ∧ (kM2.set 1 0 2).1 = 0 ∧ (kM3.ob 1).isSome = true ∧ (km0.store 1 0 0).1 = 0 := by decide +kernel
theorem ksane_s : (km1.steps 0).list ≠ [] ∧ (km1.steps 1).list ≠ [] ∧ (km1.steps 2).list = [] ∧ (km1.steps 2).color 1 = (2, 0) ∧ (km1.steps 2).color 2 = (2, 0) := by decide +kernel
theorem ksane_ok : kM0.OkF ∧ kM1.OkF ∧ kM2.OkF ∧ kM3.OkF ∧ km0.Ok ∧ km1.Ok := by
  have h0 : kM0.OkF := Hp.OkF.new (by decide) (by decide)
  have h1 : kM1.OkF := h0.newObject 0 [true]
  have h2 : kM2.OkF := h1.newObject 0 []
  have h3 : kM3.OkF := h2.set 1 0 2
  have h4 : km0.Ok := Mk.Ok.shades _ _ (Mk.Ok.start h3)
  exact ⟨h0, h1, h2, h3, h4, h4.store 1 0 0⟩
theorem ksane_bad : ¬ kM3.badRoot [1] := by
  rintro ⟨x, h1, h2, h3⟩
  simp at h1
  rw [h1] at h3
  have := ksane_r.2.2.2.2.2.1
  rw [h3] at this
  cases this
theorem ksane_run : km1.runs = 2 ∧ km1.run = km1.steps 2 := by
  obtain ⟨h0, h1, h2, _, _⟩ := ksane_s
  have h := Mk.runs_eq ksane_ok.2.2.2.2.2 (i := 2) (fun j hj => by
    match j, hj with
    | 0, _ => exact h0
    | 1, _ => exact h1) h2
  exact ⟨h.symm, by unfold Mk.run; rw [← h]⟩
theorem barg_nil (w : World) : BArg w (.slice none 0 0) [] := .inl ⟨rfl, rfl⟩
theorem barg_row {w : World} {b T : Nat} {x : Bool} (h : Row w b T [.bool x]) : BArg w (.slice (some ⟨b, 0, none⟩) 1 1) [x] := .inr ⟨⟨b, 0, none⟩, 1, rfl, fun i hi => by
  match i, hi with
  | 0, _ => exact h.cell 0 rfl⟩
theorem msane_any (w : World) : Calls Tryz.prog 37 #[] w (fun e w' => e = .returned (.bool true) ∧ Only [] w w') := by
  refine calls_abs fun R hR => ?_
  have hn := hnew_good w 2 (by decide) (by decide)
  go_enter Tryz.func37, Tryz.ntmps37
  go_wp2_with fail
  refine hn.mono ?_
  rintro e w1 ⟨hb, L, X, rfl, hp, hL, ho⟩
  have f1 : Fam w w1 [PH hb kM0] := (Fam.nil w).add (pborn hp ksane_ok.1 hL ho)
  have HB1 : Hid (Fam w (w1.alloc (.cells #[.bool true] 4)) [PH hb kM0]) := f1.alloc _
  have c1 := HB1.out.pstep 0 rfl (M' := kM1) (fun hk => hk.newObject 0 [true]) (fun L X hr hk => newObject_rep _ hr hk 0 (.slice (some ⟨w1.heap.size, 0, none⟩) 1 1) [true] (barg_row (Row.new w1 4 [.bool true])) (by decide))
  rw [ksane_r.1, ksane_r.2.1] at c1
  clear hn hp hL ho f1
  go_wp2_with fail
  refine c1.mono ?_
  rintro e w2 ⟨rfl, f2⟩
  have HF2 : Hid (Fam w w2 [PH hb kM1]) := f2
  have c2 := HF2.out.pstep 0 rfl (M' := kM2) (fun hk => hk.newObject 0 []) (fun L X hr hk => newObject_rep _ hr hk 0 (.slice none 0 0) [] (barg_nil _) (by decide))
  rw [ksane_r.2.2.1, ksane_r.2.2.2.1] at c2
  clear c1 f2 HB1
  go_wp2_with fail
  refine c2.mono ?_
  rintro e w3 ⟨rfl, f3⟩
  have HF3 : Hid (Fam w w3 [PH hb kM2]) := f3
  have c3 := HF3.out.pstep 0 rfl (M' := kM3) (fun hk => hk.set 1 0 2) (fun L X hr hk => set_rep _ hr hk 1 0 2 (by decide) (by decide))
  rw [ksane_r.2.2.2.2.1] at c3
  clear c2 f3 HF2
  go_wp2_with fail
  refine c3.mono ?_
  rintro e w4 ⟨rfl, f4⟩
  have HF4 : Hid (Fam w w4 [PH hb kM3]) := f4
  have HF5 : Hid (Fam w (w4.alloc (.cells #[.int .i64 1] 3)) [PH hb kM3, RowA w4.heap.size 3 [.int .i64 1]]) := HF4.out.addRow 3 [.int .i64 1]
  have hrd : ∀ w', Row w' w4.heap.size 3 [.int .i64 1] → Read w' (.slice (some ⟨w4.heap.size, 0, none⟩) 1 1) [1] := fun w' h => .inl ⟨w4.heap.size, 0, 1, rfl, fun i hi => by
    match i, hi with
    | 0, _ => exact h.cell 0 rfl⟩
  have c4 := mbegin_rep _ HF5.out (i := 0) rfl (some ⟨w4.heap.size, 0, none⟩) 1 1 [1] rfl (by decide) (fun x hx => by simp at hx; rw [hx]; decide) (hrd _ (HF5.out.row 1 rfl)) (fun p w' m' h7 => hrd _ (h7.row 1 (ML.other rfl (by decide))))
  clear c3 f4 HF3 HF4
  go_wp2_with fail
  refine c4.mono ?_
  rintro e w6 (⟨hbad, _, _⟩ | ⟨_, p, rfl, f6⟩)
  · exact absurd hbad ksane_bad
  have T2 : Two2 ([PH hb kM3, RowA w4.heap.size 3 [.int .i64 1]] ++ [MkA p hb (fun _ => 0) []]) 0 2 := Two2.born rfl
  have HT2 := Lib.hid T2
  have HF6 : Hid (Fam w w6 (ML ([PH hb kM3, RowA w4.heap.size 3 [.int .i64 1]] ++ [MkA p hb (fun _ => 0) []]) 0 2 hb p km0)) := f6
  have c5 := mstore_rep w6 T2 HF6.out ksane_ok.2.2.2.2.1 1 0 0 (by decide) (by decide)
  rw [ksane_r.2.2.2.2.2.2] at c5
  clear c4 f6 HF5 hrd T2
  go_wp2_with fail
  refine c5.mono ?_
  rintro e w7 ⟨rfl, f7⟩
  have c6 := mrun_rep w7 HT2.out f7 ksane_ok.2.2.2.2.2
  replace c6 : Calls Tryz.prog _ _ w7 (fun e w' => e = .returned (.int .i64 (km1.runs : Int)) ∧ Fam w w' (ML _ 0 2 hb p km1.run)) := c6
  rw [ksane_run.1, ksane_run.2] at c6
  clear c5 f7 HF6
  go_wp2_with fail
  refine c6.mono ?_
  rintro e w8 ⟨rfl, f8⟩
  have HF8 := Lib.hid f8
  have c7 := mcolor_rep w8 HT2.out f8 1 (by decide)
  have HC8 : Hid (∀ n, Calls Tryz.prog 33 #[.pointer (some ⟨p, 0, none⟩), .int .i64 2] (w8.drewN n) (Same (w8.drewN n) (.tuple #[.int .i64 2, .int .i64 0]))) := fun n => by
    have := mcolor_rep (w8.drewN n) HT2.out (HF8.out.drewN n) 2 (by decide)
    rw [ksane_s.2.2.2.2] at this
    exact this
  rw [ksane_s.2.2.2.1] at c7
  clear c6 f8
  go_wp2_with fail
  refine c7.mono ?_
  rintro e _ ⟨rfl, n, rfl⟩
  have c8 := HC8.out n
  have HO : Hid (Only [] w (w8.drewN n)) := (HF8.out.drewN n).only
  clear c7 HC8 HF8
  generalize w8.drewN n = w9 at *
  go_wp2_with fail
  refine c8.mono ?_
  rintro e _ ⟨rfl, n, rfl⟩
  have HOE : Hid (Only [] w (w9.drewN n)) := HO.out.drewN n
  clear c8 HO
  go_wp2_with fail
  exact hR.out _ _ ⟨rfl, HOE.out⟩
/-- Both heaps and both markers. -/
def FB (hb q p r : Nat) (m : Mk) : List Asn := [PH hb m.M, GH q m.M, MkA p hb m.col m.list, GkA r q m.col m.list]
/-- The document's side is still behind. -/
def FM (hb q p r : Nat) (m m' : Mk) : List Asn := [PH hb m.M, GH q m'.M, MkA p hb m.col m.list, GkA r q m'.col m'.list]
theorem mbegun_any (w : World) (pages : Int) (b : Option Addr) (n cap : Nat) (f : Nat → Nat → Int) (hd : Recs 4 w b n f) (a2 : Option Addr) (n2 cap2 : Nat) (f2 : Nat → Int) (h2 : Nums w a2 n2 f2) (hn2 : n2 ≤ 300) :
    Calls Tryz.prog 38 #[.int .i64 pages, .slice b n cap, .slice a2 n2 cap2] w (fun e w' => (e = .returned (.tuple #[.pointer none, .pointer none, .bool true]) ∧ Only [] w w') ∨ ∃ hb q p r M, e = .returned (.tuple #[.pointer (some ⟨p, 0, none⟩), .pointer (some ⟨r, 0, none⟩), .bool true]) ∧ M.OkF ∧ ¬ M.badRoot (listF n2 f2) ∧ Fam w w' (FB hb q p r ((Mk.start M).shades (listF n2 f2)))) := by
  refine calls_abs fun R hR => ?_
  by_cases hg : pages < 1 ∨ 24 < pages
  · have c1 := hnew_bad w pages hg
    have c2 := gnew_bad w pages hg
    clear hd h2 hg
    go_enter Tryz.func38, Tryz.ntmps38
    go_wp2_with fail
    refine c1.mono ?_
    rintro e _ ⟨rfl, rfl⟩
    go_wp2_with fail
    refine c2.mono ?_
    rintro e _ ⟨rfl, rfl⟩
    go_wp2_with fail
    refine bodyPost_ret (results_tmp3 rfl _ _ _) rfl ?_
    exact hR.out _ _ (.inl ⟨rfl, Only.refl _ _⟩)
  · obtain ⟨N, hN⟩ : ∃ N : Nat, pages = (N : Int) := ⟨pages.toNat, by omega⟩
    subst hN
    have h1 : 1 ≤ N := by omega
    have h24 : N ≤ 24 := by omega
    have HN : Hid (1 ≤ N ∧ N ≤ 24) := ⟨h1, h24⟩
    have c1 := hnew_good w N h1 h24
    have HD := Lib.hid hd
    have HRD : Hid (Read w (.slice a2 n2 cap2) (listF n2 f2)) := numsRead h2
    have HWF := Lib.hid (numsWf h2)
    have HLN : Hid ((listF n2 f2).length = n2) := by show _ = _; simp [listF]
    generalize listF n2 f2 = rts at *
    clear hd h2 hg h1 h24
    go_enter Tryz.func38, Tryz.ntmps38
    go_wp2_with fail
    refine c1.mono ?_
    rintro e w1 ⟨hb, L, X, rfl, hp, hL, ho⟩
    have HF1 : Hid (Fam w w1 [PH hb (Hp.new N)]) := (Fam.nil w).add (pborn hp (Hp.OkF.new HN.out.1 HN.out.2) hL ho)
    have c2 := gnew_good w1 N HN.out.1 HN.out.2
    clear hp hL ho c1
    go_wp2_with fail
    refine c2.mono ?_
    rintro e w2 ⟨q, L2, X2, rfl, hq, hL2, ho2⟩
    have HF2 : Hid (Fam w w2 [PH hb (Hp.new N), GH q (Hp.new N)]) := HF1.out.add (gborn hq (Hp.Ok.new HN.out.1 HN.out.2) hL2 ho2)
    have c3 := mbefore_any w w2 HF2.out b n cap f HD.out
    clear hq hL2 ho2 c2 HF1
    go_wp2_with fail
    refine c3.mono ?_
    rintro e w3 ⟨rfl, M, f3⟩
    have HF3 := Lib.hid f3
    have HKF := Lib.hid (f3.phF 0 rfl)
    have hrd : ∀ w' l', Fam w w' l' → Read w' (.slice a2 n2 cap2) rts := fun w' l' h7 => HRD.out.only h7.only (by simp)
    have HRR := Lib.hid hrd
    have c4 := mbegin_rep w3 f3 (i := 0) rfl a2 n2 cap2 rts HLN.out (by omega) HWF.out (hrd _ _ f3) (fun p w' m' h7 => hrd _ _ h7)
    clear c3 f3 HF2 hrd
    go_wp2_with fail
    refine c4.mono ?_
    rintro e w4 (⟨hbad, rfl, f4⟩ | ⟨hok, p, rfl, f4⟩)
    · have HBAD := Lib.hid hbad
      have c5 := gbegin_rep w4 f4 (i := 1) rfl a2 n2 cap2 rts HLN.out (by omega) (HRR.out _ _ f4) (fun r w' m' h7 => HRR.out _ _ h7) HKF.out
      clear c4 f4 hbad
      go_wp2_with fail
      refine c5.mono ?_
      rintro e w5 (⟨_, rfl, f5⟩ | ⟨hok, _⟩)
      · have HO := Lib.hid f5.only
        clear c5 f5
        go_wp2_with fail
        refine bodyPost_ret (results_tmp3 rfl _ _ _) rfl ?_
        exact hR.out _ _ (.inl ⟨rfl, HO.out⟩)
      · exact absurd HBAD.out hok
    · have HOK := Lib.hid hok
      have f4' : Fam w w4 [PH hb ((Mk.start M).shades rts).M, GH q M, MkA p hb ((Mk.start M).shades rts).col ((Mk.start M).shades rts).list] := f4
      have c5 := gbegin_rep w4 f4' (i := 1) rfl a2 n2 cap2 rts HLN.out (by omega) (HRR.out _ _ f4') (fun r w' m' h7 => HRR.out _ _ h7) HKF.out
      clear c4 f4 f4' hok
      go_wp2_with fail
      refine c5.mono ?_
      rintro e w5 (⟨hbad, _, _⟩ | ⟨_, r, rfl, f5⟩)
      · exact absurd hbad HOK.out
      · have HF5 : Hid (Fam w w5 (FB hb q p r ((Mk.start M).shades rts))) := f5
        clear c5 f5
        go_wp2_with fail
        refine bodyPost_ret (results_tmp3 rfl _ _ _) rfl ?_
        exact hR.out _ _ (.inr ⟨hb, q, p, r, M, rfl, HKF.out, HOK.out, HF5.out⟩)
end Go.Proofs.YtkjocehdbpekjaaGreat
