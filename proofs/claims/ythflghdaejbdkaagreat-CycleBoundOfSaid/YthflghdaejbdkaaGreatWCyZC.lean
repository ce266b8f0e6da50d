/- Lemmas of this claim. -/
import Derived.Test.YthflghdaejbdkaaGreatWCyZB
namespace Go.Proofs.YthflghdaejbdkaaGreat
open Go.RowKit Go.Maps
set_option maxHeartbeats 6400000
set_option maxRecDepth 100000
set_option linter.unusedVariables false
section
variable {w0 w : World} {l : List Asn} {b : Nat} {c : Co} {x : CX} {i : Nat}
theorem Fam.swap1 {A B Z : Asn} {L : List Asn} (h : Fam w0 w ((A :: B :: L) ++ [Z])) : Fam w0 w (A :: Z :: L) := by
  refine h.selC (fun k => if k = 1 then L.length + 2 else k) (fun k Y hk => ?_) (fun j k hj hk hne => ?_)
  · match k with
    | 0 => exact hk
    | 1 =>
      show ((A :: B :: L) ++ [Z])[L.length + 2]? = some Y
      rw [List.getElem?_append_right (by simp)]
      simpa using hk
    | k + 2 =>
      have hk2 : L[k]? = some Y := hk
      have hl := (List.getElem?_eq_some_iff.1 hk2).1
      simp only [show ¬ (k + 2 = 1) by omega, if_false]
      rw [List.getElem?_append_left (by simp; omega)]
      exact hk2
  · simp only [List.length_cons] at hj hk
    split <;> split <;> omega
theorem ML.lastC {l : List Asn} {i hb p : Nat} {m : Mk} (hi : l[i]? = some (PH hb m.M)) : ML (l ++ [MkA p hb (fun _ => 0) []]) i l.length hb p m = l ++ [MkA p hb m.col m.list] := by
  have hil : i < l.length := (List.getElem?_eq_some_iff.1 hi).1
  unfold ML
  rw [List.set_append_left _ _ hil, set_get hi, List.set_append_right _ _ (by omega), Nat.sub_self]
  rfl
theorem Fam.rot5 {A B C D E : Asn} {L : List Asn} (h : Fam w0 w (B :: C :: D :: E :: A :: L)) : Fam w0 w (A :: B :: C :: D :: E :: L) := by
  refine h.selC (fun k => if k = 0 then 4 else if k < 5 then k - 1 else k) (fun k Y hk => ?_) (fun j k hj hk hne => ?_)
  · match k with
    | 0 => exact hk
    | 1 => exact hk
    | 2 => exact hk
    | 3 => exact hk
    | 4 => exact hk
    | k + 5 =>
      simp only [show ¬ (k + 5 = 0) by omega, show ¬ (k + 5 < 5) by omega, if_false]
      exact hk
  · split <;> (try split) <;> (try split) <;> (try split) <;> omega
theorem ML.restC {L : List Asn} {A : Asn} {hb p : Nat} {m' : Mk} (h : Fam w0 w (ML ((C5 b c x ++ l) ++ [A]) 0 (C5 b c x ++ l).length hb p m')) : Fam w0 w l := by
  refine h.selC (fun k => 5 + k) (fun k Y hk => ?_) (fun j k _ _ hne e => hne (by omega))
  have hl := (List.getElem?_eq_some_iff.1 hk).1
  have h5 : (C5 b c x ++ l).length = 5 + l.length := by rw [List.length_append]; rfl
  have h55 : (C5 b c x).length = 5 := rfl
  unfold ML
  rw [List.getElem?_set_ne (by omega), List.getElem?_set_ne (by omega), List.getElem?_append_left (by omega), List.getElem?_append_right (by omega), show 5 + k - (C5 b c x).length = k by omega]
  exact hk
theorem cbegin_nil (w : World) (v : Value) : Calls Tryz.prog 51 #[.pointer none, v] w (Exact w (.int .i64 1)) := by
  refine calls_abs fun R hR => ?_
  have cn := cnone_nil w
  go_enter Tryz.func51, Tryz.ntmps51
  go_wp2_with fail
  refine cn.mono ?_
  rintro e _ ⟨rfl, rfl⟩
  go_wp2_with fail
  exact hR.out _ _ ⟨rfl, rfl⟩
theorem cbegin_any (w : World) (hf : Fam w0 w (C5 b c x ++ l)) (hx : x.ok c) (h : c.Okc) (a : Option Addr) (n cp : Nat) (roots : List Int) (hl : roots.length = n) (hn : n ≤ 1000000) (hw : ∀ y ∈ roots, wfI y) (hr : ∀ wx, Fam w0 wx l → Read wx (.slice a n cp) roots) :
    Calls Tryz.prog 51 #[.pointer (some ⟨b, 0, none⟩), .slice a n cp] w (EDid w0 l b (c.begin roots)) := by
  refine calls_abs fun R hR => ?_
  obtain ⟨_, _, x2, _, _, x5, _⟩ := CRow.cells hf
  have cn := cnone_rep w x2
  unfold Co.begin at hR
  by_cases h192 : 192 < roots.length
  · rw [if_pos h192] at hR
    have h1 : (192 : Int) < n := by omega
    clear h192 hw hr h hl
    have HE : Hid (EDid w0 l b (1, c) (.returned (.int .i64 1)) w) := ⟨rfl, x, hx, hf⟩
    clear hf hx
    go_enter Tryz.func51, Tryz.ntmps51
    go_wp2_with fail
    refine cn.mono ?_
    rintro e _ ⟨rfl, rfl⟩
    go_wp2_with fail
    exact hR.out _ _ HE.out
  · rw [if_neg h192] at hR
    have h1 : ¬ (192 : Int) < n := by omega
    by_cases hp : c.ph ≠ 0
    · rw [if_pos hp] at hR
      have hpb : ((c.ph : Int) != 0) = true := by simpa using hp
      have HE : Hid (EDid w0 l b (13, c) (.returned (.int .i64 13)) w) := ⟨rfl, x, hx, hf⟩
      clear h192 hw hr h hl hf hx hp
      generalize c.ph = ph at *
      go_enter Tryz.func51, Tryz.ntmps51
      go_wp2_with fail
      refine cn.mono ?_
      rintro e _ ⟨rfl, rfl⟩
      go_wp2_with fail
      exact hR.out _ _ HE.out
    · rw [if_neg hp] at hR
      rw [Classical.not_not.1 hp] at x5
      have cb := mbegin_rep w hf (i := 0) rfl a n cp roots hl hn hw (hr w (Fam.rest hf)) (fun p w' m' hfm => hr w' (ML.restC (L := []) hfm))
      have HX := Lib.hid hx
      have HNL := Lib.hid hl
      have HP := Lib.hid (Classical.not_not.1 hp)
      clear hw hr h hl hf hx hp
      go_enter Tryz.func51, Tryz.ntmps51
      go_wp2_with fail
      refine cn.mono ?_
      rintro e _ ⟨rfl, rfl⟩
      go_wp2_with fail
      refine cb.mono ?_
      rintro e w1 (⟨hbad, rfl, hf1⟩ | ⟨hbad, p2, rfl, hf1⟩)
      · rw [if_pos hbad] at hR
        have HE : Hid (EDid w0 l b (3, c) (.returned (.int .i64 3)) w1) := ⟨rfl, x, HX.out, hf1⟩
        clear cb hf1 hbad
        go_wp2_with fail
        exact hR.out _ _ HE.out
      · rw [if_neg hbad] at hR
        have hM : ((Mk.start c.m.M).shades roots).M = c.m.M := Mk.shades_M _ _
        rw [ML.lastC (by rw [hM]; rfl)] at hf1
        have hf2 := hf1.swap1
        have F2 : Hid (Fam w0 w1 ([PH x.hb ((Mk.start c.m.M).shades roots).M, MkA p2 x.hb ((Mk.start c.m.M).shades roots).col ((Mk.start c.m.M).shades roots).list, TbA x.tb c.t c.t.ents.length, IntsA x.sv c.sw, RowA b 142 (CRow b c x)] ++ l)) := by
          rw [hM]
          exact hf2
        have r2 := F2.out.row 4 rfl
        have y4c := r2.cell 4 rfl
        have y4f := r2.free 4
        have y5c := r2.cell 5 rfl
        have y5f := r2.free 5
        have y6c := r2.cell 6 rfl
        have y6f := r2.free 6
        have F5 : Hid (Fam w0 (((w1.setCell ⟨b, 4, none⟩ (.pointer (some ⟨p2, 0, none⟩))).setCell ⟨b, 5, none⟩ (.int .i64 1)).setCell ⟨b, 6, none⟩ (.int .i64 (-1 - (n : Int)))) (C5 b { c with m := (Mk.start c.m.M).shades roots, ph := 1, cr := -1 - (n : Int), mv := 0 } { x with p := p2 } ++ l)) :=
          ((F2.out.setRowC 4 rfl 4 (.pointer (some ⟨p2, 0, none⟩))).setRowC 4 rfl 5 (.int .i64 1)).setRowC 4 rfl 6 (.int .i64 (-1 - (n : Int)))
        clear cb hf1 hf2 hbad hM r2 F2
        go_wp2_with fail
        exact hR.out _ _ ⟨rfl, { x with p := p2 }, ⟨fun e => (by cases e), fun e => (by cases e), HX.out.mv2⟩, by rw [HNL.out]; exact F5.out⟩
theorem cnew_good (w : World) (hf : Fam w0 w l) (n : Nat) (r : Int) (h1 : 1 ≤ n) (h24 : n ≤ 24) (hr : 0 ≤ r ∧ r ≤ 100) : Calls Tryz.prog 35 #[.int .i64 (n : Int), .int .i64 r] w (fun e w' => ∃ b, e = .returned (.tuple #[.pointer (some ⟨b, 0, none⟩), .int .i64 0]) ∧ Fam w0 w' (l ++ [CoA b (Co.new n r)])) := by
  refine calls_abs fun R hR => ?_
  have ch := hnew_good w n h1 h24
  have HF := Lib.hid hf
  have HKF : Hid ((Hp.new n).OkF) := Hp.OkF.new h1 h24
  have r1 : ¬ r < 0 := by omega
  have r2 : ¬ 100 < r := by omega
  clear hf h1 h24 hr
  go_enter Tryz.func35, Tryz.ntmps35
  go_wp2_with fail
  refine ch.mono ?_
  rintro e w1 ⟨hb, L, X, rfl, hp, hL, ho⟩
  have F1 : Hid (Fam w0 w1 (PH hb (Hp.new n) :: l)) := (HF.out.add (pborn hp HKF.out hL ho)).front
  have hbad : Hid (¬ (Hp.new n).badRoot []) := fun ⟨y, hy, _⟩ => by simp at hy
  have cb := mbegin_rep w1 F1.out (i := 0) rfl none 0 0 [] rfl (by omega) (fun y hy => by simp at hy) (.inr ⟨none, 0, rfl, rfl⟩) (fun _ _ _ _ => .inr ⟨none, 0, rfl, rfl⟩)
  clear ch hp hL ho HF
  go_wp2_with fail
  refine cb.mono ?_
  rintro e w2 (⟨hb2, _, _⟩ | ⟨_, p, rfl, hf2⟩)
  · exact absurd hb2 hbad.out
  have F2 : Hid (Fam w0 w2 ((PH hb (Hp.new n) :: l) ++ [MkA p hb (fun _ => 0) []])) := by
    rw [ML.lastC (by rfl)] at hf2
    exact hf2
  have ct := tnew_any w2
  clear cb hf2 F1
  go_wp2_with fail
  refine ct.mono ?_
  rintro e w3 ⟨rfl, rfl⟩
  have F3 : Hid (Fam w0 (w2.alloc (.cells #[.bool true, .slice none 0 0, .slice none 0 0, .int .i64 0, .int .i64 0, .map none] 119)) ((PH hb (Hp.new n) :: l) ++ [MkA p hb (fun _ => 0) []] ++ [TbA w2.heap.size Tb.new 0])) := F2.out.add (tb_born w2)
  obtain ⟨t, ht⟩ : ∃ t, t = w2.heap.size := ⟨_, rfl⟩
  rw [← ht] at F3 ⊢
  generalize w2.alloc (.cells #[.bool true, .slice none 0 0, .slice none 0 0, .int .i64 0, .int .i64 0, .map none] 119) = w3 at *
  have F4 := F3.out.addInts (v := .slice none 0 0) (m := []) (Only.refl [] w3) (Ints.nil w3 w3.heap.size)
  have F5 : Hid (Fam w0 (w3.alloc (.cells #[.int .i64 (n : Int), .int .i64 r, .pointer (some ⟨hb, 0, none⟩), .pointer (some ⟨t, 0, none⟩), .pointer (some ⟨p, 0, none⟩), .int .i64 0, .int .i64 0, .bool false, .slice none 0 0, .int .i64 0] 142)) (C5 w3.heap.size (Co.new n r) ⟨hb, p, t, .slice none 0 0, false, 0⟩ ++ l)) := by
    have f5 := F4.addRow 142 [.int .i64 (n : Int), .int .i64 r, .pointer (some ⟨hb, 0, none⟩), .pointer (some ⟨t, 0, none⟩), .pointer (some ⟨p, 0, none⟩), .int .i64 0, .int .i64 0, .bool false, .slice none 0 0, .int .i64 0]
    have f6 : Fam w0 _ (PH hb (Hp.new n) :: (l ++ [MkA p hb (fun _ => 0) []] ++ [TbA t Tb.new 0] ++ [IntsA (.slice none 0 0) []] ++ [RowA w3.heap.size 142 [.int .i64 (n : Int), .int .i64 r, .pointer (some ⟨hb, 0, none⟩), .pointer (some ⟨t, 0, none⟩), .pointer (some ⟨p, 0, none⟩), .int .i64 0, .int .i64 0, .bool false, .slice none 0 0, .int .i64 0]])) := f5
    exact f6.pack5.rot5
  clear ct F2 F3 F4 ht
  go_wp2_with fail
  exact hR.out _ _ ⟨w3.heap.size, rfl, CoA.born ⟨fun e => (by cases e), fun e => (by cases e), Nat.zero_le _⟩ F5.out⟩
def boundOf (p r e : Int) : Int × Int := if p < 1 ∨ 24 < p ∨ r < 0 ∨ 192 < r ∨ e < 0 ∨ 20 < e then (0, 1) else (1 + r + 4 + e + 2 * (8 * p + 16 * p) + 2 * (8 * p) + 8 * p * 12, 0)
theorem cbound_any (w : World) (p r e : Int) : Calls Tryz.prog 30 #[.int .i64 p, .int .i64 r, .int .i64 e] w (Exact w (.tuple #[.int .i64 (boundOf p r e).1, .int .i64 (boundOf p r e).2])) := by
  refine calls_abs fun R hR => ?_
  unfold boundOf at hR
  by_cases h1 : p < 1
  · rw [if_pos (.inl h1)] at hR
    go_enter Tryz.func30, Tryz.ntmps30
    go_wp2_with fail
    exact hR.out _ _ ⟨rfl, rfl⟩
  by_cases h2 : 24 < p
  · rw [if_pos (.inr (.inl h2))] at hR
    go_enter Tryz.func30, Tryz.ntmps30
    go_wp2_with fail
    exact hR.out _ _ ⟨rfl, rfl⟩
  by_cases h3 : r < 0
  · rw [if_pos (.inr (.inr (.inl h3)))] at hR
    go_enter Tryz.func30, Tryz.ntmps30
    go_wp2_with fail
    exact hR.out _ _ ⟨rfl, rfl⟩
  by_cases h4 : 192 < r
  · rw [if_pos (.inr (.inr (.inr (.inl h4))))] at hR
    go_enter Tryz.func30, Tryz.ntmps30
    go_wp2_with fail
    exact hR.out _ _ ⟨rfl, rfl⟩
  by_cases h5 : e < 0
  · rw [if_pos (.inr (.inr (.inr (.inr (.inl h5)))))] at hR
    go_enter Tryz.func30, Tryz.ntmps30
    go_wp2_with fail
    exact hR.out _ _ ⟨rfl, rfl⟩
  by_cases h6 : 20 < e
  · rw [if_pos (.inr (.inr (.inr (.inr (.inr h6)))))] at hR
    go_enter Tryz.func30, Tryz.ntmps30
    go_wp2_with fail
    exact hR.out _ _ ⟨rfl, rfl⟩
  rw [if_neg (by omega)] at hR
  go_enter Tryz.func30, Tryz.ntmps30
  go_wp2_with fail
  exact hR.out _ _ ⟨rfl, rfl⟩
end
end Go.Proofs.YthflghdaejbdkaaGreat
