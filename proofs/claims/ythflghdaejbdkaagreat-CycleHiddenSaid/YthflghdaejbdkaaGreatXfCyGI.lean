/- Lemmas of this claim. -/
import Derived.Test.YthflghdaejbdkaaGreatXfCyZ
import Derived.Test.YthflghdaejbdkaaGreatXfCyR
namespace Go.Proofs.YthflghdaejbdkaaGreat
open Go.RowKit Go.Maps
set_option maxHeartbeats 6400000
set_option maxRecDepth 100000
set_option linter.unusedVariables false
section
variable {w0 w : World} {l : List Asn} {b : Nat} {c : Co} {x : CX} {i : Nat}
theorem Fam.swap1 {A B Z : Asn} {L : List Asn} (h : Fam w0 w ((A :: B :: L) ++ [Z])) : Fam w0 w (A :: Z :: L) := by
  refine h.selC (fun k => if k = 1 then L.length + 2 else k) (fun k Y hk => ?_) (fun j k hj hk hne => ?_)
  · match k with
    | 0 => exact hk
    | 1 =>
      show ((A :: B :: L) ++ [Z])[L.length + 2]? = some Y
      rw [List.getElem?_append_right (by simp)]
      simpa using hk
    | k + 2 =>
      have hk2 : L[k]? = some Y := hk
      have hl := (List.getElem?_eq_some_iff.1 hk2).1
      simp only [show ¬ (k + 2 = 1) by omega, if_false]
      rw [List.getElem?_append_left (by simp; omega)]
      exact hk2
  · simp only [List.length_cons] at hj hk
    split <;> split <;> omega
theorem ML.lastC {l : List Asn} {i hb p : Nat} {m : Mk} (hi : l[i]? = some (PH hb m.M)) : ML (l ++ [MkA p hb (fun _ => 0) []]) i l.length hb p m = l ++ [MkA p hb m.col m.list] := by
  have hil : i < l.length := (List.getElem?_eq_some_iff.1 hi).1
  unfold ML
  rw [List.set_append_left _ _ hil, set_get hi, List.set_append_right _ _ (by omega), Nat.sub_self]
  rfl
theorem Fam.rot5 {A B C D E : Asn} {L : List Asn} (h : Fam w0 w (B :: C :: D :: E :: A :: L)) : Fam w0 w (A :: B :: C :: D :: E :: L) := by
  refine h.selC (fun k => if k = 0 then 4 else if k < 5 then k - 1 else k) (fun k Y hk => ?_) (fun j k hj hk hne => ?_)
  · match k with
    | 0 => exact hk
    | 1 => exact hk
    | 2 => exact hk
    | 3 => exact hk
    | 4 => exact hk
    | k + 5 =>
      simp only [show ¬ (k + 5 = 0) by omega, show ¬ (k + 5 < 5) by omega, if_false]
      exact hk
  · split <;> (try split) <;> (try split) <;> (try split) <;> omega
theorem ML.restC {L : List Asn} {A : Asn} {hb p : Nat} {m' : Mk} (h : Fam w0 w (ML ((C5 b c x ++ l) ++ [A]) 0 (C5 b c x ++ l).length hb p m')) : Fam w0 w l := by
  refine h.selC (fun k => 5 + k) (fun k Y hk => ?_) (fun j k _ _ hne e => hne (by omega))
  have hl := (List.getElem?_eq_some_iff.1 hk).1
  have h5 : (C5 b c x ++ l).length = 5 + l.length := by rw [List.length_append]; rfl
  have h55 : (C5 b c x).length = 5 := rfl
  unfold ML
  rw [List.getElem?_set_ne (by omega), List.getElem?_set_ne (by omega), List.getElem?_append_left (by omega), List.getElem?_append_right (by omega), show 5 + k - (C5 b c x).length = k by omega]
  exact hk
theorem cbegin_nil (w : World) (v : Value) : Calls Tryz.prog 51 #[.pointer none, v] w (Exact w (.int .i64 1)) := by
  refine calls_abs fun R hR => ?_
  have cn := cnone_nil w
  go_enter Tryz.func51, Tryz.ntmps51
  go_wp2_with fail
  refine cn.mono ?_
  rintro e _ ⟨rfl, rfl⟩
  go_wp2_with fail
  exact hR.out _ _ ⟨rfl, rfl⟩
theorem cbegin_any (w : World) (hf : Fam w0 w (C5 b c x ++ l)) (hx : x.ok c) (h : c.Okc) (a : Option Addr) (n cp : Nat) (roots : List Int) (hl : roots.length = n) (hn : n ≤ 1000000) (hw : ∀ y ∈ roots, wfI y) (hr : ∀ wx, Fam w0 wx l → Read wx (.slice a n cp) roots) :
    Calls Tryz.prog 51 #[.pointer (some ⟨b, 0, none⟩), .slice a n cp] w (EDid w0 l b (c.begin roots)) := by
  refine calls_abs fun R hR => ?_
  obtain ⟨_, _, x2, _, _, x5, _⟩ := CRow.cells hf
  have cn := cnone_rep w x2
  unfold Co.begin at hR
  by_cases h192 : 192 < roots.length
  · rw [if_pos h192] at hR
    have h1 : (192 : Int) < n := by omega
    clear h192 hw hr h hl
    have HE : Hid (EDid w0 l b (1, c) (.returned (.int .i64 1)) w) := ⟨rfl, x, hx, hf⟩
    clear hf hx
    go_enter Tryz.func51, Tryz.ntmps51
    go_wp2_with fail
    refine cn.mono ?_
    rintro e _ ⟨rfl, rfl⟩
    go_wp2_with fail
    exact hR.out _ _ HE.out
  · rw [if_neg h192] at hR
    have h1 : ¬ (192 : Int) < n := by omega
    by_cases hp : c.ph ≠ 0
    · rw [if_pos hp] at hR
      have hpb : ((c.ph : Int) != 0) = true := by simpa using hp
      have HE : Hid (EDid w0 l b (13, c) (.returned (.int .i64 13)) w) := ⟨rfl, x, hx, hf⟩
      clear h192 hw hr h hl hf hx hp
      generalize c.ph = ph at *
      go_enter Tryz.func51, Tryz.ntmps51
      go_wp2_with fail
      refine cn.mono ?_
      rintro e _ ⟨rfl, rfl⟩
      go_wp2_with fail
      exact hR.out _ _ HE.out
    · rw [if_neg hp] at hR
      rw [Classical.not_not.1 hp] at x5
      have cb := mbegin_rep w hf (i := 0) rfl a n cp roots hl hn hw (hr w (Fam.rest hf)) (fun p w' m' hfm => hr w' (ML.restC (L := []) hfm))
      have HX := Lib.hid hx
      have HNL := Lib.hid hl
      have HP := Lib.hid (Classical.not_not.1 hp)
      clear hw hr h hl hf hx hp
      go_enter Tryz.func51, Tryz.ntmps51
      go_wp2_with fail
      refine cn.mono ?_
      rintro e _ ⟨rfl, rfl⟩
      go_wp2_with fail
      refine cb.mono ?_
      rintro e w1 (⟨hbad, rfl, hf1⟩ | ⟨hbad, p2, rfl, hf1⟩)
      · rw [if_pos hbad] at hR
        have HE : Hid (EDid w0 l b (3, c) (.returned (.int .i64 3)) w1) := ⟨rfl, x, HX.out, hf1⟩
        clear cb hf1 hbad
        go_wp2_with fail
        exact hR.out _ _ HE.out
      · rw [if_neg hbad] at hR
        have hM : ((Mk.start c.m.M).shades roots).M = c.m.M := Mk.shades_M _ _
        rw [ML.lastC (by rw [hM]; rfl)] at hf1
        have hf2 := hf1.swap1
        have F2 : Hid (Fam w0 w1 ([PH x.hb ((Mk.start c.m.M).shades roots).M, MkA p2 x.hb ((Mk.start c.m.M).shades roots).col ((Mk.start c.m.M).shades roots).list, TbA x.tb c.t c.t.ents.length, IntsA x.sv c.sw, RowA b 142 (CRow b c x)] ++ l)) := by
          rw [hM]
          exact hf2
        have r2 := F2.out.row 4 rfl
        have y4c := r2.cell 4 rfl
        have y4f := r2.free 4
        have y5c := r2.cell 5 rfl
        have y5f := r2.free 5
        have y6c := r2.cell 6 rfl
        have y6f := r2.free 6
        have F5 : Hid (Fam w0 (((w1.setCell ⟨b, 4, none⟩ (.pointer (some ⟨p2, 0, none⟩))).setCell ⟨b, 5, none⟩ (.int .i64 1)).setCell ⟨b, 6, none⟩ (.int .i64 (-1 - (n : Int)))) (C5 b { c with m := (Mk.start c.m.M).shades roots, ph := 1, cr := -1 - (n : Int), mv := 0 } { x with p := p2 } ++ l)) :=
          ((F2.out.setRowC 4 rfl 4 (.pointer (some ⟨p2, 0, none⟩))).setRowC 4 rfl 5 (.int .i64 1)).setRowC 4 rfl 6 (.int .i64 (-1 - (n : Int)))
        clear cb hf1 hf2 hbad hM r2 F2
        go_wp2_with fail
        exact hR.out _ _ ⟨rfl, { x with p := p2 }, ⟨fun e => (by cases e), fun e => (by cases e), HX.out.mv2⟩, by rw [HNL.out]; exact F5.out⟩
theorem cnew_bad (w : World) (n r : Int) (h : n < 1 ∨ 24 < n ∨ r < 0 ∨ 100 < r) : Calls Tryz.prog 35 #[.int .i64 n, .int .i64 r] w (fun e w' => e = .returned (.tuple #[.pointer none, .int .i64 1]) ∧ Only [] w w') := by
  refine calls_abs fun R hR => ?_
  by_cases h0 : n < 1 ∨ 24 < n
  · have ch := hnew_bad w n h0
    clear h h0
    go_enter Tryz.func35, Tryz.ntmps35
    go_wp2_with fail
    refine ch.mono ?_
    rintro e _ ⟨rfl, rfl⟩
    go_wp2_with fail
    exact hR.out _ _ ⟨rfl, Only.refl _ _⟩
  · obtain ⟨k, rfl⟩ : ∃ k : Nat, n = (k : Int) := ⟨n.toNat, by omega⟩
    have ch := hnew_good w k (by omega) (by omega)
    by_cases hr0 : r < 0
    · clear h h0
      go_enter Tryz.func35, Tryz.ntmps35
      go_wp2_with fail
      refine ch.mono ?_
      rintro e w1 ⟨hb, L, X, rfl, _, _, ho⟩
      have HO := Lib.hid ho
      clear ch ho
      go_wp2_with fail
      exact hR.out _ _ ⟨rfl, HO.out⟩
    · have hr1 : 100 < r := by omega
      clear h h0
      go_enter Tryz.func35, Tryz.ntmps35
      go_wp2_with fail
      refine ch.mono ?_
      rintro e w1 ⟨hb, L, X, rfl, _, _, ho⟩
      have HO := Lib.hid ho
      clear ch ho
      go_wp2_with fail
      exact hR.out _ _ ⟨rfl, HO.out⟩
theorem cnew_good (w : World) (hf : Fam w0 w l) (n : Nat) (r : Int) (h1 : 1 ≤ n) (h24 : n ≤ 24) (hr : 0 ≤ r ∧ r ≤ 100) : Calls Tryz.prog 35 #[.int .i64 (n : Int), .int .i64 r] w (fun e w' => ∃ b, e = .returned (.tuple #[.pointer (some ⟨b, 0, none⟩), .int .i64 0]) ∧ Fam w0 w' (l ++ [CoA b (Co.new n r)])) := by
  refine calls_abs fun R hR => ?_
  have ch := hnew_good w n h1 h24
  have HF := Lib.hid hf
  have HKF : Hid ((Hp.new n).OkF) := Hp.OkF.new h1 h24
  have r1 : ¬ r < 0 := by omega
  have r2 : ¬ 100 < r := by omega
  clear hf h1 h24 hr
  go_enter Tryz.func35, Tryz.ntmps35
  go_wp2_with fail
  refine ch.mono ?_
  rintro e w1 ⟨hb, L, X, rfl, hp, hL, ho⟩
  have F1 : Hid (Fam w0 w1 (PH hb (Hp.new n) :: l)) := (HF.out.add (pborn hp HKF.out hL ho)).front
  have hbad : Hid (¬ (Hp.new n).badRoot []) := fun ⟨y, hy, _⟩ => by simp at hy
  have cb := mbegin_rep w1 F1.out (i := 0) rfl none 0 0 [] rfl (by omega) (fun y hy => by simp at hy) (.inr ⟨none, 0, rfl, rfl⟩) (fun _ _ _ _ => .inr ⟨none, 0, rfl, rfl⟩)
  clear ch hp hL ho HF
  go_wp2_with fail
  refine cb.mono ?_
  rintro e w2 (⟨hb2, _, _⟩ | ⟨_, p, rfl, hf2⟩)
  · exact absurd hb2 hbad.out
  have F2 : Hid (Fam w0 w2 ((PH hb (Hp.new n) :: l) ++ [MkA p hb (fun _ => 0) []])) := by
    rw [ML.lastC (by rfl)] at hf2
    exact hf2
  have ct := tnew_any w2
  clear cb hf2 F1
  go_wp2_with fail
  refine ct.mono ?_
  rintro e w3 ⟨rfl, rfl⟩
  have F3 : Hid (Fam w0 (w2.alloc (.cells #[.bool true, .slice none 0 0, .slice none 0 0, .int .i64 0, .int .i64 0, .map none] 119)) ((PH hb (Hp.new n) :: l) ++ [MkA p hb (fun _ => 0) []] ++ [TbA w2.heap.size Tb.new 0])) := F2.out.add (tb_born w2)
  obtain ⟨t, ht⟩ : ∃ t, t = w2.heap.size := ⟨_, rfl⟩
  rw [← ht] at F3 ⊢
  generalize w2.alloc (.cells #[.bool true, .slice none 0 0, .slice none 0 0, .int .i64 0, .int .i64 0, .map none] 119) = w3 at *
  have F4 := F3.out.addInts (v := .slice none 0 0) (m := []) (Only.refl [] w3) (Ints.nil w3 w3.heap.size)
  have F5 : Hid (Fam w0 (w3.alloc (.cells #[.int .i64 (n : Int), .int .i64 r, .pointer (some ⟨hb, 0, none⟩), .pointer (some ⟨t, 0, none⟩), .pointer (some ⟨p, 0, none⟩), .int .i64 0, .int .i64 0, .bool false, .slice none 0 0, .int .i64 0] 142)) (C5 w3.heap.size (Co.new n r) ⟨hb, p, t, .slice none 0 0, false, 0⟩ ++ l)) := by
    have f5 := F4.addRow 142 [.int .i64 (n : Int), .int .i64 r, .pointer (some ⟨hb, 0, none⟩), .pointer (some ⟨t, 0, none⟩), .pointer (some ⟨p, 0, none⟩), .int .i64 0, .int .i64 0, .bool false, .slice none 0 0, .int .i64 0]
    have f6 : Fam w0 _ (PH hb (Hp.new n) :: (l ++ [MkA p hb (fun _ => 0) []] ++ [TbA t Tb.new 0] ++ [IntsA (.slice none 0 0) []] ++ [RowA w3.heap.size 142 [.int .i64 (n : Int), .int .i64 r, .pointer (some ⟨hb, 0, none⟩), .pointer (some ⟨t, 0, none⟩), .pointer (some ⟨p, 0, none⟩), .int .i64 0, .int .i64 0, .bool false, .slice none 0 0, .int .i64 0]])) := f5
    exact f6.pack5.rot5
  clear ct F2 F3 F4 ht
  go_wp2_with fail
  exact hR.out _ _ ⟨w3.heap.size, rfl, CoA.born ⟨fun e => (by cases e), fun e => (by cases e), Nat.zero_le _⟩ F5.out⟩
end
end Go.Proofs.YthflghdaejbdkaaGreat
namespace Go.Proofs.YthflghdaejbdkaaGreat
open Go.RowKit Go.Maps
set_option maxHeartbeats 6400000
set_option maxRecDepth 100000
set_option linter.unusedVariables false
section
variable {w0 w : World} {l : List Asn} {b : Nat} {c c' : Co} {x : CX} {i : Nat}
theorem CoA.wrap {f : FuncId} {args : Array Value} {r : Value} (hf : Fam w0 w l) (hi : l[i]? = some (CoA b c)) (hc : ∀ x : CX, x.ok c → Fam w0 w (C5 b c x ++ l.set i NoA) → Calls Tryz.prog f args w (fun e w' => e = .returned r ∧ ∃ x' : CX, x'.ok c' ∧ Fam w0 w' (C5 b c' x' ++ l.set i NoA))) :
    Calls Tryz.prog f args w (fun e w' => e = .returned r ∧ Fam w0 w' (l.set i (CoA b c'))) := by
  obtain ⟨x, hx, hf2⟩ := CoA.open hf hi
  exact (hc x hx hf2).mono fun e w' ⟨he, x', hx', hf'⟩ => ⟨he, CoA.close hx' hf' (List.getElem?_eq_some_iff.1 hi).1⟩
theorem CoA.back (hf : Fam w0 w (C5 b c x ++ l.set i NoA)) (hx : x.ok c) (hi : l[i]? = some (CoA b c)) : Fam w0 w l := by
  have := CoA.close hx hf (List.getElem?_eq_some_iff.1 hi).1
  rwa [set_get hi] at this
theorem cfinish_rep (w : World) (hf : Fam w0 w l) (hi : l[i]? = some (CoA b c)) (h : c.Okc) : Calls Tryz.prog 44 #[.pointer (some ⟨b, 0, none⟩)] w (fun e w' => e = .returned (.tuple #[.int .i64 c.finish.1, .int .i64 c.finish.2.1, .int .i64 c.finish.2.2.1]) ∧ Fam w0 w' (l.set i (CoA b c.finish.2.2.2))) :=
  CoA.wrap hf hi fun x hx hf2 => cfinish_any w hf2 hx h
theorem cgiveE_rep (w : World) (hf : Fam w0 w l) (hi : l[i]? = some (CoA b c)) (h : c.Ok) (n : Int) : Calls Tryz.prog 43 #[.pointer (some ⟨b, 0, none⟩), .int .i64 n] w (fun e w' => e = .returned (.tuple #[.int .i64 (c.giveE n).1, .int .i64 (c.giveE n).2.1]) ∧ Fam w0 w' (l.set i (CoA b (c.giveE n).2.2))) :=
  CoA.wrap hf hi fun x hx hf2 => cgiveE_any w hf2 hx h n
theorem cnewObject_rep (w : World) (hf : Fam w0 w l) (hi : l[i]? = some (CoA b c)) (h : c.Ok) (k : Int) (va : Option Addr) (n vc : Nat) (bl : List Bool) (hn : bl.length = n) (hl : n ≤ 1000000) (hv : ∀ wx, Fam w0 wx (l.set i NoA) → BArg wx (.slice va n vc) bl) :
    Calls Tryz.prog 45 #[.pointer (some ⟨b, 0, none⟩), .int .i64 k, .slice va n vc] w (fun e w' => e = .returned (.tuple #[.int .i64 (c.newObject k bl).1, .int .i64 (c.newObject k bl).2.1]) ∧ Fam w0 w' (l.set i (CoA b (c.newObject k bl).2.2))) :=
  CoA.wrap hf hi fun x hx hf2 => cnewObject_any w hf2 hx h k va n vc bl hn hl (fun wx _ _ h => hv wx (Fam.rest h))
theorem cnewArray_rep (w : World) (hf : Fam w0 w l) (hi : l[i]? = some (CoA b c)) (h : c.Ok) (k a n : Int) : Calls Tryz.prog 46 #[.pointer (some ⟨b, 0, none⟩), .int .i64 k, .int .i64 a, .int .i64 n] w (fun e w' => e = .returned (.tuple #[.int .i64 (c.newArray k a n).1, .int .i64 (c.newArray k a n).2.1]) ∧ Fam w0 w' (l.set i (CoA b (c.newArray k a n).2.2))) :=
  CoA.wrap hf hi fun x hx hf2 => cnewArray_any w hf2 hx h k a n
theorem cstore_rep (w : World) (hf : Fam w0 w l) (hi : l[i]? = some (CoA b c)) (h : c.Okc) (y s v : Int) (hy : wfI y) (hv : wfI v) : Calls Tryz.prog 52 #[.pointer (some ⟨b, 0, none⟩), .int .i64 y, .int .i64 s, .int .i64 v] w (fun e w' => e = .returned (.int .i64 (c.store y s v).1) ∧ Fam w0 w' (l.set i (CoA b (c.store y s v).2))) :=
  CoA.wrap hf hi fun x hx hf2 => cstore_any w hf2 hx h y s v hy hv
theorem cbegin_rep (w : World) (hf : Fam w0 w l) (hi : l[i]? = some (CoA b c)) (h : c.Okc) (a : Option Addr) (n cp : Nat) (roots : List Int) (hl : roots.length = n) (hn : n ≤ 1000000) (hw : ∀ y ∈ roots, wfI y) (hr : ∀ wx, Fam w0 wx (l.set i NoA) → Read wx (.slice a n cp) roots) :
    Calls Tryz.prog 51 #[.pointer (some ⟨b, 0, none⟩), .slice a n cp] w (fun e w' => e = .returned (.int .i64 (c.begin roots).1) ∧ Fam w0 w' (l.set i (CoA b (c.begin roots).2))) :=
  CoA.wrap hf hi fun x hx hf2 => cbegin_any w hf2 hx h a n cp roots hl hn hw hr
theorem cget_rep (w : World) (hf : Fam w0 w l) (hi : l[i]? = some (CoA b c)) (h : c.Okc) (y s : Int) (hy : wfI y) : Calls Tryz.prog 47 #[.pointer (some ⟨b, 0, none⟩), .int .i64 y, .int .i64 s] w (Same w (.tuple #[.int .i64 (c.get y s).1, .int .i64 (c.get y s).2])) := by
  obtain ⟨x, hx, hf2⟩ := CoA.open hf hi
  exact cget_any w hf2 h y s hy
theorem cphaseA_rep (w : World) (hf : Fam w0 w l) (hi : l[i]? = some (CoA b c)) : Calls Tryz.prog 53 #[.pointer (some ⟨b, 0, none⟩)] w (Exact w (.int .i64 (c.ph : Int))) := by
  obtain ⟨x, hx, hf2⟩ := CoA.open hf hi
  exact cphase_rep w hf2
theorem cheap_rep (w : World) (hf : Fam w0 w l) (hi : l[i]? = some (CoA b c)) : Calls Tryz.prog 55 #[.pointer (some ⟨b, 0, none⟩)] w (fun e w' => ∃ q, e = .returned (.pointer (some ⟨q, 0, none⟩)) ∧ Only [] w w' ∧ Fam w0 w' (l ++ [PH q c.m.M])) := by
  obtain ⟨x, hx, hf2⟩ := CoA.open hf hi
  have hil := (List.getElem?_eq_some_iff.1 hi).1
  refine (cheap_any w hf2).mono fun e w' ⟨q, he, ho, hf'⟩ => ⟨q, he, ho, ?_⟩
  have h2 : Fam w0 w' (C5 b c x ++ (l ++ [PH q c.m.M]).set i NoA) := by
    rw [List.set_append_left _ _ hil]
    exact hf'
  exact CoA.back h2 hx (lat_left hi)
end
def sanM : Hp := (((Hp.new 2).newObject 0 []).2.2.newObject 0 []).2.2
def san3 : Co := ⟨(Mk.start sanM).shades [1], Tb.new, 1, -2, 0, 2, [], 0⟩
theorem san_facts : ((Hp.new 2).newObject 0 []).1 = 1 ∧ ((Hp.new 2).newObject 0 []).2.1 = 0 ∧ (((Hp.new 2).newObject 0 []).2.2.newObject 0 []).1 = 2 ∧ (((Hp.new 2).newObject 0 []).2.2.newObject 0 []).2.1 = 0 := by decide +kernel
theorem san_ob : (sanM.ob 1).isSome = true := by decide +kernel
theorem san_steps : (Co.steps 6 san3).ph = 0 ∧ (∀ j, j < 6 → (Co.steps j san3).ph ≠ 0) ∧ (Co.steps 6 san3).m.M.handles = [1] := by decide +kernel
end Go.Proofs.YthflghdaejbdkaaGreat
namespace Go.Proofs.YthflghdaejbdkaaGreat
open Go.RowKit Go.Maps
set_option maxHeartbeats 6400000
set_option maxRecDepth 100000
set_option linter.unusedVariables false
section
variable {w0 w w' : World} {l : List Asn} {b : Nat} {t : Tb} {kk : Nat} {ev qv wv : Value} {nx : Nat} {wl : List Bool}
theorem TrA.trT (hk0 : l[kk]? = some (TrA b t)) (hf : Fam w0 w l) (hm : TrAt w b ev qv wv nx wl t) (ev' qv' wv' : Value) (nx' : Nat) (wl' : List Bool) (t' : Tb) (h1 : TrAt w' b ev' qv' wv' nx' wl' t')
    (h2 : ∀ x, trS b ev' qv' wv' x → trS b ev qv wv x ∨ w.heap.size ≤ x) (h3 : OnlyP (trS b ev qv wv) w w') : Fam w0 w' (l.set kk (TrA b t')) := by
  refine hf.turn kk hk0 fun S hS => ?_
  obtain ⟨ev2, qv2, wv2, nx2, wl2, hm2, hS⟩ := hS
  obtain ⟨rfl, rfl, rfl⟩ := hm.same hm2
  exact ⟨trS b ev' qv' wv', ⟨ev', qv', wv', nx', wl', h1, fun k => Iff.rfl⟩, fun k hk => (h2 k hk).imp (fun x => (hS k).2 x) id, h3.mono (fun k hk => .inl ((hS k).2 hk))⟩
theorem TrA.setQ (hk0 : l[kk]? = some (TrA b t)) (hf : Fam w0 w l) (ht : TrAt w b ev qv wv nx wl t) {w2 : World} {v' : Value} {q' : List Int} (he : Ints w2 w.heap.size v' q') (ho : Only [] w w2) :
    w2.cell? ⟨b, 1, none⟩ = some qv ∧ w2.frozen? ⟨b, 1, none⟩ = false ∧ TrAt (w2.setCell ⟨b, 1, none⟩ v') b ev v' wv nx wl ⟨t.ents, q', t.ph, t.nx, t.fd⟩ ∧ Fam w0 (w2.setCell ⟨b, 1, none⟩ v') (l.set kk (TrA b ⟨t.ents, q', t.ph, t.nx, t.fd⟩)) := by
  have hbl : b < w.heap.size := by obtain ⟨U, hr⟩ := ht.row; exact hr.lt
  have ht2 := ht.only0 ho
  have hs : Only [b] w2 (w2.setCell ⟨b, 1, none⟩ v') := (Only.refl _ w2).set (.inl (by simp)) _
  obtain ⟨h1, h2, h3⟩ := ht2.rest hs
  have hnb : ∀ g, v'.ownBlock = some g → w.heap.size ≤ g := fun g hg => (he.own g hg).1
  have hT : TrAt (w2.setCell ⟨b, 1, none⟩ v') b ev v' wv nx wl ⟨t.ents, q', t.ph, t.nx, t.fd⟩ :=
    ⟨ht2.row.imp fun U x => x.set 1 _, h1, (he.base (Nat.zero_le _)).only hs (fun g hg => by have := hnb g hg; simp; omega), h3, ht.now, ht.two, fun g hg => ⟨(ht.n1 g hg).1, (ht.n1 g hg).2.1, fun e => by have := hnb g e; have := (ht.ents.own g hg).2; omega⟩, fun g hg => ⟨by have := hnb g hg; omega, fun e => by have := hnb g hg; have := (ht.wh.own g e).2; omega⟩, ht.n3⟩
  refine ⟨ht2.cells.2.1, ht2.cells.2.2.2.2.2 1, hT, TrA.trT hk0 hf ht ev v' wv nx wl _ hT (fun x hx => ?_) ((ho.mono (G := [b]) (by simp)).trans hs (by simp) |>.toP (fun x hx => .inl (.inl (by simpa using hx))))⟩
  rcases hx with hx | hx | hx | hx
  · exact .inl (.inl hx)
  · exact .inl (.inr (.inl hx))
  · exact .inr (hnb x hx)
  · exact .inl (.inr (.inr (.inr hx)))
theorem rttakeT_rep (w : World) (hk0 : l[kk]? = some (TrA b t)) (hf : Fam w0 w l) (hl : t.q.length ≤ 1000000) : Calls Tryz.prog 147 #[.pointer (some ⟨b, 0, none⟩)] w (fun e w' => e = .returned (.tuple #[.int .i64 t.take.1, .int .i64 t.take.2.1]) ∧ Fam w0 w' (l.set kk (TrA b t.take.2.2))) := by
  refine calls_abs fun R hR => ?_
  obtain ⟨S0, ⟨ev, qv, wv, nx, wl, ht, _⟩, _⟩ := hf.get kk hk0
  have HT := Lib.hid ht
  have HF := Lib.hid hf
  unfold Tb.take at hR
  cases e : t.q with
  | nil =>
    obtain ⟨z0, z1, z2, z3, z4, zf⟩ := ht.cells
    rw [e] at hR
    have hi := ht.q
    rw [e] at hi
    obtain ⟨a, c, rfl⟩ := hi.len
    clear ht hi hf
    replace z1 : w.cell? ⟨b, 1, none⟩ = some (.slice a 0 c) := z1
    go_enter Tryz.func147, Tryz.ntmps147
    go_wp2_with fail
    exact hR.out _ _ ⟨rfl, by show Fam w0 w (l.set kk (TrA b t)); rw [set_get hk0]; exact HF.out⟩
  | cons x rs =>
    rw [e] at hR hl
    have hi := ht.q
    rw [e] at hi
    obtain ⟨z0, z1, z2, z3, z4, zf⟩ := ht.cells
    rcases hi.form with ⟨_, h0⟩ | ⟨g, cap, rfl, _, hgl, hlc, hc⟩
    · cases h0
    have hc0 : w.cell? ⟨g, 0, none⟩ = some (.int .i64 x) := hc 0 (by simp)
    have HRD : Hid (∀ k, k < rs.length → w.cell? ⟨g, 1 + k, none⟩ = some (.int .i64 (gI rs k))) := fun k hk => by
      have h4 := hc (k + 1) (by simp; omega)
      rw [Nat.add_comm 1 k, h4]; simp [gI]
    obtain ⟨n, hn⟩ : ∃ z, z = rs.length := ⟨_, rfl⟩
    have HN := Lib.hid hn
    have hl2 : n ≤ 1000000 := by rw [hn]; simp at hl; omega
    replace hlc : n + 1 ≤ cap := by rw [hn]; simpa using hlc
    replace z1 : w.cell? ⟨b, 1, none⟩ = some (.slice (some ⟨g, 0, none⟩) (n + 1) cap) := by rw [hn]; exact z1
    have z1a : (w.alloc (.cells #[] 3)).cell? ⟨b, 1, none⟩ = some (.slice (some ⟨g, 0, none⟩) (n + 1) cap) := by rw [World.cell?_alloc_past _ _ _ (World.block_lt_of_cell? w _ z1)]; exact z1
    have hn1 : ((n : Int) + 1 == 0) = false := by rw [beq_eq_false_iff_ne]; omega
    have hn2 : (0 : Int) < (n : Int) + 1 := by omega
    clear ht hi hf hn hl hc z0 z2 z3 z4 zf
    by_cases hc1 : cap = 1
    · subst hc1
      obtain rfl : n = 0 := by omega
      have hrs : rs = [] := List.eq_nil_of_length_eq_zero HN.out.symm
      subst hrs
      replace z1 : w.cell? ⟨b, 1, none⟩ = some (.slice (some ⟨g, 0, none⟩) 1 1) := z1
      replace z1a : (w.alloc (.cells #[] 3)).cell? ⟨b, 1, none⟩ = some (.slice (some ⟨g, 0, none⟩) 1 1) := z1a
      clear hn1 hn2
      go_enter Tryz.func147, Tryz.ntmps147
      go_wp2_with (at_builtin; refine wpList_icpy rfl _ _ rfl w ((Only.refl _ _).alloc _) _ rfl (Ints.made _) _ 0 _ [] rfl rfl (.inr ⟨_, _, rfl, rfl⟩) (by omega) ?c1)
      case c1 =>
        intro g2 cap2 w1 hi ho
        obtain ⟨y1, yf, _, hf2⟩ := TrA.setQ hk0 HF.out HT.out hi.out ho.out
        have HF2 := Lib.hid hf2
        clear hi ho hf2
        go_wp2_with fail
        exact hR.out _ _ ⟨rfl, HF2.out⟩
    · have hc2 : (cap = 1) = False := eq_false hc1
      have hl3 : (1 : Int) ≤ ((n + 1 : Nat) : Int) := by omega
      have hl4 : ((n + 1 : Nat) : Int) ≤ cap := by omega
      go_enter Tryz.func147, Tryz.ntmps147
      go_wp2_with (at_builtin; refine wpList_icpy rfl _ _ rfl w ((Only.refl _ _).alloc _) _ rfl (Ints.made _) (some ⟨g, 1, none⟩) n _ rs rfl HN.out.symm (.inl ⟨g, 1, _, by rw [HN.out], HRD.out⟩) hl2 ?c1)
      case c1 =>
        intro g2 cap2 w1 hi ho
        obtain ⟨y1, yf, _, hf2⟩ := TrA.setQ hk0 HF.out HT.out hi.out ho.out
        have HF2 := Lib.hid hf2
        clear hi ho hf2
        go_wp2_with fail
        exact hR.out _ _ ⟨rfl, HF2.out⟩
end
section
variable {w0 w w' : World} {l : List Asn} {b : Nat} {c : Co} {x : GX5} {i : Nat} {m : Mk} {t : Tb}
theorem gnewC_bad (w : World) (n r : Int) (h : n < 1 ∨ 24 < n ∨ r < 0 ∨ 100 < r) : Calls Tryz.prog 36 #[.int .i64 n, .int .i64 r] w (fun e w' => e = .returned (.tuple #[.pointer none, .int .i64 1]) ∧ Only [] w w') := by
  refine calls_abs fun R hR => ?_
  by_cases h0 : n < 1 ∨ 24 < n
  · have ch := gnew_bad w n h0
    clear h h0
    go_enter Tryz.func36, Tryz.ntmps36
    go_wp2_with fail
    refine ch.mono ?_
    rintro e _ ⟨rfl, rfl⟩
    go_wp2_with fail
    exact hR.out _ _ ⟨rfl, Only.refl _ _⟩
  · obtain ⟨k, rfl⟩ : ∃ k : Nat, n = (k : Int) := ⟨n.toNat, by omega⟩
    have ch := gnew_good w k (by omega) (by omega)
    by_cases hr0 : r < 0
    · clear h h0
      go_enter Tryz.func36, Tryz.ntmps36
      go_wp2_with fail
      refine ch.mono ?_
      rintro e w1 ⟨hb, L, X, rfl, _, _, ho⟩
      have HO := Lib.hid ho
      clear ch ho
      go_wp2_with fail
      exact hR.out _ _ ⟨rfl, HO.out⟩
    · have hr1 : 100 < r := by omega
      clear h h0
      go_enter Tryz.func36, Tryz.ntmps36
      go_wp2_with fail
      refine ch.mono ?_
      rintro e w1 ⟨hb, L, X, rfl, _, _, ho⟩
      have HO := Lib.hid ho
      clear ch ho
      go_wp2_with fail
      exact hR.out _ _ ⟨rfl, HO.out⟩
theorem gnewC_good (w : World) (hf : Fam w0 w l) (n : Nat) (r : Int) (h1 : 1 ≤ n) (h24 : n ≤ 24) (hr : 0 ≤ r ∧ r ≤ 100) : Calls Tryz.prog 36 #[.int .i64 (n : Int), .int .i64 r] w (fun e w' => ∃ b, e = .returned (.tuple #[.pointer (some ⟨b, 0, none⟩), .int .i64 0]) ∧ Fam w0 w' (l ++ [GoA b (Co.new n r)])) := by
  refine calls_abs fun R hR => ?_
  have ch := gnew_good w n h1 h24
  have HF := Lib.hid hf
  have HKF : Hid ((Hp.new n).OkF) := Hp.OkF.new h1 h24
  have r1 : ¬ r < 0 := by omega
  have r2 : ¬ 100 < r := by omega
  clear hf h1 h24 hr
  go_enter Tryz.func36, Tryz.ntmps36
  go_wp2_with fail
  refine ch.mono ?_
  rintro e w1 ⟨hb, L, X, rfl, hp, hL, ho⟩
  have F1 : Hid (Fam w0 w1 (l ++ [GH hb (Hp.new n)] ++ [NoA])) := (HF.out.add (gborn hp HKF.out.ok hL ho)).addNo
  have ct := rtnew_any w1
  clear ch hp hL ho HF
  go_wp2_with fail
  refine ct.mono ?_
  rintro e w3 ⟨rfl, rfl⟩
  have F3 : Hid (Fam w0 (w1.alloc (.cells #[.slice none 0 0, .slice none 0 0, .int .i64 0, .int .i64 0, .slice none 0 0] 52)) (l ++ [GH hb (Hp.new n)] ++ [NoA] ++ [TrA w1.heap.size Tb.new])) := F1.out.add (tr_born w1)
  obtain ⟨t, ht⟩ : ∃ t, t = w1.heap.size := ⟨_, rfl⟩
  rw [← ht] at F3 ⊢
  generalize w1.alloc (.cells #[.slice none 0 0, .slice none 0 0, .int .i64 0, .int .i64 0, .slice none 0 0] 52) = w3 at *
  have F4 := F3.out.addInts (v := .slice none 0 0) (m := []) (Only.refl [] w3) (Ints.nil w3 w3.heap.size)
  have F5 : Hid (Fam w0 (w3.alloc (.cells #[.pointer (some ⟨hb, 0, none⟩), .pointer (some ⟨t, 0, none⟩), .pointer none, .int .i64 0, .int .i64 0, .int .i64 r, .int .i64 (n : Int), .int .i64 0, .slice none 0 0] 99)) (G5 w3.heap.size (Co.new n r) ⟨hb, 0, t, .slice none 0 0, false, 0⟩ ++ l)) := by
    have f5 := F4.rowFront 99 [.pointer (some ⟨hb, 0, none⟩), .pointer (some ⟨t, 0, none⟩), .pointer none, .int .i64 0, .int .i64 0, .int .i64 r, .int .i64 (n : Int), .int .i64 0, .slice none 0 0]
    exact f5.pack5
  clear ct F1 F3 F4 ht
  go_wp2_with fail
  exact hR.out _ _ ⟨w3.heap.size, rfl, GoA.born ⟨rfl, fun e => (by cases e), fun e => (by cases e), Nat.zero_le _⟩ F5.out⟩
end
end Go.Proofs.YthflghdaejbdkaaGreat
