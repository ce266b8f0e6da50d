/- Lemmas of this claim. -/
import Derived.Test.YthflghdaejbdkaaGreatWCyW
namespace Go.Proofs.YthflghdaejbdkaaGreat
open Go.RowKit Go.Maps
set_option maxHeartbeats 6400000
set_option maxRecDepth 100000
set_option linter.unusedVariables false
section
variable {w0 w : World} {l : List Asn} {b : Nat} {c : Co} {x : CX} {i : Nat}
theorem Fam.front {A : Asn} (h : Fam w0 w (l ++ [A])) : Fam w0 w (A :: l) := by
  refine h.selC (fun k => if k = 0 then l.length else k - 1) (fun k Z hk => ?_) (fun j k hj hk hne => ?_)
  · match k with
    | 0 =>
      show (l ++ [A])[l.length]? = some Z
      rw [lat_last]; exact hk
    | k + 1 =>
      have hk2 : l[k]? = some Z := hk
      simp only [show ¬ (k + 1 = 0) by omega, if_false, Nat.add_sub_cancel]
      exact lat_left hk2
  · rw [List.length_cons] at hj hk
    split <;> split <;> omega
theorem cgiveE_nil (w : World) (n : Int) : Calls Tryz.prog 43 #[.pointer none, .int .i64 n] w (Exact w (.tuple #[.int .i64 0, .int .i64 1])) := by
  refine calls_abs fun R hR => ?_
  have cn := cnone_nil w
  go_enter Tryz.func43, Tryz.ntmps43
  go_wp2_with fail
  refine cn.mono ?_
  rintro e _ ⟨rfl, rfl⟩
  go_wp2_with fail
  exact hR.out _ _ ⟨rfl, rfl⟩
theorem cget_nil (w : World) (y s : Int) : Calls Tryz.prog 47 #[.pointer none, .int .i64 y, .int .i64 s] w (Exact w (.tuple #[.int .i64 0, .int .i64 1])) := by
  refine calls_abs fun R hR => ?_
  have cn := cnone_nil w
  go_enter Tryz.func47, Tryz.ntmps47
  go_wp2_with fail
  refine cn.mono ?_
  rintro e _ ⟨rfl, rfl⟩
  go_wp2_with fail
  exact hR.out _ _ ⟨rfl, rfl⟩
theorem cstore_nil (w : World) (y s v : Int) : Calls Tryz.prog 52 #[.pointer none, .int .i64 y, .int .i64 s, .int .i64 v] w (Exact w (.int .i64 1)) := by
  refine calls_abs fun R hR => ?_
  have cn := cnone_nil w
  go_enter Tryz.func52, Tryz.ntmps52
  go_wp2_with fail
  refine cn.mono ?_
  rintro e _ ⟨rfl, rfl⟩
  go_wp2_with fail
  exact hR.out _ _ ⟨rfl, rfl⟩
def EDid (w0 : World) (l : List Asn) (b : Nat) (r : Int × Co) (e : Ending) (w' : World) : Prop := e = .returned (.int .i64 r.1) ∧ ∃ x' : CX, x'.ok r.2 ∧ Fam w0 w' (C5 b r.2 x' ++ l)
theorem cheap_nil (w : World) : Calls Tryz.prog 55 #[.pointer none] w (Exact w (.pointer none)) := by
  refine calls_abs fun R hR => ?_
  have cn := cnone_nil w
  go_enter Tryz.func55, Tryz.ntmps55
  go_wp2_with fail
  refine cn.mono ?_
  rintro e _ ⟨rfl, rfl⟩
  go_wp2_with fail
  exact hR.out _ _ ⟨rfl, rfl⟩
theorem cheap_any (w : World) (hf : Fam w0 w (C5 b c x ++ l)) : Calls Tryz.prog 55 #[.pointer (some ⟨b, 0, none⟩)] w (fun e w' => ∃ q, e = .returned (.pointer (some ⟨q, 0, none⟩)) ∧ Only [] w w' ∧ Fam w0 w' (C5 b c x ++ (l ++ [PH q c.m.M]))) := by
  refine calls_abs fun R hR => ?_
  obtain ⟨_, _, x2, _⟩ := CRow.cells hf
  have cn := cnone_rep w x2
  have ch := hcp_rep w hf
  clear hf
  go_enter Tryz.func55, Tryz.ntmps55
  go_wp2_with fail
  refine cn.mono ?_
  rintro e _ ⟨rfl, rfl⟩
  go_wp2_with fail
  refine ch.mono ?_
  rintro e w1 ⟨q, rfl, ho, hf1⟩
  have HE := Lib.hid (And.intro ho hf1)
  clear ch ho hf1
  go_wp2_with fail
  exact hR.out _ _ ⟨q, rfl, HE.out⟩
theorem ctake_nil (w : World) : Calls Tryz.prog 50 #[.pointer none] w (Exact w (.tuple #[.int .i64 0, .int .i64 1])) := by
  refine calls_abs fun R hR => ?_
  have cn := cnone_nil w
  go_enter Tryz.func50, Tryz.ntmps50
  go_wp2_with fail
  refine cn.mono ?_
  rintro e _ ⟨rfl, rfl⟩
  go_wp2_with fail
  exact hR.out _ _ ⟨rfl, rfl⟩
end
end Go.Proofs.YthflghdaejbdkaaGreat
namespace Go.Proofs.YthflghdaejbdkaaGreat
open Go.RowKit Go.Maps
set_option maxHeartbeats 6400000
set_option maxRecDepth 100000
set_option linter.unusedVariables false
section
variable {w0 w : World} {l : List Asn} {b : Nat} {c : Co} {x : CX} {i : Nat}
theorem cnewObject_nil (w : World) (k : Int) (v : Value) : Calls Tryz.prog 45 #[.pointer none, .int .i64 k, v] w (Exact w (.tuple #[.int .i64 0, .int .i64 1])) := by
  refine calls_abs fun R hR => ?_
  have cn := cnone_nil w
  go_enter Tryz.func45, Tryz.ntmps45
  go_wp2_with fail
  refine cn.mono ?_
  rintro e _ ⟨rfl, rfl⟩
  go_wp2_with fail
  exact hR.out _ _ ⟨rfl, rfl⟩
theorem hnewO_rep (w : World) (hf : Fam w0 w (C5 b c x ++ l)) (k : Int) (v : Value) (bl : List Bool) (hv : BArg w v bl) (hl : bl.length ≤ 1000000) : Calls Tryz.prog 82 #[.pointer (some ⟨x.hb, 0, none⟩), .int .i64 k, v] w (fun e w' => e = .returned (.tuple #[.int .i64 (c.m.M.newObject k bl).1, .int .i64 (c.m.M.newObject k bl).2.1]) ∧ Fam w0 w' (C5 b (c.setM (c.m.put (c.m.M.newObject k bl).2.2)) x ++ l)) :=
  hf.pstep 0 rfl (M' := (c.m.M.newObject k bl).2.2) (fun hk => hk.newObject k bl) (fun L X hr hk => newObject_rep w hr hk k v bl hv hl)
theorem cnewObject_any (w : World) (hf : Fam w0 w (C5 b c x ++ l)) (hx : x.ok c) (h : c.Ok) (k : Int) (va : Option Addr) (n vc : Nat) (bl : List Bool) (hn : bl.length = n) (hl : n ≤ 1000000) (hv : ∀ wx (c' : Co) (x' : CX), Fam w0 wx (C5 b c' x' ++ l) → BArg wx (.slice va n vc) bl) :
    Calls Tryz.prog 45 #[.pointer (some ⟨b, 0, none⟩), .int .i64 k, .slice va n vc] w (TDid2 w0 l b (c.newObject k bl)) := by
  refine calls_abs fun R hR => ?_
  obtain ⟨_, x1, x2, _⟩ := CRow.cells hf
  have cn := cnone_rep w x2
  unfold Co.newObject at hR
  by_cases hbad : k < 0 ∨ 10 ≤ k ∨ 7 < bl.length
  · rw [if_pos hbad] at hR
    rw [hn] at hbad
    have HE : Hid (TDid2 w0 l b (0, 1, c) (.returned (.tuple #[.int .i64 0, .int .i64 1])) w) := ⟨rfl, x, hx, hf⟩
    clear hf hx h hv hn hl
    by_cases b1 : k < 0
    · clear hbad
      go_enter Tryz.func45, Tryz.ntmps45
      go_wp2_with fail
      refine cn.mono ?_
      rintro e _ ⟨rfl, rfl⟩
      go_wp2_with fail
      exact hR.out _ _ HE.out
    · by_cases b2 : 10 ≤ k
      · clear hbad
        go_enter Tryz.func45, Tryz.ntmps45
        go_wp2_with fail
        refine cn.mono ?_
        rintro e _ ⟨rfl, rfl⟩
        go_wp2_with fail
        exact hR.out _ _ HE.out
      · have b3 : (7 : Int) < n := by omega
        clear hbad
        go_enter Tryz.func45, Tryz.ntmps45
        go_wp2_with fail
        refine cn.mono ?_
        rintro e _ ⟨rfl, rfl⟩
        go_wp2_with fail
        exact hR.out _ _ HE.out
  · rw [if_neg hbad] at hR
    rw [hn] at hbad
    have b1 : ¬ k < 0 := by omega
    have b2 : ¬ 10 ≤ k := by omega
    have b3 : ¬ (7 : Int) < n := by omega
    have cg := cgive_any w hf hx h c.rate ⟨h.k.rt.1, by have := h.k.rt.2; omega⟩
    have HOK := Lib.hid (h.give h.k.rt.1)
    have HV := Lib.hid hv
    have HL := Lib.hid hl
    have HN := Lib.hid hn
    clear hf hx h hbad hv hl hn
    obtain ⟨d, hd⟩ : ∃ d, d = (c.give c.rate).2 := ⟨_, rfl⟩
    rw [← hd] at cg HOK hR
    generalize (c.give c.rate).1 = gn at *
    clear hd
    go_enter Tryz.func45, Tryz.ntmps45
    go_wp2_with fail
    refine cn.mono ?_
    rintro e _ ⟨rfl, rfl⟩
    clear cn
    go_wp2_with fail
    refine cg.mono ?_
    rintro e w1 ⟨rfl, x1', hx1, hf1⟩
    have cb := cbarrier_rep w1 hf1 HOK.out.k
    obtain ⟨_, _, z2, _, z4, _⟩ := CRow.cells hf1
    have hba := HV.out w1 d x1' hf1
    have HX1 := Lib.hid hx1
    unfold Co.newObj at hR
    cases hb : d.bar with
    | true =>
      rw [hb] at cb hR
      have cm := mnewObject_rep w1 (C5.t2 (b := b) (c := d) (x := x1') (l := l)) (hb := x1'.hb) (p := x1'.p) (m := d.m) hf1 (HOK.out.k.mo (bar_iff.1 hb)) k (.slice va n vc) bl hba (by rw [HN.out]; exact HL.out)
      have HR : Hid (∀ w', Fam w0 w' (C5 b { d with m := (d.m.newObject k bl).2.2 } x1' ++ l) → R (.returned (.tuple #[.int .i64 (d.m.newObject k bl).1, .int .i64 (d.m.newObject k bl).2.1])) w') := fun w' h2 => hR.out _ _ ⟨rfl, x1', ⟨HX1.out.ov, HX1.out.mv, HX1.out.mv2⟩, h2⟩
      replace cm : Calls Tryz.prog 118 #[.pointer (some ⟨x1'.p, 0, none⟩), .int .i64 k, .slice va n vc] w1 (fun e w' => e = .returned (.tuple #[.int .i64 (d.m.newObject k bl).1, .int .i64 (d.m.newObject k bl).2.1]) ∧ Fam w0 w' (C5 b { d with m := (d.m.newObject k bl).2.2 } x1' ++ l)) := cm
      clear hR hb hf1 hx1 hba cg
      generalize d.m.newObject k bl = r at *
      obtain ⟨r1, r2, r3⟩ := r
      go_wp2_with fail
      refine cb.mono ?_
      rintro e _ ⟨rfl, rfl⟩
      clear cb
      go_wp2_with fail
      refine cm.mono ?_
      rintro e w2 ⟨rfl, hf2⟩
      have HE := Lib.hid hf2
      clear cm hf2
      go_wp2_with fail
      exact HR.out _ HE.out
    | false =>
      rw [hb] at cb hR
      have cm := hnewO_rep w1 hf1 k (.slice va n vc) bl hba (by rw [HN.out]; exact HL.out)
      have HR : Hid (∀ w', Fam w0 w' (C5 b { d with m := d.m.put (d.m.M.newObject k bl).2.2 } x1' ++ l) → R (.returned (.tuple #[.int .i64 (d.m.M.newObject k bl).1, .int .i64 (d.m.M.newObject k bl).2.1])) w') := fun w' h2 => hR.out _ _ ⟨rfl, x1', ⟨HX1.out.ov, HX1.out.mv, HX1.out.mv2⟩, h2⟩
      replace cm : Calls Tryz.prog 82 #[.pointer (some ⟨x1'.hb, 0, none⟩), .int .i64 k, .slice va n vc] w1 (fun e w' => e = .returned (.tuple #[.int .i64 (d.m.M.newObject k bl).1, .int .i64 (d.m.M.newObject k bl).2.1]) ∧ Fam w0 w' (C5 b { d with m := d.m.put (d.m.M.newObject k bl).2.2 } x1' ++ l)) := cm
      clear hR hb hf1 hx1 hba cg
      generalize d.m.M.newObject k bl = r at *
      obtain ⟨r1, r2, r3⟩ := r
      go_wp2_with fail
      refine cb.mono ?_
      rintro e _ ⟨rfl, rfl⟩
      clear cb
      go_wp2_with fail
      refine cm.mono ?_
      rintro e w2 ⟨rfl, hf2⟩
      have HE := Lib.hid hf2
      clear cm hf2
      go_wp2_with fail
      exact HR.out _ HE.out
theorem cnewArray_nil (w : World) (k a n : Int) : Calls Tryz.prog 46 #[.pointer none, .int .i64 k, .int .i64 a, .int .i64 n] w (Exact w (.tuple #[.int .i64 0, .int .i64 1])) := by
  refine calls_abs fun R hR => ?_
  have cn := cnone_nil w
  by_cases h3 : k = 3
  · subst h3
    by_cases ha : a = 0
    · subst ha
      go_enter Tryz.func46, Tryz.ntmps46
      go_wp2_with fail
      refine cn.mono ?_
      rintro e _ ⟨rfl, rfl⟩
      go_wp2_with fail
      exact hR.out _ _ ⟨rfl, rfl⟩
    · have hab : (a == 0) = false := by simpa using ha
      clear ha
      go_enter Tryz.func46, Tryz.ntmps46
      go_wp2_with fail
      refine cn.mono ?_
      rintro e _ ⟨rfl, rfl⟩
      go_wp2_with fail
      exact hR.out _ _ ⟨rfl, rfl⟩
  · have h3b : (k == 3) = false := by simpa using h3
    by_cases h4 : k = 4
    · subst h4
      clear h3 h3b
      by_cases a1 : 0 ≤ a
      · by_cases a2 : a < 10
        · go_enter Tryz.func46, Tryz.ntmps46
          go_wp2_with fail
          refine cn.mono ?_
          rintro e _ ⟨rfl, rfl⟩
          go_wp2_with fail
          exact hR.out _ _ ⟨rfl, rfl⟩
        · go_enter Tryz.func46, Tryz.ntmps46
          go_wp2_with fail
          refine cn.mono ?_
          rintro e _ ⟨rfl, rfl⟩
          go_wp2_with fail
          exact hR.out _ _ ⟨rfl, rfl⟩
      · go_enter Tryz.func46, Tryz.ntmps46
        go_wp2_with fail
        refine cn.mono ?_
        rintro e _ ⟨rfl, rfl⟩
        go_wp2_with fail
        exact hR.out _ _ ⟨rfl, rfl⟩
    · have h4b : (k == 4) = false := by simpa using h4
      clear h3 h4
      go_enter Tryz.func46, Tryz.ntmps46
      go_wp2_with fail
      refine cn.mono ?_
      rintro e _ ⟨rfl, rfl⟩
      go_wp2_with fail
      exact hR.out _ _ ⟨rfl, rfl⟩
end
end Go.Proofs.YthflghdaejbdkaaGreat
namespace Go.Proofs.YthflghdaejbdkaaGreat
open Go.RowKit Go.Maps
set_option maxHeartbeats 6400000
set_option maxRecDepth 100000
set_option linter.unusedVariables false
section
variable {w0 w : World} {l : List Asn} {b : Nat} {c : Co} {x : CX} {i : Nat}
theorem ctarget_nil (w : World) (y : Int) : Calls Tryz.prog 49 #[.pointer none, .int .i64 y] w (Exact w (.tuple #[.int .i64 0, .int .i64 1])) := by
  refine calls_abs fun R hR => ?_
  have cn := cnone_nil w
  go_enter Tryz.func49, Tryz.ntmps49
  go_wp2_with fail
  refine cn.mono ?_
  rintro e _ ⟨rfl, rfl⟩
  go_wp2_with fail
  exact hR.out _ _ ⟨rfl, rfl⟩
theorem crefer_nil (w : World) (k y g : Int) : Calls Tryz.prog 48 #[.pointer none, .int .i64 k, .int .i64 y, .int .i64 g] w (Exact w (.tuple #[.int .i64 0, .int .i64 1])) := by
  refine calls_abs fun R hR => ?_
  have cn := cnone_nil w
  go_enter Tryz.func48, Tryz.ntmps48
  go_wp2_with fail
  refine cn.mono ?_
  rintro e _ ⟨rfl, rfl⟩
  go_wp2_with fail
  exact hR.out _ _ ⟨rfl, rfl⟩
end
end Go.Proofs.YthflghdaejbdkaaGreat
