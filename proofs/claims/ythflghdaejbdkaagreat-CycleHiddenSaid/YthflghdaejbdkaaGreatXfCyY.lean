/- Lemmas of this claim. -/
import Derived.Test.YthflghdaejbdkaaGreatXfCyW
namespace Go.Proofs.YthflghdaejbdkaaGreat
open Go.RowKit Go.Maps
set_option maxHeartbeats 6400000
set_option maxRecDepth 100000
set_option linter.unusedVariables false
section
variable {w0 w : World} {l : List Asn} {b : Nat} {c : Co} {x : CX} {i : Nat}
theorem Fam.front {A : Asn} (h : Fam w0 w (l ++ [A])) : Fam w0 w (A :: l) := by
  refine h.selC (fun k => if k = 0 then l.length else k - 1) (fun k Z hk => ?_) (fun j k hj hk hne => ?_)
  · match k with
    | 0 =>
      show (l ++ [A])[l.length]? = some Z
      rw [lat_last]; exact hk
    | k + 1 =>
      have hk2 : l[k]? = some Z := hk
      simp only [show ¬ (k + 1 = 0) by omega, if_false, Nat.add_sub_cancel]
      exact lat_left hk2
  · rw [List.length_cons] at hj hk
    split <;> split <;> omega
theorem cgiveE_nil (w : World) (n : Int) : Calls Tryz.prog 43 #[.pointer none, .int .i64 n] w (Exact w (.tuple #[.int .i64 0, .int .i64 1])) := by
  refine calls_abs fun R hR => ?_
  have cn := cnone_nil w
  go_enter Tryz.func43, Tryz.ntmps43
  go_wp2_with fail
  refine cn.mono ?_
  rintro e _ ⟨rfl, rfl⟩
  go_wp2_with fail
  exact hR.out _ _ ⟨rfl, rfl⟩
theorem cgiveE_any (w : World) (hf : Fam w0 w (C5 b c x ++ l)) (hx : x.ok c) (h : c.Ok) (n : Int) : Calls Tryz.prog 43 #[.pointer (some ⟨b, 0, none⟩), .int .i64 n] w (TDid2 w0 l b (c.giveE n)) := by
  refine calls_abs fun R hR => ?_
  obtain ⟨_, _, x2, _⟩ := CRow.cells hf
  have cn := cnone_rep w x2
  unfold Co.giveE at hR
  by_cases hbad : n < 0 ∨ 10000 < n
  · rw [if_pos hbad] at hR
    have HE : Hid (TDid2 w0 l b (0, 1, c) (.returned (.tuple #[.int .i64 0, .int .i64 1])) w) := ⟨rfl, x, hx, hf⟩
    clear hf hx h
    by_cases b1 : n < 0
    · clear hbad
      go_enter Tryz.func43, Tryz.ntmps43
      go_wp2_with fail
      refine cn.mono ?_
      rintro e _ ⟨rfl, rfl⟩
      go_wp2_with fail
      exact hR.out _ _ HE.out
    · have b2 : 10000 < n := by omega
      clear hbad
      go_enter Tryz.func43, Tryz.ntmps43
      go_wp2_with fail
      refine cn.mono ?_
      rintro e _ ⟨rfl, rfl⟩
      go_wp2_with fail
      exact hR.out _ _ HE.out
  · rw [if_neg hbad] at hR
    have b1 : ¬ n < 0 := by omega
    have b2 : ¬ 10000 < n := by omega
    have cg := cgive_any w hf hx h n ⟨by omega, by omega⟩
    clear hf hx h hbad
    go_enter Tryz.func43, Tryz.ntmps43
    go_wp2_with fail
    refine cn.mono ?_
    rintro e _ ⟨rfl, rfl⟩
    go_wp2_with fail
    refine cg.mono ?_
    rintro e w1 ⟨rfl, x1, hx1, hf1⟩
    have HE : Hid (TDid2 w0 l b ((c.give n).1, 0, (c.give n).2) (.returned (.tuple #[.int .i64 (c.give n).1, .int .i64 0])) w1) := ⟨rfl, x1, hx1, hf1⟩
    clear cg hx1 hf1
    go_wp2_with fail
    exact hR.out _ _ HE.out
theorem cget_any (w : World) (hf : Fam w0 w (C5 b c x ++ l)) (h : c.Okc) (y s : Int) (hy : wfI y) : Calls Tryz.prog 47 #[.pointer (some ⟨b, 0, none⟩), .int .i64 y, .int .i64 s] w (Same w (.tuple #[.int .i64 (c.get y s).1, .int .i64 (c.get y s).2])) := by
  refine calls_abs fun R hR => ?_
  obtain ⟨_, _, x2, _⟩ := CRow.cells hf
  have cn := cnone_rep w x2
  have ch := chidden_rep w hf h y hy
  unfold Co.get at hR
  cases hh : c.hid y with
  | true =>
    rw [hh] at ch hR
    replace hR : Hid (∀ e w', Same w (.tuple #[.int .i64 0, .int .i64 3]) e w' → R e w') := hR
    clear hf h hh
    go_enter Tryz.func47, Tryz.ntmps47
    go_wp2_with fail
    refine cn.mono ?_
    rintro e _ ⟨rfl, rfl⟩
    go_wp2_with fail
    refine ch.mono ?_
    rintro e _ ⟨rfl, k, rfl⟩
    go_wp2_with fail
    exact hR.out _ _ ⟨rfl, k, rfl⟩
  | false =>
    rw [hh] at ch hR
    replace hR : Hid (∀ e w', Same w (.tuple #[.int .i64 (c.m.M.get y s).1, .int .i64 (c.m.M.get y s).2]) e w' → R e w') := hR
    have HC : Hid (∀ n, (w.drewN n).cell? ⟨b, 2, none⟩ = some (.pointer (some ⟨x.hb, 0, none⟩)) ∧ Calls Tryz.prog 122 #[.pointer (some ⟨x.hb, 0, none⟩), .int .i64 y, .int .i64 s] (w.drewN n) (Same (w.drewN n) (.tuple #[.int .i64 (c.m.M.get y s).1, .int .i64 (c.m.M.get y s).2]))) := fun n => by
      obtain ⟨hk, L, X, hp⟩ := C5.ph (hf.drewN n)
      exact ⟨(CRow.cells (hf.drewN n)).2.2.1, get_rep _ hp hk y s hy⟩
    clear hf h hh
    go_enter Tryz.func47, Tryz.ntmps47
    go_wp2_with fail
    refine cn.mono ?_
    rintro e _ ⟨rfl, rfl⟩
    go_wp2_with fail
    refine ch.mono ?_
    rintro e _ ⟨rfl, k, rfl⟩
    obtain ⟨z2, cg⟩ := HC.out k
    clear ch HC x2
    go_wp2_with fail
    refine cg.mono ?_
    rintro e w2 ⟨rfl, k2, rfl⟩
    clear cg
    go_wp2_with fail
    exact hR.out _ _ ⟨rfl, k + k2, rfl⟩
def EDid (w0 : World) (l : List Asn) (b : Nat) (r : Int × Co) (e : Ending) (w' : World) : Prop := e = .returned (.int .i64 r.1) ∧ ∃ x' : CX, x'.ok r.2 ∧ Fam w0 w' (C5 b r.2 x' ++ l)
theorem cstoreIn_any (w : World) (hf : Fam w0 w (C5 b c x ++ l)) (hx : x.ok c) (h : c.Okc) (y s v : Int) (hy : wfI y) (hv : wfI v) (hh : c.hid y = false) (hr : (c.m.M.isRef y s).1 = true → c.hid v = false) : Calls Tryz.prog 52 #[.pointer (some ⟨b, 0, none⟩), .int .i64 y, .int .i64 s, .int .i64 v] w (EDid w0 l b (c.store y s v)) := by
  refine calls_abs fun R hR => ?_
  obtain ⟨_, _, x2, _⟩ := CRow.cells hf
  have cn := cnone_rep w x2
  have ch := chidden_rep w hf h y hy
  rw [hh] at ch
  have HST : Hid (c.store y s v = if c.bar = true then ((c.m.store y s v).1, ({ c with m := (c.m.store y s v).2 } : Co)) else ((c.m.M.set y s v).1, ({ c with m := c.m.put (c.m.M.set y s v).2 } : Co))) := by
    show _ = _
    unfold Co.store
    rw [if_neg (fun e => by rcases e with e | e; rw [hh] at e; cases e; have := hr e.1; rw [this] at e; cases e.2)]
  rw [HST.out] at hR
  have HF := Lib.hid hf
  have HX := Lib.hid hx
  have HH := Lib.hid h
  have HWY := Lib.hid hy
  have HWV := Lib.hid hv
  clear hf hx h hy hv hh HST
  go_enter Tryz.func52, Tryz.ntmps52
  go_wp2_with fail
  refine cn.mono ?_
  rintro e _ ⟨rfl, rfl⟩
  clear cn
  go_wp2_with fail
  refine ch.mono ?_
  rintro e _ ⟨rfl, k, rfl⟩
  have F1 := Lib.hid (HF.out.drewN k)
  generalize w.drewN k = w1 at *
  obtain ⟨_, _, z2, _⟩ := CRow.cells F1.out
  obtain ⟨hk1, L1, X1, hp1⟩ := C5.ph F1.out
  have ci := isRef_rep w1 hp1 hk1 y s HWY.out
  clear ch x2 HF hk1 hp1
  -- what follows when nothing is hidden
  have HB : Hid (∀ wx, Fam w0 wx (C5 b c x ++ l) → Calls Tryz.prog 117 #[.pointer (some ⟨b, 0, none⟩)] wx (Exact wx (.bool c.bar))) := fun wx hx => cbarrier_rep wx hx HH.out
  have HS : Hid (∀ wx, Fam w0 wx (C5 b c x ++ l) → Calls Tryz.prog 127 #[.pointer (some ⟨x.hb, 0, none⟩), .int .i64 y, .int .i64 s, .int .i64 v] wx (fun e w' => e = .returned (.int .i64 (c.m.M.set y s v).1) ∧ Fam w0 w' (C5 b (c.setM (c.m.put (c.m.M.set y s v).2)) x ++ l))) := fun wx hx => hset_rep wx hx y s v HWY.out HWV.out
  have HMS : Hid (c.bar = true → ∀ wx, Fam w0 wx (C5 b c x ++ l) → Calls Tryz.prog 126 #[.pointer (some ⟨x.p, 0, none⟩), .int .i64 y, .int .i64 s, .int .i64 v] wx (fun e w' => e = .returned (.int .i64 (c.m.store y s v).1) ∧ Fam w0 w' (C5 b (c.setM (c.m.store y s v).2) x ++ l))) := fun hb wx hx => mstore_rep wx (C5.t2 (b := b) (c := c) (x := x) (l := l)) (hb := x.hb) (p := x.p) (m := c.m) hx (HH.out.mo (bar_iff.1 hb)) y s v HWY.out HWV.out
  cases hrr : (c.m.M.isRef y s).1 with
  | true =>
    have cv : Hid (∀ wx, Fam w0 wx (C5 b c x ++ l) → Calls Tryz.prog 121 #[.pointer (some ⟨b, 0, none⟩), .int .i64 v] wx (Same wx (.bool false))) := fun wx hx => by
      have := chidden_rep wx hx HH.out v HWV.out
      rw [hr hrr] at this
      exact this
    rw [hrr] at ci
    clear hr hrr
    generalize (c.m.M.isRef y s).2 = re at *
    go_wp2_with fail
    refine ci.mono ?_
    rintro e _ ⟨rfl, rfl⟩
    have cv2 := cv.out _ F1.out
    clear ci cv
    go_wp2_with fail
    refine cv2.mono ?_
    rintro e _ ⟨rfl, k2, rfl⟩
    have F2 := Lib.hid (F1.out.drewN k2)
    generalize w1.drewN k2 = w2 at *
    have cb := HB.out w2 F2.out
    obtain ⟨_, _, y2, _, y4, _⟩ := CRow.cells F2.out
    clear cv2 F1 z2
    cases hb : c.bar with
    | true =>
      rw [hb] at cb hR
      have cs := HMS.out hb w2 F2.out
      clear hb HS
      go_wp2_with fail
      refine cb.mono ?_
      rintro e _ ⟨rfl, rfl⟩
      clear cb
      go_wp2_with fail
      refine cs.mono ?_
      rintro e w3 ⟨rfl, hf3⟩
      have HE := Lib.hid hf3
      clear cs hf3
      go_wp2_with fail
      exact hR.out _ _ ⟨rfl, x, ⟨HX.out.ov, HX.out.mv, HX.out.mv2⟩, HE.out⟩
    | false =>
      rw [hb] at cb hR
      have cs := HS.out w2 F2.out
      clear hb HMS
      go_wp2_with fail
      refine cb.mono ?_
      rintro e _ ⟨rfl, rfl⟩
      clear cb
      go_wp2_with fail
      refine cs.mono ?_
      rintro e w3 ⟨rfl, hf3⟩
      have HE := Lib.hid hf3
      clear cs hf3
      go_wp2_with fail
      exact hR.out _ _ ⟨rfl, x, ⟨HX.out.ov, HX.out.mv, HX.out.mv2⟩, HE.out⟩
  | false =>
    rw [hrr] at ci
    have cb := HB.out w1 F1.out
    obtain ⟨_, _, y2, _, y4, _⟩ := CRow.cells F1.out
    clear hr hrr
    generalize (c.m.M.isRef y s).2 = re at *
    cases hb : c.bar with
    | true =>
      rw [hb] at cb hR
      have cs := HMS.out hb w1 F1.out
      clear hb HS
      go_wp2_with fail
      refine ci.mono ?_
      rintro e _ ⟨rfl, rfl⟩
      clear ci
      go_wp2_with fail
      refine cb.mono ?_
      rintro e _ ⟨rfl, rfl⟩
      clear cb
      go_wp2_with fail
      refine cs.mono ?_
      rintro e w3 ⟨rfl, hf3⟩
      have HE := Lib.hid hf3
      clear cs hf3
      go_wp2_with fail
      exact hR.out _ _ ⟨rfl, x, ⟨HX.out.ov, HX.out.mv, HX.out.mv2⟩, HE.out⟩
    | false =>
      rw [hb] at cb hR
      have cs := HS.out w1 F1.out
      clear hb HMS
      go_wp2_with fail
      refine ci.mono ?_
      rintro e _ ⟨rfl, rfl⟩
      clear ci
      go_wp2_with fail
      refine cb.mono ?_
      rintro e _ ⟨rfl, rfl⟩
      clear cb
      go_wp2_with fail
      refine cs.mono ?_
      rintro e w3 ⟨rfl, hf3⟩
      have HE := Lib.hid hf3
      clear cs hf3
      go_wp2_with fail
      exact hR.out _ _ ⟨rfl, x, ⟨HX.out.ov, HX.out.mv, HX.out.mv2⟩, HE.out⟩
theorem cstore_any (w : World) (hf : Fam w0 w (C5 b c x ++ l)) (hx : x.ok c) (h : c.Okc) (y s v : Int) (hy : wfI y) (hv : wfI v) : Calls Tryz.prog 52 #[.pointer (some ⟨b, 0, none⟩), .int .i64 y, .int .i64 s, .int .i64 v] w (EDid w0 l b (c.store y s v)) := by
  cases hh : c.hid y with
  | true =>
    refine calls_abs fun R hR => ?_
    obtain ⟨_, _, x2, _⟩ := CRow.cells hf
    have cn := cnone_rep w x2
    have ch := chidden_rep w hf h y hy
    rw [hh] at ch
    have HST : Hid (c.store y s v = (3, c)) := by show _ = _; unfold Co.store; rw [if_pos (.inl hh)]
    rw [HST.out] at hR
    have HF := Lib.hid hf
    have HX := Lib.hid hx
    clear hf hx h hh HST
    go_enter Tryz.func52, Tryz.ntmps52
    go_wp2_with fail
    refine cn.mono ?_
    rintro e _ ⟨rfl, rfl⟩
    go_wp2_with fail
    refine ch.mono ?_
    rintro e _ ⟨rfl, k, rfl⟩
    have F1 := Lib.hid (HF.out.drewN k)
    clear ch
    go_wp2_with fail
    exact hR.out _ _ ⟨rfl, x, HX.out, F1.out⟩
  | false =>
    by_cases hb : (c.m.M.isRef y s).1 = true ∧ c.hid v = true
    · refine calls_abs fun R hR => ?_
      obtain ⟨_, _, x2, _⟩ := CRow.cells hf
      have cn := cnone_rep w x2
      have ch := chidden_rep w hf h y hy
      rw [hh] at ch
      have HST : Hid (c.store y s v = (3, c)) := by show _ = _; unfold Co.store; rw [if_pos (.inr hb)]
      rw [HST.out] at hR
      have HF := Lib.hid hf
      have HX := Lib.hid hx
      have HC : Hid (∀ wx, Fam w0 wx (C5 b c x ++ l) → Calls Tryz.prog 125 #[.pointer (some ⟨x.hb, 0, none⟩), .int .i64 y, .int .i64 s] wx (Exact wx (.tuple #[.bool true, .int .i64 (c.m.M.isRef y s).2])) ∧ Calls Tryz.prog 121 #[.pointer (some ⟨b, 0, none⟩), .int .i64 v] wx (Same wx (.bool true))) := fun wx hx => by
        obtain ⟨hk1, L1, X1, hp1⟩ := C5.ph hx
        have c1 := isRef_rep wx hp1 hk1 y s hy
        have c2 := chidden_rep wx hx h v hv
        rw [hb.1] at c1
        rw [hb.2] at c2
        exact ⟨c1, c2⟩
      generalize (c.m.M.isRef y s).2 = re at *
      clear hf hx h hh HST hb
      go_enter Tryz.func52, Tryz.ntmps52
      go_wp2_with fail
      refine cn.mono ?_
      rintro e _ ⟨rfl, rfl⟩
      go_wp2_with fail
      refine ch.mono ?_
      rintro e _ ⟨rfl, k, rfl⟩
      have F1 := Lib.hid (HF.out.drewN k)
      generalize w.drewN k = w1 at *
      obtain ⟨_, _, z2, _⟩ := CRow.cells F1.out
      obtain ⟨c1, c2⟩ := HC.out _ F1.out
      clear ch x2
      go_wp2_with fail
      refine c1.mono ?_
      rintro e _ ⟨rfl, rfl⟩
      clear c1
      go_wp2_with fail
      refine c2.mono ?_
      rintro e _ ⟨rfl, k2, rfl⟩
      have F2 := Lib.hid (F1.out.drewN k2)
      clear c2
      go_wp2_with fail
      exact hR.out _ _ ⟨rfl, x, HX.out, F2.out⟩
    · exact cstoreIn_any w hf hx h y s v hy hv hh (fun e => by cases hv2 : c.hid v; rfl; exact absurd ⟨e, hv2⟩ hb)
theorem cheap_any (w : World) (hf : Fam w0 w (C5 b c x ++ l)) : Calls Tryz.prog 55 #[.pointer (some ⟨b, 0, none⟩)] w (fun e w' => ∃ q, e = .returned (.pointer (some ⟨q, 0, none⟩)) ∧ Only [] w w' ∧ Fam w0 w' (C5 b c x ++ (l ++ [PH q c.m.M]))) := by
  refine calls_abs fun R hR => ?_
  obtain ⟨_, _, x2, _⟩ := CRow.cells hf
  have cn := cnone_rep w x2
  have ch := hcp_rep w hf
  clear hf
  go_enter Tryz.func55, Tryz.ntmps55
  go_wp2_with fail
  refine cn.mono ?_
  rintro e _ ⟨rfl, rfl⟩
  go_wp2_with fail
  refine ch.mono ?_
  rintro e w1 ⟨q, rfl, ho, hf1⟩
  have HE := Lib.hid (And.intro ho hf1)
  clear ch ho hf1
  go_wp2_with fail
  exact hR.out _ _ ⟨q, rfl, HE.out⟩
end
end Go.Proofs.YthflghdaejbdkaaGreat
namespace Go.Proofs.YthflghdaejbdkaaGreat
open Go.RowKit Go.Maps
set_option maxHeartbeats 6400000
set_option maxRecDepth 100000
set_option linter.unusedVariables false
section
variable {w0 w : World} {l : List Asn} {b : Nat} {c : Co} {x : CX} {i : Nat}
theorem cnewObject_nil (w : World) (k : Int) (v : Value) : Calls Tryz.prog 45 #[.pointer none, .int .i64 k, v] w (Exact w (.tuple #[.int .i64 0, .int .i64 1])) := by
  refine calls_abs fun R hR => ?_
  have cn := cnone_nil w
  go_enter Tryz.func45, Tryz.ntmps45
  go_wp2_with fail
  refine cn.mono ?_
  rintro e _ ⟨rfl, rfl⟩
  go_wp2_with fail
  exact hR.out _ _ ⟨rfl, rfl⟩
theorem hnewO_rep (w : World) (hf : Fam w0 w (C5 b c x ++ l)) (k : Int) (v : Value) (bl : List Bool) (hv : BArg w v bl) (hl : bl.length ≤ 1000000) : Calls Tryz.prog 82 #[.pointer (some ⟨x.hb, 0, none⟩), .int .i64 k, v] w (fun e w' => e = .returned (.tuple #[.int .i64 (c.m.M.newObject k bl).1, .int .i64 (c.m.M.newObject k bl).2.1]) ∧ Fam w0 w' (C5 b (c.setM (c.m.put (c.m.M.newObject k bl).2.2)) x ++ l)) :=
  hf.pstep 0 rfl (M' := (c.m.M.newObject k bl).2.2) (fun hk => hk.newObject k bl) (fun L X hr hk => newObject_rep w hr hk k v bl hv hl)
theorem hnewA_rep (w : World) (hf : Fam w0 w (C5 b c x ++ l)) (k a n : Int) : Calls Tryz.prog 120 #[.pointer (some ⟨x.hb, 0, none⟩), .int .i64 k, .int .i64 a, .int .i64 n] w (fun e w' => e = .returned (.tuple #[.int .i64 (c.m.M.newArray k a n).1, .int .i64 (c.m.M.newArray k a n).2.1]) ∧ Fam w0 w' (C5 b (c.setM (c.m.put (c.m.M.newArray k a n).2.2)) x ++ l)) :=
  hf.pstep 0 rfl (M' := (c.m.M.newArray k a n).2.2) (fun hk => hk.newArray k a n) (fun L X hr hk => newArray_rep w hr hk k a n)
theorem cnewObject_any (w : World) (hf : Fam w0 w (C5 b c x ++ l)) (hx : x.ok c) (h : c.Ok) (k : Int) (va : Option Addr) (n vc : Nat) (bl : List Bool) (hn : bl.length = n) (hl : n ≤ 1000000) (hv : ∀ wx (c' : Co) (x' : CX), Fam w0 wx (C5 b c' x' ++ l) → BArg wx (.slice va n vc) bl) :
    Calls Tryz.prog 45 #[.pointer (some ⟨b, 0, none⟩), .int .i64 k, .slice va n vc] w (TDid2 w0 l b (c.newObject k bl)) := by
  refine calls_abs fun R hR => ?_
  obtain ⟨_, x1, x2, _⟩ := CRow.cells hf
  have cn := cnone_rep w x2
  unfold Co.newObject at hR
  by_cases hbad : k < 0 ∨ 10 ≤ k ∨ 7 < bl.length
  · rw [if_pos hbad] at hR
    rw [hn] at hbad
    have HE : Hid (TDid2 w0 l b (0, 1, c) (.returned (.tuple #[.int .i64 0, .int .i64 1])) w) := ⟨rfl, x, hx, hf⟩
    clear hf hx h hv hn hl
    by_cases b1 : k < 0
    · clear hbad
      go_enter Tryz.func45, Tryz.ntmps45
      go_wp2_with fail
      refine cn.mono ?_
      rintro e _ ⟨rfl, rfl⟩
      go_wp2_with fail
      exact hR.out _ _ HE.out
    · by_cases b2 : 10 ≤ k
      · clear hbad
        go_enter Tryz.func45, Tryz.ntmps45
        go_wp2_with fail
        refine cn.mono ?_
        rintro e _ ⟨rfl, rfl⟩
        go_wp2_with fail
        exact hR.out _ _ HE.out
      · have b3 : (7 : Int) < n := by omega
        clear hbad
        go_enter Tryz.func45, Tryz.ntmps45
        go_wp2_with fail
        refine cn.mono ?_
        rintro e _ ⟨rfl, rfl⟩
        go_wp2_with fail
        exact hR.out _ _ HE.out
  · rw [if_neg hbad] at hR
    rw [hn] at hbad
    have b1 : ¬ k < 0 := by omega
    have b2 : ¬ 10 ≤ k := by omega
    have b3 : ¬ (7 : Int) < n := by omega
    have cg := cgive_any w hf hx h c.rate ⟨h.k.rt.1, by have := h.k.rt.2; omega⟩
    have HOK := Lib.hid (h.give h.k.rt.1)
    have HV := Lib.hid hv
    have HL := Lib.hid hl
    have HN := Lib.hid hn
    clear hf hx h hbad hv hl hn
    obtain ⟨d, hd⟩ : ∃ d, d = (c.give c.rate).2 := ⟨_, rfl⟩
    rw [← hd] at cg HOK hR
    generalize (c.give c.rate).1 = gn at *
    clear hd
    go_enter Tryz.func45, Tryz.ntmps45
    go_wp2_with fail
    refine cn.mono ?_
    rintro e _ ⟨rfl, rfl⟩
    clear cn
    go_wp2_with fail
    refine cg.mono ?_
    rintro e w1 ⟨rfl, x1', hx1, hf1⟩
    have cb := cbarrier_rep w1 hf1 HOK.out.k
    obtain ⟨_, _, z2, _, z4, _⟩ := CRow.cells hf1
    have hba := HV.out w1 d x1' hf1
    have HX1 := Lib.hid hx1
    unfold Co.newObj at hR
    cases hb : d.bar with
    | true =>
      rw [hb] at cb hR
      have cm := mnewObject_rep w1 (C5.t2 (b := b) (c := d) (x := x1') (l := l)) (hb := x1'.hb) (p := x1'.p) (m := d.m) hf1 (HOK.out.k.mo (bar_iff.1 hb)) k (.slice va n vc) bl hba (by rw [HN.out]; exact HL.out)
      have HR : Hid (∀ w', Fam w0 w' (C5 b { d with m := (d.m.newObject k bl).2.2 } x1' ++ l) → R (.returned (.tuple #[.int .i64 (d.m.newObject k bl).1, .int .i64 (d.m.newObject k bl).2.1])) w') := fun w' h2 => hR.out _ _ ⟨rfl, x1', ⟨HX1.out.ov, HX1.out.mv, HX1.out.mv2⟩, h2⟩
      replace cm : Calls Tryz.prog 118 #[.pointer (some ⟨x1'.p, 0, none⟩), .int .i64 k, .slice va n vc] w1 (fun e w' => e = .returned (.tuple #[.int .i64 (d.m.newObject k bl).1, .int .i64 (d.m.newObject k bl).2.1]) ∧ Fam w0 w' (C5 b { d with m := (d.m.newObject k bl).2.2 } x1' ++ l)) := cm
      clear hR hb hf1 hx1 hba cg
      generalize d.m.newObject k bl = r at *
      obtain ⟨r1, r2, r3⟩ := r
      go_wp2_with fail
      refine cb.mono ?_
      rintro e _ ⟨rfl, rfl⟩
      clear cb
      go_wp2_with fail
      refine cm.mono ?_
      rintro e w2 ⟨rfl, hf2⟩
      have HE := Lib.hid hf2
      clear cm hf2
      go_wp2_with fail
      exact HR.out _ HE.out
    | false =>
      rw [hb] at cb hR
      have cm := hnewO_rep w1 hf1 k (.slice va n vc) bl hba (by rw [HN.out]; exact HL.out)
      have HR : Hid (∀ w', Fam w0 w' (C5 b { d with m := d.m.put (d.m.M.newObject k bl).2.2 } x1' ++ l) → R (.returned (.tuple #[.int .i64 (d.m.M.newObject k bl).1, .int .i64 (d.m.M.newObject k bl).2.1])) w') := fun w' h2 => hR.out _ _ ⟨rfl, x1', ⟨HX1.out.ov, HX1.out.mv, HX1.out.mv2⟩, h2⟩
      replace cm : Calls Tryz.prog 82 #[.pointer (some ⟨x1'.hb, 0, none⟩), .int .i64 k, .slice va n vc] w1 (fun e w' => e = .returned (.tuple #[.int .i64 (d.m.M.newObject k bl).1, .int .i64 (d.m.M.newObject k bl).2.1]) ∧ Fam w0 w' (C5 b { d with m := d.m.put (d.m.M.newObject k bl).2.2 } x1' ++ l)) := cm
      clear hR hb hf1 hx1 hba cg
      generalize d.m.M.newObject k bl = r at *
      obtain ⟨r1, r2, r3⟩ := r
      go_wp2_with fail
      refine cb.mono ?_
      rintro e _ ⟨rfl, rfl⟩
      clear cb
      go_wp2_with fail
      refine cm.mono ?_
      rintro e w2 ⟨rfl, hf2⟩
      have HE := Lib.hid hf2
      clear cm hf2
      go_wp2_with fail
      exact HR.out _ HE.out
end
end Go.Proofs.YthflghdaejbdkaaGreat
