/- Lemmas of this claim. -/
import Derived.Test.YthflghdaejbdkaaKTbPF
import Derived.Test.YthflghdaejbdkaaKTbGB
import Derived.Test.YthflghdaejbdkaaKMkL
import Derived.Deep.RegionLaw
import Derived.Test.YthflghdaejbdkaaKRReach
namespace Go.Proofs.Ythflghdaejbdkaa
open Go.RowKit Go.Maps
set_option maxHeartbeats 6400000
set_option maxRecDepth 100000
set_option linter.unusedVariables false
section
variable {w0 w w' : World} {l : List Asn}
theorem Fam.sel (h : Fam w0 w l) {l' : List Asn} (σ : Nat → Nat) (h1 : ∀ i A, l'[i]? = some A → l[σ i]? = some A) (h2 : ∀ i j, i < l'.length → j < l'.length → i ≠ j → σ i ≠ σ j) : Fam w0 w l' := by
  obtain ⟨h0, S, a, b, c⟩ := h
  have hlt : ∀ i, i < l'.length → σ i < l.length := fun i hi => (List.getElem?_eq_some_iff.1 (h1 i _ (List.getElem?_eq_getElem hi))).1
  exact ⟨h0, fun i => S (σ i), fun i A hi => a _ A (h1 i A hi), fun i j hi hj hij => b _ _ (hlt i hi) (hlt j hj) (h2 i j hi hj hij), fun i hi => c _ (hlt i hi)⟩
theorem Fam.setRow (h : Fam w0 w l) (i : Nat) {b T : Nat} {cs : List Value} (hi : l[i]? = some (RowA b T cs)) (j : Nat) (v : Value) : Fam w0 (w.setCell ⟨b, j, none⟩ v) (l.set i (RowA b T (cs.set j v))) :=
  h.turn i hi fun S hS => ⟨S, ⟨hS.1.set j v, hS.2⟩, fun k hk => .inl hk, (OnlyP.refl _ _).set (.inl ((hS.2 b).2 rfl)) _⟩
end
def BR (bo hb q p r tb ub : Nat) : Asn := RowA bo 38 [.pointer (some ⟨hb, 0, none⟩), .pointer (some ⟨q, 0, none⟩), .pointer (some ⟨p, 0, none⟩), .pointer (some ⟨r, 0, none⟩), .pointer (some ⟨tb, 0, none⟩), .pointer (some ⟨ub, 0, none⟩)]
def G7 (bo hb q p r tb ub : Nat) (m1 m2 : Mk) (t1 t2 : Tb) (tl : List Asn) : List Asn :=
  PH hb m1.M :: GH q m2.M :: MkA p hb m1.col m1.list :: GkA r q m2.col m2.list :: TbA tb t1 t1.ents.length :: TrA ub t2 :: BR bo hb q p r tb ub :: tl
section
variable {bo hb q p r tb ub : Nat} {m m1 m2 m3 : Mk} {t t1 t2 t3 : Tb} {tl : List Asn} {w0 w : World}
theorem G7.tp : Three (G7 bo hb q p r tb ub m1 m2 t1 t2 tl) 0 2 4 := ⟨⟨by simp [G7], by simp [G7], by decide⟩, by simp [G7], by decide, by decide⟩
theorem G7.TP (bo hb q p r tb ub : Nat) (m1 m2 : Mk) (t1 t2 : Tb) (tl : List Asn) : Three (G7 bo hb q p r tb ub m1 m2 t1 t2 tl) 0 2 4 := G7.tp
theorem G7.row (h : Fam w0 w (G7 bo hb q p r tb ub m1 m2 t1 t2 tl)) : Row w bo 38 [.pointer (some ⟨hb, 0, none⟩), .pointer (some ⟨q, 0, none⟩), .pointer (some ⟨p, 0, none⟩), .pointer (some ⟨r, 0, none⟩), .pointer (some ⟨tb, 0, none⟩), .pointer (some ⟨ub, 0, none⟩)] := h.row 6 rfl
end
theorem ML.last {l : List Asn} {i hb p : Nat} {m : Mk} (hi : l[i]? = some (PH hb m.M)) : ML (l ++ [MkA p hb (fun _ => 0) []]) i l.length hb p m = l ++ [MkA p hb m.col m.list] := by
  have hil : i < l.length := (List.getElem?_eq_some_iff.1 hi).1
  unfold ML
  rw [List.set_append_left _ _ hil, set_get hi, List.set_append_right _ _ (by omega), Nat.sub_self]
  rfl
theorem RL.last {l : List Asn} {i q r : Nat} {m : Mk} (hi : l[i]? = some (GH q m.M)) : RL (l ++ [GkA r q (fun _ => 0) []]) i l.length q r m = l ++ [GkA r q m.col m.list] := by
  have hil : i < l.length := (List.getElem?_eq_some_iff.1 hi).1
  unfold RL
  rw [List.set_append_left _ _ hil, set_get hi, List.set_append_right _ _ (by omega), Nat.sub_self]
  rfl
open Classical in
noncomputable def Hp.rts (M : Hp) (l : List Int) : List Int := if M.badRoot (l.take 20) then [] else l.take 20
noncomputable def Mk.new (M : Hp) (l : List Int) : Mk := (Mk.start M).shades (M.rts l)
theorem Mk.new_M (M : Hp) (l : List Int) : (Mk.new M l).M = M := Mk.shades_M _ _
theorem Mk.new_ok {M : Hp} (h : M.OkF) (l : List Int) : (Mk.new M l).Ok := Mk.Ok.shades _ _ (Mk.Ok.start h)
def markedL (l : List Asn) (kb bo hb q p r tb ub : Nat) (m : Mk) : List Asn := (l.set kb (BR bo hb q p r tb ub)) ++ [MkA p hb m.col m.list] ++ [GkA r q m.col m.list]
theorem read_take {w : World} {a : Option Addr} {n c k : Nat} {l : List Int} (h : Read w (.slice a n c) l) (hk : k ≤ n) : Read w (.slice a k c) (l.take k) := by
  rcases h with ⟨b, o, c2, e, hc⟩ | ⟨oa, c2, e, h0⟩
  · simp only [Value.slice.injEq] at e
    obtain ⟨rfl, rfl, rfl⟩ := e
    have hl : (l.take k).length = k := by rw [List.length_take]; omega
    refine .inl ⟨b, o, c, by rw [hl], fun i hi => ?_⟩
    rw [hl] at hi
    rw [hc i (by omega)]
    unfold gI
    rw [List.getElem?_take_of_lt hi]
  · simp only [Value.slice.injEq] at e
    obtain ⟨rfl, rfl, rfl⟩ := e
    have : k = 0 := by omega
    subst this
    exact .inr ⟨a, c, rfl, by simp⟩
theorem lmark_lists {l : List Asn} {i2 kb hb q bo tb ub p r : Nat} {M : Hp} {m : Mk} {x y : Value} (hi2 : l[i2]? = some (GH q M)) (hkb : l[kb]? = some (RowA bo 38 [.pointer (some ⟨hb, 0, none⟩), .pointer (some ⟨q, 0, none⟩), x, y, .pointer (some ⟨tb, 0, none⟩), .pointer (some ⟨ub, 0, none⟩)])) (n2 : i2 ≠ kb) :
    (l ++ [MkA p hb m.col m.list])[kb]? = some (RowA bo 38 [.pointer (some ⟨hb, 0, none⟩), .pointer (some ⟨q, 0, none⟩), x, y, .pointer (some ⟨tb, 0, none⟩), .pointer (some ⟨ub, 0, none⟩)]) ∧ ((l ++ [MkA p hb m.col m.list]).set kb (RowA bo 38 [.pointer (some ⟨hb, 0, none⟩), .pointer (some ⟨q, 0, none⟩), (.pointer (some ⟨p, 0, none⟩)), y, .pointer (some ⟨tb, 0, none⟩), .pointer (some ⟨ub, 0, none⟩)]))[i2]? = some (GH q M) ∧
    (((l ++ [MkA p hb m.col m.list]).set kb (RowA bo 38 [.pointer (some ⟨hb, 0, none⟩), .pointer (some ⟨q, 0, none⟩), (.pointer (some ⟨p, 0, none⟩)), y, .pointer (some ⟨tb, 0, none⟩), .pointer (some ⟨ub, 0, none⟩)])) ++ [GkA r q m.col m.list])[kb]? = some (RowA bo 38 [.pointer (some ⟨hb, 0, none⟩), .pointer (some ⟨q, 0, none⟩), (.pointer (some ⟨p, 0, none⟩)), y, .pointer (some ⟨tb, 0, none⟩), .pointer (some ⟨ub, 0, none⟩)]) ∧
    ((((l ++ [MkA p hb m.col m.list]).set kb (RowA bo 38 [.pointer (some ⟨hb, 0, none⟩), .pointer (some ⟨q, 0, none⟩), (.pointer (some ⟨p, 0, none⟩)), y, .pointer (some ⟨tb, 0, none⟩), .pointer (some ⟨ub, 0, none⟩)])) ++ [GkA r q m.col m.list]).set kb (BR bo hb q p r tb ub)) = markedL l kb bo hb q p r tb ub m := by
  have h2 : i2 < l.length := (List.getElem?_eq_some_iff.1 hi2).1
  have hk : kb < l.length := (List.getElem?_eq_some_iff.1 hkb).1
  refine ⟨?_, ?_, ?_, ?_⟩
  · rw [List.getElem?_append_left hk]; exact hkb
  · rw [List.getElem?_set_ne (Ne.symm n2), List.getElem?_append_left h2]; exact hi2
  · rw [List.getElem?_append_left (by simp; omega), List.getElem?_set_self (by simp; omega)]
  · unfold markedL
    rw [List.set_append_left _ _ (by simp; omega), List.set_set, List.set_append_left _ _ hk]
theorem lmark_any (w : World) {w0 : World} {l : List Asn} {i i2 kb hb q bo tb ub : Nat} {M : Hp} {x y : Value} (hf : Fam w0 w l) (hi : l[i]? = some (PH hb M)) (hi2 : l[i2]? = some (GH q M)) (hkb : l[kb]? = some (RowA bo 38 [.pointer (some ⟨hb, 0, none⟩), .pointer (some ⟨q, 0, none⟩), x, y, .pointer (some ⟨tb, 0, none⟩), .pointer (some ⟨ub, 0, none⟩)])) (n1 : i ≠ kb) (n2 : i2 ≠ kb) (n3 : i ≠ i2)
    (a : Option Addr) (n c : Nat) (roots : List Int) (hl : roots.length = n) (hc : n ≤ c) (hw : ∀ z ∈ roots, wfI z) (hr : ∀ w' l', Fam w0 w' l' → (∀ j A, l[j]? = some A → j ≠ kb → j ≠ i → j ≠ i2 → l'[j]? = some A) → Read w' (.slice a n c) roots) :
    Calls Try.prog 24 #[.pointer (some ⟨bo, 0, none⟩), .slice a n c] w (fun e w' => e = .returned (.bool true) ∧ ∃ p r, Fam w0 w' (markedL l kb bo hb q p r tb ub (Mk.new M roots))) := by
  refine calls_abs fun R hR => ?_
  have hbo := hf.row kb hkb
  have hil : i < l.length := (List.getElem?_eq_some_iff.1 hi).1
  have hil2 : i2 < l.length := (List.getElem?_eq_some_iff.1 hi2).1
  have HF := Lib.hid hf
  have HI := Lib.hid hi
  have HI2 := Lib.hid hi2
  have HKB := Lib.hid hkb
  have HN1 := Lib.hid n1
  have HN2 := Lib.hid n2
  have HN3 := Lib.hid n3
  have HKF := Lib.hid (hf.phF i hi)
  obtain ⟨hk, L, X, hp⟩ := hf.gh i2 hi2
  have z1 := hbo.cell 1 rfl
  have HWF : Hid (∀ k, ∀ z ∈ roots.take k, wfI z) := fun k z hz => hw z (List.mem_of_mem_take hz)
  have HRR : Hid (∀ k, k ≤ n → ∀ w' l', Fam w0 w' l' → (∀ j A, l[j]? = some A → j ≠ kb → j ≠ i → j ≠ i2 → l'[j]? = some A) → Read w' (.slice a k c) (roots.take k)) := fun k hk w' l' h1 h2 => read_take (hr w' l' h1 h2) hk
  have HC1 : Hid (∀ k, k ≤ n → k ≤ 20 → Calls Try.prog 5 #[.pointer (some ⟨q, 0, none⟩), .slice a k c] w (TwoL w (M.reach (roots.take k)))) := fun k hk1 hk2 => greach_rep w hp hk a k c (roots.take k) (by rw [List.length_take]; omega) (HRR.out k hk1 w l hf (fun j A h _ _ _ => h)) (by omega)
  have HLN : Hid (∀ k, k ≤ n → (roots.take k).length = k) := fun k hk => by rw [List.length_take]; omega
  have HFULL : Hid (n ≤ 20 → roots.take 20 = roots.take n) := fun h => by rw [List.take_of_length_le (by omega), List.take_of_length_le (by omega)]
  clear hf hi hi2 hkb n1 n2 n3 hk hp hw hr hl hbo
  by_cases h20 : 20 < n
  · have h201 : (20 : Int) < (n : Int) := by omega
    have h202 : (20 : Int) ≤ (c : Int) := by omega
    have cr := HC1.out 20 (by omega) (by omega)
    unfold Hp.reach at cr
    by_cases hbad : M.badRoot (roots.take 20)
    · as_aux_lemma =>
      rw [if_pos hbad] at cr
      have HNB : Hid (¬ M.badRoot []) := fun ⟨x, hx, _⟩ => by simp at hx
      have HRTS : Hid (M.rts roots = []) := by show _ = _; unfold Hp.rts; rw [if_pos hbad]
      clear hbad
      go_enter Try.func24, Try.ntmps24
      go_wp2_with fail
      refine cr.mono ?_
      rintro e w1 ⟨lv, rfl, _, ho⟩
      have HF1 := Lib.hid (HF.out.only0 ho)
      have z0 := (HF1.out.row kb HKB.out).cell 0 rfl
      clear cr ho z1
      have HRD : Hid (∀ w' l', Fam w0 w' l' → (∀ j A, l[j]? = some A → j ≠ kb → j ≠ i → j ≠ i2 → l'[j]? = some A) → Read w' (.slice none 0 0) ([])) := fun _ _ _ _ => .inr ⟨none, 0, rfl, rfl⟩
      have c4 := mbegin_rep w1 HF1.out HI.out none 0 0 ([]) rfl (by omega) (fun z hz => by simp at hz) (HRD.out _ _ HF1.out (fun j A h _ _ _ => h)) (fun p w' m' h7 => HRD.out _ _ h7 (fun j A h hj1 hj2 hj3 => by
        have hjl : j < l.length := (List.getElem?_eq_some_iff.1 h).1
        unfold ML
        rw [List.getElem?_set_ne (by omega), List.getElem?_set_ne (Ne.symm hj2), List.getElem?_append_left hjl]; exact h))
      go_wp2_with fail
      refine c4.mono ?_
      rintro e w2 (⟨hbad, _, _⟩ | ⟨_, p, rfl, f2⟩)
      · exact absurd hbad HNB.out
      have hm2 : Fam w0 w2 (l ++ [MkA p hb (Mk.new M roots).col (Mk.new M roots).list]) := by
        have e1 : Mk.new M roots = (Mk.start M).shades ([]) := by unfold Mk.new; rw [HRTS.out]
        rw [e1, ← ML.last (m := (Mk.start M).shades ([])) (by rw [Mk.shades_M]; exact HI.out)]
        exact f2
      obtain ⟨q1, q2, q3, q4⟩ := lmark_lists (p := p) (r := 0) (m := Mk.new M roots) HI2.out HKB.out HN2.out
      have hrow2 := hm2.row kb q1
      have y2 := hrow2.cell 2 rfl
      have yf2 := hrow2.free 2
      have hm3 := hm2.setRow kb q1 2 (.pointer (some ⟨p, 0, none⟩))
      have HF3 : Hid (Fam w0 (w2.setCell ⟨bo, 2, none⟩ (.pointer (some ⟨p, 0, none⟩))) ((l ++ [MkA p hb (Mk.new M roots).col (Mk.new M roots).list]).set kb (RowA bo 38 [.pointer (some ⟨hb, 0, none⟩), .pointer (some ⟨q, 0, none⟩), (.pointer (some ⟨p, 0, none⟩)), y, .pointer (some ⟨tb, 0, none⟩), .pointer (some ⟨ub, 0, none⟩)]))) := hm3
      have hrow3 := HF3.out.row kb (by rw [List.getElem?_set_self (List.getElem?_eq_some_iff.1 q1).1])
      have x1 := hrow3.cell 1 rfl
      have c5 := gbegin_rep _ HF3.out q2 none 0 0 ([]) rfl (by omega) (HRD.out _ _ HF3.out (fun j A h hj1 _ _ => by rw [List.getElem?_set_ne (Ne.symm hj1), List.getElem?_append_left (List.getElem?_eq_some_iff.1 h).1]; exact h)) (fun r w' m' h7 => HRD.out _ _ h7 (fun j A h hj1 hj2 hj3 => by
        have hjl : j < l.length := (List.getElem?_eq_some_iff.1 h).1
        unfold RL
        rw [List.getElem?_set_ne (by simp; omega), List.getElem?_set_ne (Ne.symm hj3), List.getElem?_append_left (by simp; omega), List.getElem?_set_ne (Ne.symm hj1), List.getElem?_append_left hjl]; exact h)) HKF.out
      have HQ2 := Lib.hid q2
      clear c4 f2 hm2 hrow2 hm3 hrow3 q1 q2 q3 q4
      go_wp2_with fail
      refine c5.mono ?_
      rintro e w4 (⟨hbad, _, _⟩ | ⟨_, r, rfl, f4⟩)
      · exact absurd hbad HNB.out
      have hm4 : Fam w0 w4 (((l ++ [MkA p hb (Mk.new M roots).col (Mk.new M roots).list]).set kb (RowA bo 38 [.pointer (some ⟨hb, 0, none⟩), .pointer (some ⟨q, 0, none⟩), (.pointer (some ⟨p, 0, none⟩)), y, .pointer (some ⟨tb, 0, none⟩), .pointer (some ⟨ub, 0, none⟩)])) ++ [GkA r q (Mk.new M roots).col (Mk.new M roots).list]) := by
        have e1 : Mk.new M roots = (Mk.start M).shades ([]) := by unfold Mk.new; rw [HRTS.out]
        rw [e1] at f4 HQ2 ⊢
        rw [← RL.last (m := (Mk.start M).shades ([])) (by rw [Mk.shades_M]; exact HQ2.out)]
        exact f4
      obtain ⟨q1, q2, q3, q4⟩ := lmark_lists (p := p) (r := r) (m := Mk.new M roots) HI2.out HKB.out HN2.out
      have hrow4 := hm4.row kb q3
      have y3 := hrow4.cell 3 rfl
      have yf3 := hrow4.free 3
      have hm5 := hm4.setRow kb q3 3 (.pointer (some ⟨r, 0, none⟩))
      have HF5 : Hid (Fam w0 (w4.setCell ⟨bo, 3, none⟩ (.pointer (some ⟨r, 0, none⟩))) (markedL l kb bo hb q p r tb ub (Mk.new M roots))) := by show Fam _ _ _; rw [← q4]; exact hm5
      have hrow5 := hm5.row kb (by rw [List.getElem?_set_self (List.getElem?_eq_some_iff.1 q3).1])
      have x2 := hrow5.cell 2 rfl
      clear c5 f4 hm4 hrow4 hm5 hrow5 q1 q2 q3 q4 HQ2 HF3
      go_wp2_with fail
      exact hR.out _ _ ⟨rfl, p, r, HF5.out⟩
    · as_aux_lemma =>
      rw [if_neg hbad] at cr
      have HNB : Hid (¬ M.badRoot (roots.take 20)) := hbad
      have HRTS : Hid (M.rts roots = roots.take 20) := by show _ = _; unfold Hp.rts; rw [if_neg hbad]
      clear hbad
      go_enter Try.func24, Try.ntmps24
      go_wp2_with fail
      refine cr.mono ?_
      rintro e w1 ⟨lv, rfl, _, ho⟩
      have HF1 := Lib.hid (HF.out.only0 ho)
      have z0 := (HF1.out.row kb HKB.out).cell 0 rfl
      clear cr ho z1
      have HRD : Hid (∀ w' l', Fam w0 w' l' → (∀ j A, l[j]? = some A → j ≠ kb → j ≠ i → j ≠ i2 → l'[j]? = some A) → Read w' (.slice a 20 c) (roots.take 20)) := HRR.out 20 (by omega)
      have c4 := mbegin_rep w1 HF1.out HI.out a 20 c (roots.take 20) (HLN.out 20 (by omega)) (by omega) (HWF.out 20) (HRD.out _ _ HF1.out (fun j A h _ _ _ => h)) (fun p w' m' h7 => HRD.out _ _ h7 (fun j A h hj1 hj2 hj3 => by
        have hjl : j < l.length := (List.getElem?_eq_some_iff.1 h).1
        unfold ML
        rw [List.getElem?_set_ne (by omega), List.getElem?_set_ne (Ne.symm hj2), List.getElem?_append_left hjl]; exact h))
      go_wp2_with fail
      refine c4.mono ?_
      rintro e w2 (⟨hbad, _, _⟩ | ⟨_, p, rfl, f2⟩)
      · exact absurd hbad HNB.out
      have hm2 : Fam w0 w2 (l ++ [MkA p hb (Mk.new M roots).col (Mk.new M roots).list]) := by
        have e1 : Mk.new M roots = (Mk.start M).shades (roots.take 20) := by unfold Mk.new; rw [HRTS.out]
        rw [e1, ← ML.last (m := (Mk.start M).shades (roots.take 20)) (by rw [Mk.shades_M]; exact HI.out)]
        exact f2
      obtain ⟨q1, q2, q3, q4⟩ := lmark_lists (p := p) (r := 0) (m := Mk.new M roots) HI2.out HKB.out HN2.out
      have hrow2 := hm2.row kb q1
      have y2 := hrow2.cell 2 rfl
      have yf2 := hrow2.free 2
      have hm3 := hm2.setRow kb q1 2 (.pointer (some ⟨p, 0, none⟩))
      have HF3 : Hid (Fam w0 (w2.setCell ⟨bo, 2, none⟩ (.pointer (some ⟨p, 0, none⟩))) ((l ++ [MkA p hb (Mk.new M roots).col (Mk.new M roots).list]).set kb (RowA bo 38 [.pointer (some ⟨hb, 0, none⟩), .pointer (some ⟨q, 0, none⟩), (.pointer (some ⟨p, 0, none⟩)), y, .pointer (some ⟨tb, 0, none⟩), .pointer (some ⟨ub, 0, none⟩)]))) := hm3
      have hrow3 := HF3.out.row kb (by rw [List.getElem?_set_self (List.getElem?_eq_some_iff.1 q1).1])
      have x1 := hrow3.cell 1 rfl
      have c5 := gbegin_rep _ HF3.out q2 a 20 c (roots.take 20) (HLN.out 20 (by omega)) (by omega) (HRD.out _ _ HF3.out (fun j A h hj1 _ _ => by rw [List.getElem?_set_ne (Ne.symm hj1), List.getElem?_append_left (List.getElem?_eq_some_iff.1 h).1]; exact h)) (fun r w' m' h7 => HRD.out _ _ h7 (fun j A h hj1 hj2 hj3 => by
        have hjl : j < l.length := (List.getElem?_eq_some_iff.1 h).1
        unfold RL
        rw [List.getElem?_set_ne (by simp; omega), List.getElem?_set_ne (Ne.symm hj3), List.getElem?_append_left (by simp; omega), List.getElem?_set_ne (Ne.symm hj1), List.getElem?_append_left hjl]; exact h)) HKF.out
      have HQ2 := Lib.hid q2
      clear c4 f2 hm2 hrow2 hm3 hrow3 q1 q2 q3 q4
      go_wp2_with fail
      refine c5.mono ?_
      rintro e w4 (⟨hbad, _, _⟩ | ⟨_, r, rfl, f4⟩)
      · exact absurd hbad HNB.out
      have hm4 : Fam w0 w4 (((l ++ [MkA p hb (Mk.new M roots).col (Mk.new M roots).list]).set kb (RowA bo 38 [.pointer (some ⟨hb, 0, none⟩), .pointer (some ⟨q, 0, none⟩), (.pointer (some ⟨p, 0, none⟩)), y, .pointer (some ⟨tb, 0, none⟩), .pointer (some ⟨ub, 0, none⟩)])) ++ [GkA r q (Mk.new M roots).col (Mk.new M roots).list]) := by
        have e1 : Mk.new M roots = (Mk.start M).shades (roots.take 20) := by unfold Mk.new; rw [HRTS.out]
        rw [e1] at f4 HQ2 ⊢
        rw [← RL.last (m := (Mk.start M).shades (roots.take 20)) (by rw [Mk.shades_M]; exact HQ2.out)]
        exact f4
      obtain ⟨q1, q2, q3, q4⟩ := lmark_lists (p := p) (r := r) (m := Mk.new M roots) HI2.out HKB.out HN2.out
      have hrow4 := hm4.row kb q3
      have y3 := hrow4.cell 3 rfl
      have yf3 := hrow4.free 3
      have hm5 := hm4.setRow kb q3 3 (.pointer (some ⟨r, 0, none⟩))
      have HF5 : Hid (Fam w0 (w4.setCell ⟨bo, 3, none⟩ (.pointer (some ⟨r, 0, none⟩))) (markedL l kb bo hb q p r tb ub (Mk.new M roots))) := by show Fam _ _ _; rw [← q4]; exact hm5
      have hrow5 := hm5.row kb (by rw [List.getElem?_set_self (List.getElem?_eq_some_iff.1 q3).1])
      have x2 := hrow5.cell 2 rfl
      clear c5 f4 hm4 hrow4 hm5 hrow5 q1 q2 q3 q4 HQ2 HF3
      go_wp2_with fail
      exact hR.out _ _ ⟨rfl, p, r, HF5.out⟩
  · have h201 : ¬ (20 : Int) < (n : Int) := by omega
    have hfull := HFULL.out (by omega)
    have HFL := Lib.hid hfull
    clear hfull
    have cr := HC1.out n (by omega) (by omega)
    unfold Hp.reach at cr
    by_cases hbad : M.badRoot (roots.take n)
    · as_aux_lemma =>
      rw [if_pos hbad] at cr
      have HNB : Hid (¬ M.badRoot []) := fun ⟨x, hx, _⟩ => by simp at hx
      have HRTS : Hid (M.rts roots = []) := by show _ = _; unfold Hp.rts; rw [HFL.out, if_pos hbad]
      clear hbad
      go_enter Try.func24, Try.ntmps24
      go_wp2_with fail
      refine cr.mono ?_
      rintro e w1 ⟨lv, rfl, _, ho⟩
      have HF1 := Lib.hid (HF.out.only0 ho)
      have z0 := (HF1.out.row kb HKB.out).cell 0 rfl
      clear cr ho z1
      have HRD : Hid (∀ w' l', Fam w0 w' l' → (∀ j A, l[j]? = some A → j ≠ kb → j ≠ i → j ≠ i2 → l'[j]? = some A) → Read w' (.slice none 0 0) ([])) := fun _ _ _ _ => .inr ⟨none, 0, rfl, rfl⟩
      have c4 := mbegin_rep w1 HF1.out HI.out none 0 0 ([]) rfl (by omega) (fun z hz => by simp at hz) (HRD.out _ _ HF1.out (fun j A h _ _ _ => h)) (fun p w' m' h7 => HRD.out _ _ h7 (fun j A h hj1 hj2 hj3 => by
        have hjl : j < l.length := (List.getElem?_eq_some_iff.1 h).1
        unfold ML
        rw [List.getElem?_set_ne (by omega), List.getElem?_set_ne (Ne.symm hj2), List.getElem?_append_left hjl]; exact h))
      go_wp2_with fail
      refine c4.mono ?_
      rintro e w2 (⟨hbad, _, _⟩ | ⟨_, p, rfl, f2⟩)
      · exact absurd hbad HNB.out
      have hm2 : Fam w0 w2 (l ++ [MkA p hb (Mk.new M roots).col (Mk.new M roots).list]) := by
        have e1 : Mk.new M roots = (Mk.start M).shades ([]) := by unfold Mk.new; rw [HRTS.out]
        rw [e1, ← ML.last (m := (Mk.start M).shades ([])) (by rw [Mk.shades_M]; exact HI.out)]
        exact f2
      obtain ⟨q1, q2, q3, q4⟩ := lmark_lists (p := p) (r := 0) (m := Mk.new M roots) HI2.out HKB.out HN2.out
      have hrow2 := hm2.row kb q1
      have y2 := hrow2.cell 2 rfl
      have yf2 := hrow2.free 2
      have hm3 := hm2.setRow kb q1 2 (.pointer (some ⟨p, 0, none⟩))
      have HF3 : Hid (Fam w0 (w2.setCell ⟨bo, 2, none⟩ (.pointer (some ⟨p, 0, none⟩))) ((l ++ [MkA p hb (Mk.new M roots).col (Mk.new M roots).list]).set kb (RowA bo 38 [.pointer (some ⟨hb, 0, none⟩), .pointer (some ⟨q, 0, none⟩), (.pointer (some ⟨p, 0, none⟩)), y, .pointer (some ⟨tb, 0, none⟩), .pointer (some ⟨ub, 0, none⟩)]))) := hm3
      have hrow3 := HF3.out.row kb (by rw [List.getElem?_set_self (List.getElem?_eq_some_iff.1 q1).1])
      have x1 := hrow3.cell 1 rfl
      have c5 := gbegin_rep _ HF3.out q2 none 0 0 ([]) rfl (by omega) (HRD.out _ _ HF3.out (fun j A h hj1 _ _ => by rw [List.getElem?_set_ne (Ne.symm hj1), List.getElem?_append_left (List.getElem?_eq_some_iff.1 h).1]; exact h)) (fun r w' m' h7 => HRD.out _ _ h7 (fun j A h hj1 hj2 hj3 => by
        have hjl : j < l.length := (List.getElem?_eq_some_iff.1 h).1
        unfold RL
        rw [List.getElem?_set_ne (by simp; omega), List.getElem?_set_ne (Ne.symm hj3), List.getElem?_append_left (by simp; omega), List.getElem?_set_ne (Ne.symm hj1), List.getElem?_append_left hjl]; exact h)) HKF.out
      have HQ2 := Lib.hid q2
      clear c4 f2 hm2 hrow2 hm3 hrow3 q1 q2 q3 q4
      go_wp2_with fail
      refine c5.mono ?_
      rintro e w4 (⟨hbad, _, _⟩ | ⟨_, r, rfl, f4⟩)
      · exact absurd hbad HNB.out
      have hm4 : Fam w0 w4 (((l ++ [MkA p hb (Mk.new M roots).col (Mk.new M roots).list]).set kb (RowA bo 38 [.pointer (some ⟨hb, 0, none⟩), .pointer (some ⟨q, 0, none⟩), (.pointer (some ⟨p, 0, none⟩)), y, .pointer (some ⟨tb, 0, none⟩), .pointer (some ⟨ub, 0, none⟩)])) ++ [GkA r q (Mk.new M roots).col (Mk.new M roots).list]) := by
        have e1 : Mk.new M roots = (Mk.start M).shades ([]) := by unfold Mk.new; rw [HRTS.out]
        rw [e1] at f4 HQ2 ⊢
        rw [← RL.last (m := (Mk.start M).shades ([])) (by rw [Mk.shades_M]; exact HQ2.out)]
        exact f4
      obtain ⟨q1, q2, q3, q4⟩ := lmark_lists (p := p) (r := r) (m := Mk.new M roots) HI2.out HKB.out HN2.out
      have hrow4 := hm4.row kb q3
      have y3 := hrow4.cell 3 rfl
      have yf3 := hrow4.free 3
      have hm5 := hm4.setRow kb q3 3 (.pointer (some ⟨r, 0, none⟩))
      have HF5 : Hid (Fam w0 (w4.setCell ⟨bo, 3, none⟩ (.pointer (some ⟨r, 0, none⟩))) (markedL l kb bo hb q p r tb ub (Mk.new M roots))) := by show Fam _ _ _; rw [← q4]; exact hm5
      have hrow5 := hm5.row kb (by rw [List.getElem?_set_self (List.getElem?_eq_some_iff.1 q3).1])
      have x2 := hrow5.cell 2 rfl
      clear c5 f4 hm4 hrow4 hm5 hrow5 q1 q2 q3 q4 HQ2 HF3
      go_wp2_with fail
      exact hR.out _ _ ⟨rfl, p, r, HF5.out⟩
    · as_aux_lemma =>
      rw [if_neg hbad] at cr
      have HNB : Hid (¬ M.badRoot (roots.take n)) := hbad
      have HRTS : Hid (M.rts roots = roots.take n) := by show _ = _; unfold Hp.rts; rw [HFL.out, if_neg hbad]
      clear hbad
      go_enter Try.func24, Try.ntmps24
      go_wp2_with fail
      refine cr.mono ?_
      rintro e w1 ⟨lv, rfl, _, ho⟩
      have HF1 := Lib.hid (HF.out.only0 ho)
      have z0 := (HF1.out.row kb HKB.out).cell 0 rfl
      clear cr ho z1
      have HRD : Hid (∀ w' l', Fam w0 w' l' → (∀ j A, l[j]? = some A → j ≠ kb → j ≠ i → j ≠ i2 → l'[j]? = some A) → Read w' (.slice a n c) (roots.take n)) := HRR.out n (by omega)
      have c4 := mbegin_rep w1 HF1.out HI.out a n c (roots.take n) (HLN.out n (by omega)) (by omega) (HWF.out n) (HRD.out _ _ HF1.out (fun j A h _ _ _ => h)) (fun p w' m' h7 => HRD.out _ _ h7 (fun j A h hj1 hj2 hj3 => by
        have hjl : j < l.length := (List.getElem?_eq_some_iff.1 h).1
        unfold ML
        rw [List.getElem?_set_ne (by omega), List.getElem?_set_ne (Ne.symm hj2), List.getElem?_append_left hjl]; exact h))
      go_wp2_with fail
      refine c4.mono ?_
      rintro e w2 (⟨hbad, _, _⟩ | ⟨_, p, rfl, f2⟩)
      · exact absurd hbad HNB.out
      have hm2 : Fam w0 w2 (l ++ [MkA p hb (Mk.new M roots).col (Mk.new M roots).list]) := by
        have e1 : Mk.new M roots = (Mk.start M).shades (roots.take n) := by unfold Mk.new; rw [HRTS.out]
        rw [e1, ← ML.last (m := (Mk.start M).shades (roots.take n)) (by rw [Mk.shades_M]; exact HI.out)]
        exact f2
      obtain ⟨q1, q2, q3, q4⟩ := lmark_lists (p := p) (r := 0) (m := Mk.new M roots) HI2.out HKB.out HN2.out
      have hrow2 := hm2.row kb q1
      have y2 := hrow2.cell 2 rfl
      have yf2 := hrow2.free 2
      have hm3 := hm2.setRow kb q1 2 (.pointer (some ⟨p, 0, none⟩))
      have HF3 : Hid (Fam w0 (w2.setCell ⟨bo, 2, none⟩ (.pointer (some ⟨p, 0, none⟩))) ((l ++ [MkA p hb (Mk.new M roots).col (Mk.new M roots).list]).set kb (RowA bo 38 [.pointer (some ⟨hb, 0, none⟩), .pointer (some ⟨q, 0, none⟩), (.pointer (some ⟨p, 0, none⟩)), y, .pointer (some ⟨tb, 0, none⟩), .pointer (some ⟨ub, 0, none⟩)]))) := hm3
      have hrow3 := HF3.out.row kb (by rw [List.getElem?_set_self (List.getElem?_eq_some_iff.1 q1).1])
      have x1 := hrow3.cell 1 rfl
      have c5 := gbegin_rep _ HF3.out q2 a n c (roots.take n) (HLN.out n (by omega)) (by omega) (HRD.out _ _ HF3.out (fun j A h hj1 _ _ => by rw [List.getElem?_set_ne (Ne.symm hj1), List.getElem?_append_left (List.getElem?_eq_some_iff.1 h).1]; exact h)) (fun r w' m' h7 => HRD.out _ _ h7 (fun j A h hj1 hj2 hj3 => by
        have hjl : j < l.length := (List.getElem?_eq_some_iff.1 h).1
        unfold RL
        rw [List.getElem?_set_ne (by simp; omega), List.getElem?_set_ne (Ne.symm hj3), List.getElem?_append_left (by simp; omega), List.getElem?_set_ne (Ne.symm hj1), List.getElem?_append_left hjl]; exact h)) HKF.out
      have HQ2 := Lib.hid q2
      clear c4 f2 hm2 hrow2 hm3 hrow3 q1 q2 q3 q4
      go_wp2_with fail
      refine c5.mono ?_
      rintro e w4 (⟨hbad, _, _⟩ | ⟨_, r, rfl, f4⟩)
      · exact absurd hbad HNB.out
      have hm4 : Fam w0 w4 (((l ++ [MkA p hb (Mk.new M roots).col (Mk.new M roots).list]).set kb (RowA bo 38 [.pointer (some ⟨hb, 0, none⟩), .pointer (some ⟨q, 0, none⟩), (.pointer (some ⟨p, 0, none⟩)), y, .pointer (some ⟨tb, 0, none⟩), .pointer (some ⟨ub, 0, none⟩)])) ++ [GkA r q (Mk.new M roots).col (Mk.new M roots).list]) := by
        have e1 : Mk.new M roots = (Mk.start M).shades (roots.take n) := by unfold Mk.new; rw [HRTS.out]
        rw [e1] at f4 HQ2 ⊢
        rw [← RL.last (m := (Mk.start M).shades (roots.take n)) (by rw [Mk.shades_M]; exact HQ2.out)]
        exact f4
      obtain ⟨q1, q2, q3, q4⟩ := lmark_lists (p := p) (r := r) (m := Mk.new M roots) HI2.out HKB.out HN2.out
      have hrow4 := hm4.row kb q3
      have y3 := hrow4.cell 3 rfl
      have yf3 := hrow4.free 3
      have hm5 := hm4.setRow kb q3 3 (.pointer (some ⟨r, 0, none⟩))
      have HF5 : Hid (Fam w0 (w4.setCell ⟨bo, 3, none⟩ (.pointer (some ⟨r, 0, none⟩))) (markedL l kb bo hb q p r tb ub (Mk.new M roots))) := by show Fam _ _ _; rw [← q4]; exact hm5
      have hrow5 := hm5.row kb (by rw [List.getElem?_set_self (List.getElem?_eq_some_iff.1 q3).1])
      have x2 := hrow5.cell 2 rfl
      clear c5 f4 hm4 hrow4 hm5 hrow5 q1 q2 q3 q4 HQ2 HF3
      go_wp2_with fail
      exact hR.out _ _ ⟨rfl, p, r, HF5.out⟩
end Go.Proofs.Ythflghdaejbdkaa
