/- Lemmas of this claim. -/
import Derived.Test.YthflghdaejbdkaaGreatVTbGB
namespace Go.Proofs.YthflghdaejbdkaaGreat
open Go.RowKit Go.Maps
set_option maxHeartbeats 6400000
set_option maxRecDepth 100000
set_option linter.unusedVariables false
theorem Bls.setAt {w : World} {base g n cap : Nat} {l : List Bool} (h : Bls w base (.slice (some ⟨g, 0, none⟩) n cap) l) (i : Nat) (y : Bool) : Bls (w.setCell ⟨g, i, none⟩ (.bool y)) base (.slice (some ⟨g, 0, none⟩) n cap) (l.set i y) := by
  rcases h.form with ⟨e, _⟩ | ⟨g2, cap2, e, _⟩
  · cases e
  simp only [Value.slice.injEq, Option.some.injEq, Addr.mk.injEq] at e
  obtain ⟨⟨rfl, _⟩, rfl, rfl⟩ := e
  have h3 := (World.ownsRow.stored h i (.bool y)).1
  unfold Bls
  rw [List.length_set, List.map_set]
  exact h3
theorem Bls.ofRow {w : World} {base g : Nat} {l : List Bool} (hb : base ≤ g) (hr : Row w g 4 (l.map Value.bool)) (hm : l.length ≤ 1000000) : Bls w base (.slice (some ⟨g, 0, none⟩) l.length l.length) l := by
  refine ⟨by simp, .inr ⟨g, l.length, (l.map Value.bool).toArray, rfl, hb, hr, Nat.le_refl _, by simp only [maxLen]; omega, by simp, ?_⟩⟩
  rw [Nat.mul_one]
  exact List.take_of_length_le (by simp)
section
variable {l : List Asn} {i j k q r b : Nat} {m : Mk} {t u : Tb} {w0 w w' : World} {ev qv wv : Value} {nx : Nat} {wl : List Bool}
theorem QL.reNx (T3 : Three l i j k) (hf : Fam w0 w (QL l i j k q r b m t)) (n : Nat) (h1 : t.ph = 1 → nxt t.ents 1 n = nxt t.ents 1 t.nx) (h2 : t.ph = 2 → nxt t.ents 2 n = nxt t.ents 2 t.nx) (h4 : t.ph = 4 → nxt t.ents 3 n = nxt t.ents 3 t.nx) : Fam w0 w (QL l i j k q r b m (t.at t.ph n)) := by
  obtain ⟨ev, qv, wv, nx, wl, ht⟩ := QL.tr T3 hf
  exact QL.trT T3 hf ht ev qv wv nx wl _ ⟨ht.row, ht.ents, ht.q, ht.wh, ⟨fun e => (ht.now.1 e).trans (h1 e).symm, fun e => (ht.now.2.1 e).trans (h2 e).symm, fun e => (ht.now.2.2 e).trans (h4 e).symm⟩, ht.two, ht.n1, ht.n2, ht.n3⟩ (fun x hx => .inl hx) (OnlyP.refl _ _)
theorem QL.to4 (T3 : Three l i j k) (hf : Fam w0 w (QL l i j k q r b m t)) : Fam w0 ((w.setCell ⟨b, 2, none⟩ (.int .i64 4)).setCell ⟨b, 3, none⟩ (.int .i64 0)) (QL l i j k q r b m (t.set4 0)) := by
  obtain ⟨ev, qv, wv, nx, wl, ht⟩ := QL.tr T3 hf
  have ho : Only [b] w ((w.setCell ⟨b, 2, none⟩ (.int .i64 4)).setCell ⟨b, 3, none⟩ (.int .i64 0)) := ((Only.refl _ w).set (.inl (by simp)) _).set (.inl (by simp)) _
  obtain ⟨h1, h2, h3⟩ := ht.rest ho
  exact QL.trT T3 hf ht ev qv wv 0 wl _ ⟨ht.row.imp fun U x => (x.set 2 _).set 3 _, h1, h2, h3, ⟨fun e => by simp [Tb.set4, Tb.at] at e, fun e => by simp [Tb.set4, Tb.at] at e, fun _ => nxt_nxt.symm⟩, ⟨ht.two.1, fun e => by simp [Tb.set4, Tb.at] at e⟩, ht.n1, ht.n2, ht.n3⟩ (fun x hx => .inl hx) (ho.toP (fun x hx => .inl (.inl (by simpa using hx))))
theorem QL.to3 (T3 : Three l i j k) (hf : Fam w0 w (QL l i j k q r b m t)) : Fam w0 (w.setCell ⟨b, 2, none⟩ (.int .i64 3)) (QL l i j k q r b m (t.at 3 0)) :=
  QL.setNow T3 hf 3 (by omega) 0 (fun _ _ _ _ _ _ => ⟨fun e => by simp [Tb.at] at e, fun e => by simp [Tb.at] at e, fun e => by simp [Tb.at] at e⟩)
theorem QL.to2 (T3 : Three l i j k) (hf : Fam w0 w (QL l i j k q r b m t)) (ht : TrAt w b ev qv wv nx wl t) (hl : wl.length = t.ents.length) (hw : ∀ i, i < t.ents.length → gB wl i = m.isW (eAt t.ents i).tgt) : Fam w0 ((w.setCell ⟨b, 2, none⟩ (.int .i64 2)).setCell ⟨b, 3, none⟩ (.int .i64 0)) (QL l i j k q r b m ((t.find m).at 2 0)) := by
  have ho : Only [b] w ((w.setCell ⟨b, 2, none⟩ (.int .i64 2)).setCell ⟨b, 3, none⟩ (.int .i64 0)) := ((Only.refl _ w).set (.inl (by simp)) _).set (.inl (by simp)) _
  obtain ⟨h1, h2, h3⟩ := ht.rest ho
  refine QL.trT T3 hf ht ev qv wv 0 wl _ ⟨ht.row.imp fun U x => (x.set 2 _).set 3 _, h1, h2, h3, NowIs.self _, ⟨ht.two.1, fun _ => ⟨hl, fun i hi hk => ?_⟩⟩, ht.n1, ht.n2, ht.n3⟩ (fun x hx => .inl hx) (ho.toP (fun x hx => .inl (.inl (by simpa using hx))))
  show gB wl i = (decide ((eAt t.ents i).kind = 2) && m.isW (eAt t.ents i).tgt)
  replace hk : (eAt t.ents i).kind = 2 := hk
  rw [hk, hw i hi]; rfl
theorem QL.mkW (T3 : Three l i j k) (hf : Fam w0 w (QL l i j k q r b m t)) (ht : TrAt w b ev qv wv nx wl t) (hp : t.ph ≠ 2) {C : Array Value} {n : Nat} (hn : n ≤ 20) (hC : C.toList = (List.replicate n false).map Value.bool) :
    TrAt ((w.alloc (.cells C 4)).setCell ⟨b, 4, none⟩ (.slice (some ⟨w.heap.size, 0, none⟩) n n)) b ev qv (.slice (some ⟨w.heap.size, 0, none⟩) n n) nx (List.replicate n false) t ∧ Fam w0 ((w.alloc (.cells C 4)).setCell ⟨b, 4, none⟩ (.slice (some ⟨w.heap.size, 0, none⟩) n n)) (QL l i j k q r b m t) := by
  have hbl : b < w.heap.size := by obtain ⟨U, hr⟩ := ht.row; exact hr.lt
  have ho1 : Only [] w (w.alloc (.cells C 4)) := (Only.refl [] w).alloc _
  have ho : Only [b] (w.alloc (.cells C 4)) ((w.alloc (.cells C 4)).setCell ⟨b, 4, none⟩ (.slice (some ⟨w.heap.size, 0, none⟩) n n)) := (Only.refl _ _).set (.inl (by simp)) _
  have ht1 := ht.only0 ho1
  obtain ⟨h1, h2, h3⟩ := ht1.rest ho
  have hr : Row (w.alloc (.cells C 4)) w.heap.size 4 ((List.replicate n false).map Value.bool) := by rw [← hC]; exact Row.new w 4 C.toList
  have hB : Bls (w.alloc (.cells C 4)) 0 (.slice (some ⟨w.heap.size, 0, none⟩) n n) (List.replicate n false) := by
    have := Bls.ofRow (Nat.zero_le _) hr (by simp; omega)
    rwa [List.length_replicate] at this
  have hg9 : ∀ g, (Value.slice (some ⟨w.heap.size, 0, none⟩) n n).ownBlock = some g → g = w.heap.size := fun g hg => by
    have : w.heap.size = g := by simpa [Value.ownBlock] using hg
    exact this.symm
  have hT : TrAt ((w.alloc (.cells C 4)).setCell ⟨b, 4, none⟩ (.slice (some ⟨w.heap.size, 0, none⟩) n n)) b ev qv (.slice (some ⟨w.heap.size, 0, none⟩) n n) nx (List.replicate n false) t :=
    ⟨ht1.row.imp fun U x => x.set 4 _, h1, h2, hB.only ho (fun g hg => by have := hg9 g hg; simp; omega), ht.now, ⟨by simp; omega, fun e => absurd e hp⟩, fun g hg => ⟨(ht.n1 g hg).1, fun e => by have := hg9 g e; have := (ht.ents.own _ hg).2; omega, (ht.n1 g hg).2.2⟩, fun g hg => ⟨(ht.n2 g hg).1, fun e => by have := hg9 g e; have := (ht.q.own _ hg).2; omega⟩, fun e => by have := hg9 b e; omega⟩
  refine ⟨hT, QL.trT T3 hf ht ev qv _ nx _ _ hT (fun x hx => ?_) ((ho1.mono (G := [b]) (by simp)).trans ho (by simp) |>.toP (fun x hx => .inl (.inl (by simpa using hx))))⟩
  rcases hx with hx | hx | hx | hx
  · exact .inl (.inl hx)
  · exact .inl (.inr (.inl hx))
  · exact .inl (.inr (.inr (.inl hx)))
  · cases hx; exact .inr (Nat.le_refl _)
theorem QL.putW (T3 : Three l i j k) (hf : Fam w0 w (QL l i j k q r b m t)) {wg n c : Nat} (ht : TrAt w b ev qv (.slice (some ⟨wg, 0, none⟩) n c) nx wl t) (hp : t.ph ≠ 2) (x : Nat) (y : Bool) :
    TrAt (w.setCell ⟨wg, x, none⟩ (.bool y)) b ev qv (.slice (some ⟨wg, 0, none⟩) n c) nx (wl.set x y) t ∧ Fam w0 (w.setCell ⟨wg, x, none⟩ (.bool y)) (QL l i j k q r b m t) := by
  have ho : Only [wg] w (w.setCell ⟨wg, x, none⟩ (.bool y)) := (Only.refl _ w).set (.inl (by simp)) _
  have hT : TrAt (w.setCell ⟨wg, x, none⟩ (.bool y)) b ev qv (.slice (some ⟨wg, 0, none⟩) n c) nx (wl.set x y) t :=
    ⟨ht.row.imp fun U z => ho.row z (fun e => ht.n3 (by simp at e; rw [e]; rfl)), ht.ents.only ho (fun g hg e => (ht.n1 g hg).2.1 (by simp at e; rw [e]; rfl)), ht.q.only ho (fun g hg e => (ht.n2 g hg).2 (by simp at e; rw [e]; rfl)), ht.wh.setAt x y, ht.now, ⟨by rw [List.length_set]; exact ht.two.1, fun e => absurd e hp⟩, ht.n1, ht.n2, ht.n3⟩
  exact ⟨hT, QL.trT T3 hf ht ev qv _ nx _ _ hT (fun x hx => .inl hx) (ho.toP (fun x hx => .inl (.inr (.inr (.inr (by simp at hx; rw [hx]; rfl))))))⟩
theorem rtsettle_4 (w : World) (T3 : Three l i j k) (hf : Fam w0 w (QL l i j k q r b m t)) (hg : t.Good m) (hp : t.ph = 4) : Calls Tryz.prog 76 #[.pointer (some ⟨b, 0, none⟩), .pointer (some ⟨r, 0, none⟩)] w (fun e w' => e = .returned (.tuple #[]) ∧ Fam w0 w' (QL l i j k q r b m (t.settle m))) := by
  refine calls_abs fun R hR => ?_
  obtain ⟨ev, qv, wv, nx, wl, ht⟩ := QL.tr T3 hf
  obtain ⟨_, _, x2, _, _, _⟩ := ht.cells
  replace x2 : w.cell? ⟨b, 2, none⟩ = some (.int .i64 4) := by rw [x2, hp]; rfl
  have HEND : Hid (Fam w0 w (QL l i j k q r b m (t.settle m))) := by
    show Fam _ _ _
    have e : t.settle m = t.at t.ph (nxt t.ents 3 t.nx) := by unfold Tb.settle; rw [if_neg (by omega), if_neg (by omega), if_neg (by omega), if_pos hp]; unfold Tb.set4; rw [hp]
    rw [e]
    exact QL.reNx T3 hf _ (fun e => absurd e (by omega)) (fun e => absurd e (by omega)) (fun e => nxt_nxt)
  clear hf hg ht hp
  go_enter Tryz.func76, Tryz.ntmps76
  go_wp2_with fail
  first
  | (refine bodyPost_ret (results_none rfl _ _ _) rfl ?_; exact hR.out _ _ ⟨rfl, HEND.out⟩)
  | exact hR.out _ _ ⟨rfl, HEND.out⟩
  | (go_end0; exact hR.out _ _ ⟨rfl, HEND.out⟩)
theorem rtsettle_3 (w : World) (T3 : Three l i j k) (hf : Fam w0 w (QL l i j k q r b m t)) (hg : t.Good m) (hp : t.ph = 3) : Calls Tryz.prog 76 #[.pointer (some ⟨b, 0, none⟩), .pointer (some ⟨r, 0, none⟩)] w (fun e w' => e = .returned (.tuple #[]) ∧ Fam w0 w' (QL l i j k q r b m (t.settle m))) := by
  refine calls_abs fun R hR => ?_
  have HF3 := Lib.hid hf
  have HPH3 := Lib.hid hp
  have hz := hg.z3 hp
  have HF30 : Hid (Fam w0 w (QL l i j k q r b m (t.at 3 0))) := by
    show Fam _ _ _
    have e : t.at 3 0 = t := by unfold Tb.at; rw [← hp, ← hz]
    rw [e]; exact hf
  have HS3 : Hid (t.set3 m = t.settle m) := by show _ = _; unfold Tb.settle; rw [if_neg (by omega), if_neg (by omega), if_pos hp]
  clear hf hg hp hz
  go_enter Tryz.func76, Tryz.ntmps76
  obtain ⟨ev3, qv3, wv3, nx3, wl3, ht3⟩ := QL.tr T3 HF3.out
  obtain ⟨_, _, x2, x3, _, xf⟩ := ht3.cells
  replace x2 : (w).cell? ⟨b, 2, none⟩ = some (.int .i64 3) := by rw [x2, HPH3.out]; rfl
  have xf2 := xf 2
  have xf3 := xf 3
  have cd := gdone_rep (w) T3.t2 HF3.out
  have HF4 := Lib.hid (QL.to4 T3 HF3.out)
  clear ht3 xf
  by_cases hl : m.list = []
  · have HEND : Hid (Fam w0 (((w).setCell ⟨b, 2, none⟩ (.int .i64 4)).setCell ⟨b, 3, none⟩ (.int .i64 0)) (QL l i j k q r b m (t.settle m))) := by
      show Fam _ _ _
      rw [← HS3.out]
      unfold Tb.set3
      rw [if_pos hl]
      exact HF4.out
    rw [decide_eq_true hl] at cd
    clear hl HF3 HF4
    go_wp2_with fail
    refine cd.mono ?_
    rintro e _ ⟨rfl, rfl⟩
    clear cd
    go_wp2_with fail
    first
    | (refine bodyPost_ret (results_none rfl _ _ _) rfl ?_; exact hR.out _ _ ⟨rfl, HEND.out⟩)
    | exact hR.out _ _ ⟨rfl, HEND.out⟩
    | (go_end0; exact hR.out _ _ ⟨rfl, HEND.out⟩)
  · have HEND : Hid (Fam w0 (w) (QL l i j k q r b m (t.settle m))) := by
      show Fam _ _ _
      rw [← HS3.out]
      unfold Tb.set3
      rw [if_neg hl]
      exact HF30.out
    rw [decide_eq_false hl] at cd
    clear hl HF3 HF4
    go_wp2_with fail
    refine cd.mono ?_
    rintro e _ ⟨rfl, rfl⟩
    clear cd
    go_wp2_with fail
    first
    | (refine bodyPost_ret (results_none rfl _ _ _) rfl ?_; exact hR.out _ _ ⟨rfl, HEND.out⟩)
    | exact hR.out _ _ ⟨rfl, HEND.out⟩
    | (go_end0; exact hR.out _ _ ⟨rfl, HEND.out⟩)
theorem rtsettle_2 (w : World) (T3 : Three l i j k) (hf : Fam w0 w (QL l i j k q r b m t)) (hg : t.Good m) (hp : t.ph = 2) : Calls Tryz.prog 76 #[.pointer (some ⟨b, 0, none⟩), .pointer (some ⟨r, 0, none⟩)] w (fun e w' => e = .returned (.tuple #[]) ∧ Fam w0 w' (QL l i j k q r b m (t.settle m))) := by
  refine calls_abs fun R hR => ?_
  have HF2 := Lib.hid hf
  have HPH2 := Lib.hid hp
  have HL20 := Lib.hid hg.b.le
  have HS2 : Hid (t.set2 m t.nx = t.settle m) := by show _ = _; unfold Tb.settle; rw [if_neg (by omega), if_pos hp]
  clear hf hg hp
  go_enter Tryz.func76, Tryz.ntmps76
  obtain ⟨ev2, qv2, wv2, nx2, wl2, ht2⟩ := QL.tr T3 HF2.out
  obtain ⟨_, _, x2, x3, _, xf⟩ := ht2.cells
  replace x2 : (w).cell? ⟨b, 2, none⟩ = some (.int .i64 2) := by rw [x2, HPH2.out]; rfl
  have cl : Calls Tryz.prog 152 #[.pointer (some ⟨b, 0, none⟩), .int .i64 2, .int .i64 (nx2 : Int)] (w) _ := rtleft_rep (w) ht2 HL20.out 2 nx2
  have hnw := ht2.now.2.1 HPH2.out
  have hnn : nxt (t).ents ((2 : Nat) : Int) nx2 = nxt (t).ents 2 (t).nx := hnw
  rw [hnn] at cl
  have xf2 := xf 2
  clear ht2 xf hnw hnn
  by_cases hm2 : nxt (t).ents 2 (t).nx < (t).ents.length
  · as_aux_lemma =>
    have HEND : Hid (Fam w0 (w) (QL l i j k q r b m (t.settle m))) := by
      show Fam _ _ _
      rw [← HS2.out]
      unfold Tb.set2
      rw [if_pos hm2, ← HPH2.out]
      exact QL.reNx T3 HF2.out _ (fun e => absurd e (by rw [HPH2.out]; decide)) (fun e => nxt_nxt) (fun e => absurd e (by rw [HPH2.out]; decide))
    rw [if_pos hm2, decide_eq_true hm2] at cl
    clear hm2 HF2
    go_wp2_with fail
    refine cl.mono ?_
    rintro e _ ⟨rfl, rfl⟩
    clear cl
    go_wp2_with fail
    first
    | (refine bodyPost_ret (results_none rfl _ _ _) rfl ?_; exact hR.out _ _ ⟨rfl, HEND.out⟩)
    | exact hR.out _ _ ⟨rfl, HEND.out⟩
    | (go_end0; exact hR.out _ _ ⟨rfl, HEND.out⟩)
  · as_aux_lemma =>
    have HF3 := Lib.hid (QL.to3 T3 HF2.out)
    have HF30 := Lib.hid (QL.to3 T3 HF2.out)
    have HPH3 : Hid (((t).at 3 0).ph = 3) := rfl
    have HS3 : Hid ((t).set3 m = t.settle m) := by
      show _ = _
      rw [← HS2.out]
      unfold Tb.set2
      rw [if_neg hm2]
    rw [if_neg hm2, decide_eq_false hm2] at cl
    clear hm2 HF2 HS2
    go_wp2_with fail
    refine cl.mono ?_
    rintro e _ ⟨rfl, rfl⟩
    clear cl x3
    obtain ⟨ev3, qv3, wv3, nx3, wl3, ht3⟩ := QL.tr T3 HF3.out
    obtain ⟨_, _, x2, x3, _, xf⟩ := ht3.cells
    replace x2 : ((w).setCell ⟨b, 2, none⟩ (.int .i64 3)).cell? ⟨b, 2, none⟩ = some (.int .i64 3) := by rw [x2, HPH3.out]; rfl
    have xf2 := xf 2
    have xf3 := xf 3
    have cd := gdone_rep ((w).setCell ⟨b, 2, none⟩ (.int .i64 3)) T3.t2 HF3.out
    have HF4 := Lib.hid (QL.to4 T3 HF3.out)
    clear ht3 xf
    by_cases hl : m.list = []
    · have HEND : Hid (Fam w0 ((((w).setCell ⟨b, 2, none⟩ (.int .i64 3)).setCell ⟨b, 2, none⟩ (.int .i64 4)).setCell ⟨b, 3, none⟩ (.int .i64 0)) (QL l i j k q r b m (t.settle m))) := by
        show Fam _ _ _
        rw [← HS3.out]
        unfold Tb.set3
        rw [if_pos hl]
        exact HF4.out
      rw [decide_eq_true hl] at cd
      clear hl HF3 HF4
      go_wp2_with fail
      refine cd.mono ?_
      rintro e _ ⟨rfl, rfl⟩
      clear cd
      go_wp2_with fail
      first
      | (refine bodyPost_ret (results_none rfl _ _ _) rfl ?_; exact hR.out _ _ ⟨rfl, HEND.out⟩)
      | exact hR.out _ _ ⟨rfl, HEND.out⟩
      | (go_end0; exact hR.out _ _ ⟨rfl, HEND.out⟩)
    · have HEND : Hid (Fam w0 ((w).setCell ⟨b, 2, none⟩ (.int .i64 3)) (QL l i j k q r b m (t.settle m))) := by
        show Fam _ _ _
        rw [← HS3.out]
        unfold Tb.set3
        rw [if_neg hl]
        exact HF30.out
      rw [decide_eq_false hl] at cd
      clear hl HF3 HF4
      go_wp2_with fail
      refine cd.mono ?_
      rintro e _ ⟨rfl, rfl⟩
      clear cd
      go_wp2_with fail
      first
      | (refine bodyPost_ret (results_none rfl _ _ _) rfl ?_; exact hR.out _ _ ⟨rfl, HEND.out⟩)
      | exact hR.out _ _ ⟨rfl, HEND.out⟩
      | (go_end0; exact hR.out _ _ ⟨rfl, HEND.out⟩)
theorem rtsettle_1 (w : World) (T3 : Three l i j k) (hf : Fam w0 w (QL l i j k q r b m t)) (hg : t.Good m) (hp : t.ph = 1) : Calls Tryz.prog 76 #[.pointer (some ⟨b, 0, none⟩), .pointer (some ⟨r, 0, none⟩)] w (fun e w' => e = .returned (.tuple #[]) ∧ Fam w0 w' (QL l i j k q r b m (t.settle m))) := by
  refine calls_abs fun R hR => ?_
  obtain ⟨ev, qv, wv, nx, wl, ht⟩ := QL.tr T3 hf
  obtain ⟨x0, _, x2, x3, x4, xf⟩ := ht.cells
  replace x2 : w.cell? ⟨b, 2, none⟩ = some (.int .i64 1) := by rw [x2, hp]; rfl
  have cl : Calls Tryz.prog 152 #[.pointer (some ⟨b, 0, none⟩), .int .i64 1, .int .i64 (nx : Int)] w _ := rtleft_rep w ht hg.b.le 1 nx
  have hnn : nxt t.ents ((1 : Nat) : Int) nx = nxt t.ents 1 t.nx := ht.now.1 hp
  rw [hnn] at cl
  have HF1 := Lib.hid hf
  have HT1 := Lib.hid ht
  have HPH1 := Lib.hid hp
  have HL20 := Lib.hid hg.b.le
  have xf4 := xf 4
  clear hf ht hg hnn hp xf
  by_cases hm1 : nxt t.ents 1 t.nx < t.ents.length
  · as_aux_lemma =>
    have HEND : Hid (Fam w0 w (QL l i j k q r b m (t.settle m))) := by
      show Fam _ _ _
      unfold Tb.settle
      rw [if_pos HPH1.out]
      unfold Tb.set1
      rw [if_pos hm1, ← HPH1.out]
      exact QL.reNx T3 HF1.out _ (fun e => nxt_nxt) (fun e => absurd e (by rw [HPH1.out]; decide)) (fun e => absurd e (by rw [HPH1.out]; decide))
    rw [if_pos hm1, decide_eq_true hm1] at cl
    clear hm1 HF1 HT1
    go_enter Tryz.func76, Tryz.ntmps76
    go_wp2_with fail
    refine cl.mono ?_
    rintro e _ ⟨rfl, rfl⟩
    clear cl
    go_wp2_with fail
    first
    | (refine bodyPost_ret (results_none rfl _ _ _) rfl ?_; exact hR.out _ _ ⟨rfl, HEND.out⟩)
    | exact hR.out _ _ ⟨rfl, HEND.out⟩
    | (go_end0; exact hR.out _ _ ⟨rfl, HEND.out⟩)
  · have HS1 : Hid (((t.find m).at 2 0).set2 m ((t.find m).at 2 0).nx = t.settle m) := by
      show _ = _
      unfold Tb.settle
      rw [if_pos HPH1.out]
      unfold Tb.set1
      rw [if_neg hm1]
      rfl
    rw [if_neg hm1, decide_eq_false hm1] at cl
    obtain ⟨a, c, hev⟩ := HT1.out.ents.len
    obtain ⟨n, hn⟩ : ∃ z, z = t.ents.length := ⟨_, rfl⟩
    have HN := Lib.hid hn
    rw [← hn] at hev
    subst hev
    have h20 : n ≤ 20 := by rw [hn]; exact HL20.out
    obtain ⟨C, hC, hmk⟩ := mk_bools n (by omega)
    have hW := QL.mkW T3 HF1.out HT1.out (by rw [HPH1.out]; decide) h20 hC
    have HTW := Lib.hid hW.1
    have HFW := Lib.hid hW.2
    have x4a : (w.alloc (.cells C 4)).cell? ⟨b, 4, none⟩ = some wv := by rw [World.cell?_alloc_past _ _ _ (World.block_lt_of_cell? w _ x4)]; exact x4
    have xf4a : (w.alloc (.cells C 4)).frozen? ⟨b, 4, none⟩ = false := (HT1.out.only0 ((Only.refl [] w).alloc _)).cells.2.2.2.2.2 4
    clear hm1 HF1 HT1 hn hC hW x4 xf4
    go_enter Tryz.func76, Tryz.ntmps76
    go_wp2_with fail
    refine cl.mono ?_
    rintro e _ ⟨rfl, rfl⟩
    clear cl
    go_wp2_with fail
    generalize ((w.alloc (.cells C 4)).setCell ⟨b, 4, none⟩ (.slice (some ⟨w.heap.size, 0, none⟩) n n)) = w1 at *
    generalize w.heap.size = wg at *
    clear hmk x4a xf4a x0 x2 x3
    go_loopw [6] (fun iv wr => ∃ (x : Nat) (wl : List Bool), x ≤ n ∧ iv = .int .i64 x ∧ Fam w0 wr (QL l i j k q r b m t) ∧ TrAt wr b (.slice a n c) qv (.slice (some ⟨wg, 0, none⟩) n n) nx wl t ∧ Hid (wl.length = n ∧ ∀ y, y < x → gB wl y = m.isW (eAt t.ents y).tgt)) (fun iv _ => n - (intOf iv).toNat)
    case atStart => exact ⟨0, _, by omega, rfl, HFW.out, HTW.out, ⟨List.length_replicate, fun y hy => by omega⟩⟩
    case round => as_aux_lemma =>
      clear HFW HTW
      obtain ⟨x, wl, hx, rfl, hf, ht, HWL⟩ := hrel
      obtain ⟨x0, _, _, _, x4, _⟩ := ht.cells
      have HF := Lib.hid hf
      have HT := Lib.hid ht
      clear hf
      by_cases hlt : x < n
      · as_aux_lemma =>
        have hlt1 : (x : Int) < (n : Int) := by omega
        have hx0 : (0 : Int) ≤ x := by omega
        obtain ⟨g, cap, hv, _, _, _, c1, _, _⟩ := ht.ents.at (i := x) (by rw [← HN.out]; exact hlt)
        rw [← HN.out] at hv
        simp only [Value.slice.injEq, true_and] at hv
        obtain ⟨rfl, rfl⟩ := hv
        have HP : Hid (∀ w8, Only [] wr.drew w8 → w8.cell? ⟨b, 4, none⟩ = some (.slice (some ⟨wg, 0, none⟩) n n) ∧ w8.cell? ⟨b, 0, none⟩ = some (.slice (some ⟨g, 0, none⟩) n c) ∧ w8.cell? ⟨g, x * 3 + 1, none⟩ = some (.int .i64 (eAt t.ents x).tgt) ∧ w8.frozen? ⟨wg, x, none⟩ = false ∧ (∃ u, w8.cell? ⟨wg, x, none⟩ = some u) ∧ ∃ wl', TrAt (w8.setCell ⟨wg, x, none⟩ (.bool (m.isW (eAt t.ents x).tgt))) b (.slice (some ⟨g, 0, none⟩) n c) qv (.slice (some ⟨wg, 0, none⟩) n n) nx wl' t ∧ Fam w0 (w8.setCell ⟨wg, x, none⟩ (.bool (m.isW (eAt t.ents x).tgt))) (QL l i j k q r b m t) ∧ (wl'.length = n ∧ ∀ y, y < x + 1 → gB wl' y = m.isW (eAt t.ents y).tgt) ∧ (w8.setCell ⟨wg, x, none⟩ (.bool (m.isW (eAt t.ents x).tgt))).cell? ⟨g, x * 3 + 1, none⟩ = some (.int .i64 (eAt t.ents x).tgt)) := fun w8 ho => by
          have ho8 : Only [] wr w8 := ((Only.refl [] wr).drew).trans ho (by simp)
          have ht8 := HT.out.only0 ho8
          have hf8 := HF.out.only0 ho8
          obtain ⟨hT, hF⟩ := QL.putW T3 hf8 ht8 (by rw [HPH1.out]; decide) x (m.isW (eAt t.ents x).tgt)
          obtain ⟨hw1, hw2⟩ := HWL.out
          have hwh : w8.ownsRow 0 4 1 (.slice (some ⟨wg, 0, none⟩) n n) n (wl.map Value.bool) := by have := ht8.wh; unfold Bls at this; rw [hw1] at this; exact this
          rcases ht8.wh.form with ⟨e, _⟩ | ⟨g2, cap2, e, _, _, _, hc⟩
          · cases e
          simp only [Value.slice.injEq, Option.some.injEq, Addr.mk.injEq] at e
          obtain ⟨⟨rfl, _⟩, _, _⟩ := e
          obtain ⟨g3, cap3, e3, _, _, _, d1, _, _⟩ := hT.ents.at (i := x) (by rw [← HN.out]; exact hlt)
          simp only [Value.slice.injEq, Option.some.injEq, Addr.mk.injEq] at e3
          obtain ⟨⟨rfl, _⟩, _, _⟩ := e3
          refine ⟨ht8.cells.2.2.2.2.1, ht8.cells.1, ho8.cell c1 (by simp), World.ownsRow.frozenAt hwh x, ⟨_, hc x (by rw [hw1]; exact hlt)⟩, _, hT, hF, ⟨by rw [List.length_set]; exact hw1, fun y hy => ?_⟩, d1⟩
          rw [gB_set (by rw [hw1]; exact hlt)]
          by_cases e : y = x
          · rw [if_pos e, e]
          · rw [if_neg e]; exact hw2 y (by omega)
        have HCW : Hid (Calls Tryz.prog 161 #[.pointer (some ⟨r, 0, none⟩), .int .i64 (eAt t.ents x).tgt] wr.drew (fun e w' => e = .returned (.bool (m.isW (eAt t.ents x).tgt)) ∧ Only [] wr.drew w')) := rtwhite_rep wr.drew T3.t2 HF.out.drew _
        clear ht HF HT HWL
        generalize m.isW (eAt t.ents x).tgt = wt at *
        generalize (eAt t.ents x).tgt = tg at *
        go_wp2_with fail
        go_region_held3 (fun w' => w'.cell? ⟨b, 4, none⟩ = some (.slice (some ⟨wg, 0, none⟩) n n) ∧ w'.cell? ⟨b, 0, none⟩ = some (.slice (some ⟨g, 0, none⟩) n c) ∧ w'.cell? ⟨g, x * 3 + 1, none⟩ = some (.int .i64 tg))
          (first | (exact ⟨x4, x0, c1⟩) | (exact ⟨k4, k0, k1⟩) | (exact ⟨q4, q0, q1⟩))
          (first | (go_at_call 161; refine HCW.out.mono ?_; rintro e w8 ⟨rfl, ho8⟩; obtain ⟨k4, k0, k1, kf, ⟨ku, kc⟩, wl', hT8, hrest⟩ := HP.out w8 ho8; obtain ⟨q0, _, _, _, q4, _⟩ := hT8.cells; have q1 := hrest.2.2; have HT8 := Lib.hid hT8; have HR8 := Lib.hid hrest; clear hT8 hrest ho8))
        have hr8 := HR8.out
        have HF9 := Lib.hid hr8.1
        have HW9 : Hid (wl'.length = n ∧ ∀ y, y < x + 1 → gB wl' y = m.isW (eAt t.ents y).tgt) := hr8.2.1
        clear hr8 HR8 q1 q0 q4 k4 k0 k1 kf kc
        go_wp2_with fail
        exact ⟨⟨x + 1, wl', by omega, by go_num, HF9.out, HT8.out, HW9.out⟩, by simp [intOf]; omega⟩
      · obtain rfl : x = n := by omega
        have hlt1 : ¬ (x : Int) < (x : Int) := by omega
        have HF2 : Hid (Fam w0 ((wr.setCell ⟨b, 2, none⟩ (.int .i64 2)).setCell ⟨b, 3, none⟩ (.int .i64 0)) (QL l i j k q r b m ((t.find m).at 2 0))) :=
          QL.to2 T3 HF.out HT.out (by rw [HWL.out.1]; exact HN.out) (fun y hy => HWL.out.2 y (by rw [HN.out]; exact hy))
        have HPH2 : Hid (((t.find m).at 2 0).ph = 2) := rfl
        have HS2 := HS1
        replace HL20 : Hid (((t.find m).at 2 0).ents.length ≤ 20) := HL20.out
        have xf2 := ht.cells.2.2.2.2.2 2
        have xf3 := ht.cells.2.2.2.2.2 3
        have x2 := ht.cells.2.2.1
        have x3 := ht.cells.2.2.2.1
        clear ht HF HT HWL HS1 hlt
        go_upto_region 10 with fail
        clear x0 x4 x2 x3 xf2 xf3
        generalize (wr.setCell ⟨b, 2, none⟩ (.int .i64 2)).setCell ⟨b, 3, none⟩ (.int .i64 0) = w2 at *
        obtain ⟨ev2, qv2, wv2, nx2, wl2, ht2⟩ := QL.tr T3 HF2.out
        obtain ⟨_, _, x2, x3, _, xf⟩ := ht2.cells
        replace x2 : (w2).cell? ⟨b, 2, none⟩ = some (.int .i64 2) := by rw [x2, HPH2.out]; rfl
        have cl : Calls Tryz.prog 152 #[.pointer (some ⟨b, 0, none⟩), .int .i64 2, .int .i64 (nx2 : Int)] (w2) _ := rtleft_rep (w2) ht2 HL20.out 2 nx2
        have hnw := ht2.now.2.1 HPH2.out
        have hnn : nxt ((t.find m).at 2 0).ents ((2 : Nat) : Int) nx2 = nxt ((t.find m).at 2 0).ents 2 ((t.find m).at 2 0).nx := hnw
        rw [hnn] at cl
        have xf2 := xf 2
        clear ht2 xf hnw hnn
        by_cases hm2 : nxt ((t.find m).at 2 0).ents 2 ((t.find m).at 2 0).nx < ((t.find m).at 2 0).ents.length
        · as_aux_lemma =>
          have HEND : Hid (Fam w0 (w2) (QL l i j k q r b m (t.settle m))) := by
            show Fam _ _ _
            rw [← HS2.out]
            unfold Tb.set2
            rw [if_pos hm2, ← HPH2.out]
            exact QL.reNx T3 HF2.out _ (fun e => absurd e (by rw [HPH2.out]; decide)) (fun e => nxt_nxt) (fun e => absurd e (by rw [HPH2.out]; decide))
          rw [if_pos hm2, decide_eq_true hm2] at cl
          clear hm2 HF2
          go_wp2_with fail
          refine cl.mono ?_
          rintro e _ ⟨rfl, rfl⟩
          clear cl
          go_wp2_with fail
          first
          | (refine bodyPost_ret (results_none rfl _ _ _) rfl ?_; exact hR.out _ _ ⟨rfl, HEND.out⟩)
          | exact hR.out _ _ ⟨rfl, HEND.out⟩
          | (go_end0; exact hR.out _ _ ⟨rfl, HEND.out⟩)
        · as_aux_lemma =>
          have HF3 := Lib.hid (QL.to3 T3 HF2.out)
          have HF30 := Lib.hid (QL.to3 T3 HF2.out)
          have HPH3 : Hid ((((t.find m).at 2 0).at 3 0).ph = 3) := rfl
          have HS3 : Hid (((t.find m).at 2 0).set3 m = t.settle m) := by
            show _ = _
            rw [← HS2.out]
            unfold Tb.set2
            rw [if_neg hm2]
          rw [if_neg hm2, decide_eq_false hm2] at cl
          clear hm2 HF2 HS2
          go_wp2_with fail
          refine cl.mono ?_
          rintro e _ ⟨rfl, rfl⟩
          clear cl x3
          obtain ⟨ev3, qv3, wv3, nx3, wl3, ht3⟩ := QL.tr T3 HF3.out
          obtain ⟨_, _, x2, x3, _, xf⟩ := ht3.cells
          replace x2 : ((w2).setCell ⟨b, 2, none⟩ (.int .i64 3)).cell? ⟨b, 2, none⟩ = some (.int .i64 3) := by rw [x2, HPH3.out]; rfl
          have xf2 := xf 2
          have xf3 := xf 3
          have cd := gdone_rep ((w2).setCell ⟨b, 2, none⟩ (.int .i64 3)) T3.t2 HF3.out
          have HF4 := Lib.hid (QL.to4 T3 HF3.out)
          clear ht3 xf
          by_cases hl : m.list = []
          · have HEND : Hid (Fam w0 ((((w2).setCell ⟨b, 2, none⟩ (.int .i64 3)).setCell ⟨b, 2, none⟩ (.int .i64 4)).setCell ⟨b, 3, none⟩ (.int .i64 0)) (QL l i j k q r b m (t.settle m))) := by
              show Fam _ _ _
              rw [← HS3.out]
              unfold Tb.set3
              rw [if_pos hl]
              exact HF4.out
            rw [decide_eq_true hl] at cd
            clear hl HF3 HF4
            go_wp2_with fail
            refine cd.mono ?_
            rintro e _ ⟨rfl, rfl⟩
            clear cd
            go_wp2_with fail
            first
            | (refine bodyPost_ret (results_none rfl _ _ _) rfl ?_; exact hR.out _ _ ⟨rfl, HEND.out⟩)
            | exact hR.out _ _ ⟨rfl, HEND.out⟩
            | (go_end0; exact hR.out _ _ ⟨rfl, HEND.out⟩)
          · have HEND : Hid (Fam w0 ((w2).setCell ⟨b, 2, none⟩ (.int .i64 3)) (QL l i j k q r b m (t.settle m))) := by
              show Fam _ _ _
              rw [← HS3.out]
              unfold Tb.set3
              rw [if_neg hl]
              exact HF30.out
            rw [decide_eq_false hl] at cd
            clear hl HF3 HF4
            go_wp2_with fail
            refine cd.mono ?_
            rintro e _ ⟨rfl, rfl⟩
            clear cd
            go_wp2_with fail
            first
            | (refine bodyPost_ret (results_none rfl _ _ _) rfl ?_; exact hR.out _ _ ⟨rfl, HEND.out⟩)
            | exact hR.out _ _ ⟨rfl, HEND.out⟩
            | (go_end0; exact hR.out _ _ ⟨rfl, HEND.out⟩)
theorem rtsettle_rep (w : World) (T3 : Three l i j k) (hf : Fam w0 w (QL l i j k q r b m t)) (hg : t.Good m) (hp : 1 ≤ t.ph) : Calls Tryz.prog 76 #[.pointer (some ⟨b, 0, none⟩), .pointer (some ⟨r, 0, none⟩)] w (fun e w' => e = .returned (.tuple #[]) ∧ Fam w0 w' (QL l i j k q r b m (t.settle m))) := by
  have h4 := hg.p4
  have : t.ph = 1 ∨ t.ph = 2 ∨ t.ph = 3 ∨ t.ph = 4 := by omega
  rcases this with e | e | e | e
  · exact rtsettle_1 w T3 hf hg e
  · exact rtsettle_2 w T3 hf hg e
  · exact rtsettle_3 w T3 hf hg e
  · exact rtsettle_4 w T3 hf hg e
end
end Go.Proofs.YthflghdaejbdkaaGreat
