/- Contracts of the reference's memories: Alloc. -/
import Derived.Test.YtbjmgbbggbbidaaRScopeJ
namespace Go.Proofs.Ytbjmgbbggbbidaa
open Go.RowKit Go.Maps
set_option maxHeartbeats 3200000
set_option maxRecDepth 100000
set_option linter.unusedVariables false
section
variable {w w' : World} {L L' : Nat → Option Rb} {q : Nat} {M : Sc} {X : RX}
theorem infoOb : (Try.prog.info? 40).map (fun i => (i.zero, i.size, i.bytes)) = some (some (.agg #[.int .i64 0, .int .i64 0, .slice none 0 0, .bool false]), 4, 48) := by kernel_rfl
/-- The objects as a row of their own. -/
theorem RRep.ownOb (h : RRep w L q M X) : ∃ xs, w.ownsRow 0 40 4 X.obv M.obs.length xs ∧ ∀ j o, M.obs[j]? = some o → ∀ r, r < 4 → xs[j * 4 + r]? = some (o.fld (X.rv j) r) := by
  rcases h.ob.1 with ⟨h1, h2⟩ | ⟨g, cap, cs, e1, e2, e3, e4, e5, e6, e7⟩
  · rw [h2, h1]
    exact ⟨[], World.ownsRow_nil _ _ _ _, by simp⟩
  · refine ⟨cs.take (M.obs.length * 4), ⟨by rw [List.length_take]; omega, .inr ⟨g, cap, cs.toArray, e1, Nat.zero_le _, e2, e4, e5, by simp [e3], rfl⟩⟩, fun j o hj r hr => ?_⟩
    have := (List.getElem?_eq_some_iff.1 hj).1
    rw [List.getElem?_take, if_pos (by omega)]
    exact e7 j o hj r hr
theorem RRep.obvLab (h : RRep w L q M X) {g : Nat} (hg : X.obv.ownBlock = some g) : L g = some .obs := by
  rcases h.ob.1 with ⟨h1, h2⟩ | ⟨g', cap, cs, e1, e2, e3, e4, e5, e6, e7⟩
  · rw [h2] at hg; simp [Value.ownBlock] at hg
  · rw [e1] at hg
    simp only [Value.ownBlock, Option.some.injEq] at hg
    rw [← hg]; exact e6
/-- One more row of objects. -/
def withOb (L : Nat → Option Rb) (v : Value) : Nat → Option Rb := fun k => if v.ownBlock = some k then some .obs else L k
/-- An object is appended. -/
theorem RRep.growOb (h : RRep w L q M X) {w1 : World} {v' : Value} {xs : List Value} {a b : Int} (ho : Only X.obv.ownBlock.toList w w1) (hx : ∀ j o, M.obs[j]? = some o → ∀ r, r < 4 → xs[j * 4 + r]? = some (o.fld (X.rv j) r))
    (hown : w1.ownsRow 0 40 4 v' (M.obs.length + 1) (xs ++ [.int .i64 a, .int .i64 b, .slice none 0 0, .bool false])) (hb : v'.ownBlock = X.obv.ownBlock ∨ ∃ k, v'.ownBlock = some k ∧ w.heap.size ≤ k) (r : Value) :
    RDid w L q r { M with obs := M.obs ++ [⟨a, b, [], false⟩] } (.returned r) (w1.setCell ⟨q, 2, none⟩ v') := by
  have hLk : ∀ k, L k ≠ none → withOb L v' k = L k := fun k hk => by
    unfold withOb
    by_cases e : v'.ownBlock = some k
    · rw [if_pos e]
      rcases hb with h1 | ⟨k', h1, h2⟩
      · rw [h1] at e; exact (h.obvLab e).symm
      · rw [h1] at e; cases e; have := h.lt k hk; omega
    · rw [if_neg e]
  have hLn : ∀ k, withOb L v' k ≠ none → L k ≠ none ∨ w.heap.size ≤ k := fun k hk => by
    unfold withOb at hk
    by_cases e : v'.ownBlock = some k
    · rcases hb with h1 | ⟨k', h1, h2⟩
      · rw [h1] at e; exact .inl (by rw [h.obvLab e]; simp)
      · rw [h1] at e; cases e; exact .inr h2
    · rw [if_neg e] at hk; exact .inl hk
  have hO1 : OnlyP (fun k => L k = some .obs) w w1 := ho.toP (fun x hx => .inl (by
    cases e : X.obv.ownBlock with
    | none => rw [e] at hx; simp at hx
    | some g => rw [e] at hx; simp at hx; rw [hx]; exact h.obvLab e))
  have hO : OnlyP (fun k => L k = some .obs ∨ L k = some .mem) w (w1.setCell ⟨q, 2, none⟩ v') := (hO1.trans (OnlyP.refl (fun _ => False) w1) (fun x hx => hx.elim) |> fun y => ⟨y.os, y.tape, y.output, y.size, fun k hk hF => y.block k hk (fun z => hF (.inl z))⟩ : OnlyP (fun k => L k = some .obs ∨ L k = some .mem) w w1).set (.inl (.inr h.Lm)) v'
  have hne : ∀ k ℓ, ℓ ≠ Rb.obs → ℓ ≠ Rb.mem → (L k = some .obs ∨ L k = some .mem) → L k ≠ some ℓ := fun k ℓ h1 h2 hk e => by
    rcases hk with hk | hk
    · rw [hk] at e; cases e; exact h1 rfl
    · rw [hk] at e; cases e; exact h2 rfl
  obtain ⟨T1, m1⟩ := h.mem
  obtain ⟨T2, c2, m2, n2⟩ := h.sr
  obtain ⟨T3, c3, m3, n3⟩ := h.pr
  have hro : ∀ k, (L k = some .obs ∨ L k = some .mem) → ¬ L k = some .ro := fun k hk => hne k .ro (by simp) (by simp) hk
  have hvl : ∀ k, v'.ownBlock = some k → k < w1.heap.size ∧ k ≠ q := fun k hk => by
    refine ⟨(World.ownsRow.lt hown k hk).2, fun e => ?_⟩
    rcases hb with h1 | ⟨k', h1, h2⟩
    · rw [h1] at hk; have := h.obvLab hk; rw [e, h.Lm] at this; cases this
    · rw [h1] at hk; cases hk; have := h.lt q (by rw [h.Lm]; simp); omega
  refine ⟨rfl, withOb L v', { X with obv := v', rv := upd X.rv M.obs.length (.slice none 0 0) }, ⟨fun k hk => ?_, ⟨T1, ?_⟩, rlab_of hLk h.Lm, h.sz.onlyP hO (fun g hg y => hro g y (h.Ls g hg)), fun g hg => rlab_of hLk (h.Ls g hg), ⟨T2, c2, hO.row m2 (fun y => hne _ .stk (by simp) (by simp) y h.Lsg), n2⟩, rlab_of hLk h.Lsg,
    fun t ht => ⟨(h.st t ht).1.onlyP hO (fun g hg y => hro g y ((h.st t ht).2 g hg)), fun g hg => rlab_of hLk ((h.st t ht).2 g hg)⟩, ⟨.inr ?_, ?_⟩, ⟨T3, c3, hO.row m3 (fun y => hne _ .por (by simp) (by simp) y h.Lpg), n3⟩, rlab_of hLk h.Lpg⟩, hLn, ⟨hO.os, hO.tape, hO.output, hO.size, fun k hk hF => hO.block k hk (fun z => hF (by rcases z with z | z <;> (rw [z]; simp)))⟩⟩
  · have hs : (w1.setCell ⟨q, 2, none⟩ v').heap.size = w1.heap.size := by simp [World.setCell]
    rw [hs]
    unfold withOb at hk
    by_cases e : v'.ownBlock = some k
    · exact (hvl k e).1
    · rw [if_neg e] at hk; exact Nat.lt_of_lt_of_le (h.lt k hk) hO1.size
  · exact (hO1.row m1 (fun y => by rw [h.Lm] at y; cases y)).set 2 v'
  · rcases hown.2 with ⟨_, h2⟩ | ⟨g, cap, cur, hv, hg, hh, hc, hm, hs, ht⟩
    · omega
    · have hgl : withOb L v' g = some .obs := by unfold withOb; rw [if_pos (by rw [hv]; rfl)]
      have hgq : g ≠ q := (hvl g (by rw [hv]; rfl)).2
      have hxl : xs.length = M.obs.length * 4 := by have := hown.1; simp at this; omega
      refine ⟨g, cap, cur.toList, by rw [hv]; simp, (show Row w1 g 40 cur.toList by unfold Row; rw [hh]).other (Ne.symm hgq) _, by simp [hs], by simpa using hc, hm, hgl, fun j o hj r hr => ?_⟩
      have hjl := (List.getElem?_eq_some_iff.1 hj).1
      simp only [List.length_append, List.length_singleton] at hjl
      have h1 : cur.toList[j * 4 + r]? = (cur.toList.take ((M.obs.length + 1) * 4))[j * 4 + r]? := by rw [List.getElem?_take, if_pos (by omega)]
      rw [h1, ht]
      by_cases e : j < M.obs.length
      · rw [List.getElem?_append_left e] at hj
        rw [List.getElem?_append_left (by omega)]
        show _ = some (o.fld (upd X.rv M.obs.length _ j) r)
        rw [upd_other _ _ (by omega)]
        exact hx j o hj r hr
      · obtain rfl : j = M.obs.length := by omega
        rw [List.getElem?_append_right (by omega)] at hj
        simp at hj
        subst hj
        rw [List.getElem?_append_right (by omega), hxl]
        show _ = some (Ob.fld _ (upd X.rv M.obs.length _ M.obs.length) r)
        rw [upd_same, show M.obs.length * 4 + r - M.obs.length * 4 = r by omega]
        match r, hr with
        | 0, _ => rfl
        | 1, _ => rfl
        | 2, _ => rfl
        | 3, _ => rfl
  · intro j o hj
    show Ints _ 0 (upd X.rv M.obs.length _ j) o.refs ∧ ∀ g, (upd X.rv M.obs.length _ j).ownBlock = some g → withOb L v' g = some .ro
    have hjl := (List.getElem?_eq_some_iff.1 hj).1
    simp only [List.length_append, List.length_singleton] at hjl
    by_cases e : j < M.obs.length
    · rw [List.getElem?_append_left e] at hj
      rw [upd_other _ _ (by omega)]
      have h8 := h.ob.2 j o hj
      exact ⟨h8.1.onlyP hO (fun g hg y => hro g y (h8.2 g hg)), fun g hg => rlab_of hLk (h8.2 g hg)⟩
    · obtain rfl : j = M.obs.length := by omega
      rw [List.getElem?_append_right (by omega)] at hj
      simp at hj
      subst hj
      rw [upd_same]
      exact ⟨World.ownsRow_nil _ _ _ _, fun g hg => by simp [Value.ownBlock] at hg⟩
/-- What Alloc refuses. -/
theorem ralloc_bad (w : World) (h : RRep w L q M X) (t b : Int) (hb : (isT t && decide (1 ≤ b ∧ b ≤ 8)) = false) : Calls Try.prog 76 #[.pointer (some ⟨q, 0, none⟩), .int .i64 t, .int .i64 b] w (Exact w (.tuple #[.int .i64 0, .int .i64 1])) := by
  refine calls_abs fun R hR => ?_
  have hi := risThread_rep w h t
  cases hT : isT t
  · rw [hT] at hi
    clear hT hb h
    go_enter Try.func76, Try.ntmps76
    go_wp2_with fail
    refine hi.mono ?_
    rintro e _ ⟨rfl, rfl⟩
    go_wp2_with fail
    exact hR.out _ _ ⟨rfl, rfl⟩
  · rw [hT] at hi hb
    have hb2 : b < 1 ∨ 8 < b := by simp at hb; omega
    clear hT hb h
    rcases hb2 with hb2 | hb2
    · go_enter Try.func76, Try.ntmps76
      go_wp2_with fail
      refine hi.mono ?_
      rintro e _ ⟨rfl, rfl⟩
      go_wp2_with fail
      exact hR.out _ _ ⟨rfl, rfl⟩
    · have hb3 : ¬ b < 1 := by omega
      go_enter Try.func76, Try.ntmps76
      go_wp2_with fail
      refine hi.mono ?_
      rintro e _ ⟨rfl, rfl⟩
      go_wp2_with fail
      exact hR.out _ _ ⟨rfl, rfl⟩
theorem ralloc_in (w : World) (h : RRep w L q M X) (hok : M.Ok) (t : Nat) (ht : t < 5) (b : Int) (hb1 : 1 ≤ b) (hb8 : b ≤ 8) :
    Calls Try.prog 76 #[.pointer (some ⟨q, 0, none⟩), .int .i64 t, .int .i64 b] w (RDidN w L q (M.alloc t b)) := by
  refine calls_abs fun R hR => ?_
  have hi := risThread_rep w h t
  have hTt : isT (t : Int) = true := by unfold isT; simp; omega
  rw [hTt] at hi
  have hcu := rcurrent_rep w h hok t
  have hcv : M.current t = (top (M.stk t), 0) := by unfold Sc.current; rw [hTt]; rfl
  rw [hcv] at hcu
  have hta := hok.sa t ht _ (top_mem (hok.s1 t ht).1)
  have hd0 : Hid (M.alloc t b = if M.roomN (top (M.stk t)) < b then (0, 14, M) else if 500 ≤ M.obs.length then (0, 2, M) else ((M.obs.length : Int) + 1, 0, { M with obs := M.obs ++ [⟨top (M.stk t), b, [], false⟩] })) := by
    show _ = _; unfold Sc.alloc; rw [hTt]; simp [hb1, hb8]
  obtain ⟨a, ha⟩ : ∃ z, z = top (M.stk t) := ⟨_, rfl⟩
  rw [← ha] at hd0 hcu hta
  have hrm : ∀ n, Calls Try.prog 68 #[.pointer (some ⟨q, 0, none⟩), .int .i64 a] (w.drewN n) (Exact (w.drewN n) (.tuple #[.int .i64 (M.room a).1, .int .i64 (M.room a).2])) := fun n => rroom_rep _ (h.drewN n) hok a
  have hrv : M.room a = (M.roomN a, 0) := by unfold Sc.room; rw [isA_of hta]; rfl
  rw [hrv] at hrm
  have H := Lib.hid h
  have hob := hok.ob
  have m2 := h.cells.2.2.1
  have hqs := h.lt q (by rw [h.Lm]; simp)
  obtain ⟨fT, hfr⟩ := h.mem
  have f2 := hfr.free 2
  obtain ⟨va, vc, hv⟩ := h.ob.len
  rw [hv] at m2
  have HV := Lib.hid hv
  obtain ⟨ol, hol⟩ : ∃ z, z = M.obs.length := ⟨_, rfl⟩
  rw [← hol] at hd0 m2 hob
  have HOL := Lib.hid hol
  generalize M.roomN a = rm at *
  have hrmd := Lib.hid hrm
  have hb9 : ¬ b < 1 := by omega
  have hb10 : ¬ 8 < b := by omega
  clear h hok hTt hcv hrv hfr hv hol hta ha hrm
  by_cases h1 : rm < b
  · have hr : Hid (M.alloc t b = (0, 14, M)) := by show _ = _; rw [hd0.out, if_pos h1]
    clear hd0
    go_enter Try.func76, Try.ntmps76
    go_wp2_with fail
    refine hi.mono ?_
    rintro e _ ⟨rfl, rfl⟩
    go_wp2_with fail
    refine hcu.mono ?_
    rintro e _ ⟨rfl, ⟨nd, rfl⟩⟩
    go_wp2_with fail
    refine (hrmd.out nd).mono ?_
    rintro e _ ⟨rfl, rfl⟩
    go_wp2_with fail
    refine hR.out _ _ ?_
    unfold RDidN
    rw [hr.out]
    exact rdid_none H.out ⟨nd, rfl⟩
  · by_cases h2 : 500 ≤ ol
    · have hr : Hid (M.alloc t b = (0, 2, M)) := by show _ = _; rw [hd0.out, if_neg h1, if_pos h2]
      clear hd0
      go_enter Try.func76, Try.ntmps76
      go_wp2_with fail
      refine hi.mono ?_
      rintro e _ ⟨rfl, rfl⟩
      go_wp2_with fail
      refine hcu.mono ?_
      rintro e _ ⟨rfl, ⟨nd, rfl⟩⟩
      go_wp2_with fail
      refine (hrmd.out nd).mono ?_
      rintro e _ ⟨rfl, rfl⟩
      go_wp2_with fail
      refine hR.out _ _ ?_
      unfold RDidN
      rw [hr.out]
      exact rdid_none H.out ⟨nd, rfl⟩
    · have hr : Hid (M.alloc t b = ((ol : Int) + 1, 0, { M with obs := M.obs ++ [⟨a, b, [], false⟩] })) := by show _ = _; rw [hd0.out, if_neg h1, if_neg h2]
      obtain ⟨i0, hi0, hz0, hz1, hz2⟩ := info_parts infoOb
      have I0 := Lib.hid hi0
      have I1 := Lib.hid hz0
      have I2 := Lib.hid hz1
      have I3 := Lib.hid hz2
      clear hd0 hi0 hz0 hz1 hz2
      go_enter Try.func76, Try.ntmps76
      go_wp2_with fail
      refine hi.mono ?_
      rintro e _ ⟨rfl, rfl⟩
      go_wp2_with fail
      refine hcu.mono ?_
      rintro e _ ⟨rfl, ⟨nd, rfl⟩⟩
      go_wp2_with fail
      refine (hrmd.out nd).mono ?_
      rintro e _ ⟨rfl, rfl⟩
      have HW : Hid (RRep (w.drewN nd) L q M X) := H.out.drewN nd
      have HDW : Hid (Drew w (w.drewN nd)) := ⟨nd, rfl⟩
      have m3 : (w.drewN nd).cell? ⟨q, 2, none⟩ = some (.slice va ol vc) := by simpa using m2
      have f3 : (w.drewN nd).frozen? ⟨q, 2, none⟩ = false := by simpa using f2
      obtain ⟨wd, hwd⟩ : ∃ z, z = w.drewN nd := ⟨_, rfl⟩
      rw [← hwd] at HW HDW m3 f3 ⊢
      clear hwd m2 f2
      obtain ⟨xs, hown, hxs⟩ := HW.out.ownOb
      rw [HV.out, ← HOL.out] at hown
      have HOWN := Lib.hid hown
      have HXS := Lib.hid hxs
      clear hown hxs
      go_wp2_with (at_builtin; refine wpList_append_own2 rfl _ _ 30 rfl 0 40 i0 _ 4 48 Try.underlying30 I0.out I1.out I2.out I3.out rfl (by omega) (.slice va ol vc) ol _ rfl (HOWN.out.alloc _) ⟨wd.heap.size, 0, none⟩ 1 1 [.int .i64 a, .int .i64 b, .slice none 0 0, .bool false] rfl rfl ?_ ?_ ?_ ?_ ?_ ?_)
      · exact World.news_of_block (cs := #[.int .i64 a, .int .i64 b, .slice none 0 0, .bool false]) (t := 40) (fr := (0, 0)) (heap_alloc_new wd _)
      · simp [Value.oneCell']
      · simp only [maxLen]; omega
      · omega
      · simp
      · intro v' w1 hown1 hgrow1 hnil hblk
        have ho1 : Only (Value.slice va ol vc).ownBlock.toList wd w1 := ((Only.refl _ wd).alloc _).grown hgrow1 (fun j hj => .inl (by rw [hj]; simp))
        have hb' : v'.ownBlock = X.obv.ownBlock ∨ ∃ k, v'.ownBlock = some k ∧ wd.heap.size ≤ k := by
          rw [HV.out, ← HOL.out]
          rcases hblk with e | e
          · exact .inl e
          · exact .inr ⟨_, e, by simp⟩
        have hqn : q ∉ (Value.slice va ol vc).ownBlock.toList := by
          intro hx
          cases e : (Value.slice va ol vc).ownBlock with
          | none => rw [e] at hx; simp at hx
          | some g => rw [e] at hx; simp at hx; subst hx; have := HW.out.obvLab (g := q) (by rw [HV.out, ← HOL.out]; exact e); rw [HW.out.Lm] at this; cases this
        have m4 : w1.cell? ⟨q, 2, none⟩ = some (.slice va ol vc) := ho1.cell m3 hqn
        have f4 : w1.frozen? ⟨q, 2, none⟩ = false := by
          obtain ⟨T, hrw⟩ := HW.out.mem
          exact (ho1.row hrw hqn).free 2
        have hv1 : ∃ g cap, v' = .slice (some ⟨g, 0, none⟩) (ol + 1) cap := by
          rcases hown1.2 with ⟨_, h2⟩ | ⟨g, cap, cur, hv, hg, _⟩
          · omega
          · exact ⟨g, cap, hv⟩
        obtain ⟨g, cap, rfl⟩ := hv1
        have hfin : Hid (RDid wd L q (.tuple #[.int .i64 (ol + 1), .int .i64 0]) { M with obs := M.obs ++ [⟨a, b, [], false⟩] } (.returned (.tuple #[.int .i64 (ol + 1), .int .i64 0])) (w1.setCell ⟨q, 2, none⟩ (.slice (some ⟨g, 0, none⟩) (ol + 1) cap))) := by
          refine HW.out.growOb (by rw [HV.out, ← HOL.out]; exact ho1) HXS.out ?_ hb' _
          rw [← HOL.out]
          exact hown1
        clear hown1 hgrow1 hnil hblk ho1 hb' hqn
        go_wp2_with fail
        refine hR.out _ _ ?_
        unfold RDidN
        rw [hr.out]
        obtain ⟨_, L2, X2, r1, r2, r3⟩ := hfin.out
        obtain ⟨nw, rfl⟩ := HDW.out
        refine ⟨by go_num, L2, X2, r1, fun k hk => by simpa using r2 k hk, ((OnlyP.refl _ w).drewN nw).trans r3 (fun x hx => .inl hx)⟩
theorem ralloc_rep (w : World) (h : RRep w L q M X) (hok : M.Ok) (t b : Int) :
    Calls Try.prog 76 #[.pointer (some ⟨q, 0, none⟩), .int .i64 t, .int .i64 b] w (RDidN w L q (M.alloc t b)) := by
  cases hb : (isT t && decide (1 ≤ b ∧ b ≤ 8))
  · refine (ralloc_bad w h t b hb).mono ?_
    rintro e _ ⟨rfl, rfl⟩
    have hr : M.alloc t b = (0, 1, M) := by unfold Sc.alloc; rw [hb]; rfl
    rw [hr]
    exact rdid_none h (Drew.refl _)
  · simp only [Bool.and_eq_true, decide_eq_true_eq] at hb
    obtain ⟨n, rfl, hn⟩ := isT_nat hb.1
    exact ralloc_in w h hok n hn b hb.2.1 hb.2.2
end
end Go.Proofs.Ytbjmgbbggbbidaa
