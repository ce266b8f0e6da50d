/- Lemmas of this claim. -/
import Derived.Test.YthflghdaejbdkaaGreatXfObjD
import Derived.OwnWalk
namespace Go.Proofs.YthflghdaejbdkaaGreat
open Go.RowKit Go.Maps
set_option maxHeartbeats 3200000
set_option maxRecDepth 100000
set_option linter.unusedVariables false
def BArg (w : World) (v : Value) (l : List Bool) : Prop :=
  (v = .slice none 0 0 ∧ l = []) ∨ ∃ ad c, v = .slice (some ad) l.length c ∧ ∀ i, i < l.length → w.cell? (ad.add i) = some (.bool (gB l i))
theorem BArg.only {w w' : World} {v : Value} {l : List Bool} (h : BArg w v l) (ho : Only [] w w') : BArg w' v l := by
  rcases h with h | ⟨ad, c, h1, h2⟩
  · exact .inl h
  · exact .inr ⟨ad, c, h1, fun i hi => ho.cell (h2 i hi) (by simp)⟩
theorem BArg.len {w : World} {v : Value} {l : List Bool} (h : BArg w v l) : ∃ a c, v = .slice a l.length c := by
  rcases h with ⟨h1, h2⟩ | ⟨ad, c, h1, h2⟩
  · exact ⟨none, 0, by rw [h1, h2]; rfl⟩
  · exact ⟨_, _, h1⟩
theorem clone_barg (w : World) (v : Value) (l : List Bool) (h : BArg w v l) (hl : l.length ≤ 1000000) :
    Calls Tryz.prog 165 #[v] w fun e w' => ∃ v', e = .returned v' ∧ Bls w' w.heap.size v' l ∧ Only [] w w' := by
  rcases h with ⟨rfl, rfl⟩ | ⟨ad, c, rfl, hc⟩
  · exact (clone_bnil w).mono (fun e w' ⟨h1, h2⟩ => ⟨_, h1, Bls.nil _ _, h2 ▸ Only.refl _ _⟩)
  · obtain ⟨n, hn⟩ : ∃ n, n = l.length := ⟨_, rfl⟩
    rw [← hn] at hc hl ⊢
    have hq := fun (wx : World) => Lib.run_eql_slice_nil (P := Tryz.prog) wx 50 4 (some ad) n c 0 0 Tryz.underlying50
    have HL := Lib.hid hn
    have HC := Lib.hid hc
    clear hn hc
    refine calls_abs fun R hR => ?_
    go_enter Tryz.func165, Tryz.ntmps165
    go_wp2_with (at_builtin; refine append_bls rfl _ _ rfl w.heap.size _ _ rfl (Bls.made w) ad n c l rfl ?_ ?_ ?_ ?_ ?_)
    · exact HL.out.symm
    · intro j u hu
      have hj : j < n := by have := (List.getElem?_eq_some_iff.1 hu).1; have := HL.out; omega
      have h1 := HC.out j hj
      rw [((Only.refl [] w).alloc _).cell h1 (by simp), gB, hu]
      rfl
    · simp; omega
    · simp
    · intro v w1 hv ho hn hblk
      clear hn
      go_wp2_with fail
      exact hR.out _ _ ⟨v, rfl, hv, ((Only.refl _ _).alloc _).trans ho (fun x hx => .inr (by simp [Value.ownBlock] at hx; omega))⟩
section
variable {L : Nat → Option Lb} {hb : Nat} {M : Hp} {X : HX}
theorem newObject_rep (w : World) (h : HRep w L hb M X) (hk : M.Ok) (c : Int) (v : Value) (l : List Bool) (hv : BArg w v l) (hl : l.length ≤ 1000000) :
    Calls Tryz.prog 82 #[.pointer (some ⟨hb, 0, none⟩), .int .i64 c, v] w (HDid w L hb (.tuple #[.int .i64 (M.newObject c l).1, .int .i64 (M.newObject c l).2.1]) (M.newObject c l).2.2) := by
  refine calls_abs fun R hR => ?_
  have h1 := hnone_rep w h
  have hcl := clone_barg w v l hv hl
  obtain ⟨a, cp, hve⟩ := hv.len
  subst hve
  obtain ⟨n, hn⟩ : ∃ n, n = l.length := ⟨_, rfl⟩
  rw [← hn] at hcl ⊢
  by_cases hbad : c < 0 ∨ 10 ≤ c ∨ 7 < l.length
  · have hr : M.newObject c l = (0, 1, M) := by unfold Hp.newObject; rw [if_pos hbad]
    rw [hr] at hR
    have HD := Lib.hid (HDid.none (r := .tuple #[.int .i64 0, .int .i64 1]) h (Drew.refl w))
    rw [← hn] at hbad
    by_cases b1 : c < 0
    · clear h hr hbad hcl hv hn hk
      go_enter Tryz.func82, Tryz.ntmps82
      go_wp2_with fail
      refine h1.mono ?_
      rintro e _ ⟨rfl, rfl⟩
      go_wp2_with fail
      exact hR.out _ _ HD.out
    · by_cases b2 : 10 ≤ c
      · clear h hr hbad hcl hv hn hk
        go_enter Tryz.func82, Tryz.ntmps82
        go_wp2_with fail
        refine h1.mono ?_
        rintro e _ ⟨rfl, rfl⟩
        go_wp2_with fail
        exact hR.out _ _ HD.out
      · have b3 : (7 : Int) < n := by omega
        clear h hr hbad hcl hv hn hk
        go_enter Tryz.func82, Tryz.ntmps82
        go_wp2_with fail
        refine h1.mono ?_
        rintro e _ ⟨rfl, rfl⟩
        go_wp2_with fail
        exact hR.out _ _ HD.out
  · have hr : M.newObject c l = M.add (objT c l) := by unfold Hp.newObject; rw [if_neg hbad]
    rw [hr] at hR
    rw [← hn] at hbad
    have b1 : ¬ c < 0 := by omega
    have b2 : ¬ 10 ≤ c := by omega
    have b3 : ¬ (7 : Int) < n := by omega
    have hok : Hid (objT c l).ok1 := ⟨.inl ⟨rfl, by show 0 ≤ c; omega, by show c < 10; omega, by show (List.replicate l.length (0 : Int)).length ≤ 7; simp; omega⟩, by show l.length = (List.replicate l.length (0 : Int)).length; simp⟩
    have HH := Lib.hid h
    have HK := Lib.hid hk
    have HN := Lib.hid hn
    clear h hr hbad hv hn hk
    go_enter Tryz.func82, Tryz.ntmps82
    go_wp2_with fail
    refine h1.mono ?_
    rintro e _ ⟨rfl, rfl⟩
    go_wp2_with fail
    refine hcl.mono ?_
    rintro e w3 ⟨v3, rfl, hv3, ho3⟩
    obtain ⟨a3, c3, he3⟩ := hv3.len
    rw [← HN.out] at he3
    subst he3
    have hadd := add_rep (w0 := w) w3 HH.out HK.out ho3 (objT c l) hok.out _ hv3
    rw [show (objT c l).kind = 2 from rfl, show (objT c l).cls = c from rfl, show (objT c l).slots.length = n by rw [HN.out]; show (List.replicate l.length (0 : Int)).length = _; simp] at hadd
    generalize M.add (objT c l) = r at hadd hR
    obtain ⟨r1, r2, r3⟩ := r
    clear hv3 ho3 hcl
    go_wp2_with fail
    refine hadd.mono ?_
    rintro e w4 ⟨rfl, hd⟩
    have HD := Lib.hid hd
    clear hd hadd
    go_wp2_with fail
    exact hR.out _ _ ⟨rfl, HD.out⟩
theorem newArray_rep (w : World) (h : HRep w L hb M X) (hk : M.Ok) (k c n : Int) :
    Calls Tryz.prog 120 #[.pointer (some ⟨hb, 0, none⟩), .int .i64 k, .int .i64 c, .int .i64 n] w (HDid w L hb (.tuple #[.int .i64 (M.newArray k c n).1, .int .i64 (M.newArray k c n).2.1]) (M.newArray k c n).2.2) := by
  refine calls_abs fun R hR => ?_
  have h1 := hnone_rep w h
  have HD := Lib.hid (HDid.none (r := .tuple #[.int .i64 0, .int .i64 1]) h (Drew.refl w))
  by_cases hbad : n < 0 ∨ 48 < n
  · have hr : M.newArray k c n = (0, 1, M) := by unfold Hp.newArray; rw [if_pos hbad]
    rw [hr] at hR
    by_cases b1 : n < 0
    · clear h hr hbad hk
      go_enter Tryz.func120, Tryz.ntmps120
      go_wp2_with fail
      refine h1.mono ?_
      rintro e _ ⟨rfl, rfl⟩
      go_wp2_with fail
      exact hR.out _ _ HD.out
    · have b2 : 48 < n := by omega
      clear h hr hbad hk
      go_enter Tryz.func120, Tryz.ntmps120
      go_wp2_with fail
      refine h1.mono ?_
      rintro e _ ⟨rfl, rfl⟩
      go_wp2_with fail
      exact hR.out _ _ HD.out
  · have b1 : ¬ n < 0 := by omega
    have b2 : ¬ 48 < n := by omega
    by_cases hgood : (k = 3 ∧ c = 0) ∨ (k = 4 ∧ 0 ≤ c ∧ c < 10)
    · have hr : M.newArray k c n = M.add (arrT k c n.toNat) := by unfold Hp.newArray; rw [if_neg hbad, if_pos hgood]
      rw [hr] at hR
      have hln : (arrT k c n.toNat).slots.length = n.toNat := by show (List.replicate n.toNat (0 : Int)).length = _; simp
      have hok : (arrT k c n.toNat).ok1 := by
        refine ⟨?_, by show (List.replicate n.toNat _).length = (List.replicate n.toNat (0 : Int)).length; simp⟩
        rcases hgood with ⟨rfl, rfl⟩ | ⟨rfl, h1, h2⟩
        · refine .inr (.inl ⟨rfl, rfl, by rw [hln]; omega, fun s => ?_⟩)
          show gB (List.replicate n.toNat (decide ((3 : Int) = 4))) s = false
          unfold gB
          rw [List.getElem?_replicate]
          split <;> rfl
        · refine .inr (.inr ⟨rfl, h1, h2, by rw [hln]; omega, fun s hs => ?_⟩)
          show gB (List.replicate n.toNat (decide ((4 : Int) = 4))) s = true
          unfold gB
          rw [List.getElem?_replicate, if_pos (by rw [← hln]; exact hs)]
          rfl
      have hk2 : ¬ k = 2 := by omega
      have hrl : (arrT k c n.toNat).rlist = [] := by unfold Th.rlist; exact if_neg hk2
      have hadd := add_rep (w0 := w) w h hk (Only.refl _ _) (arrT k c n.toNat) hok (.slice none 0 0) (by rw [hrl]; exact Bls.nil _ _)
      rw [show (arrT k c n.toNat).kind = k from rfl, show (arrT k c n.toNat).cls = c from rfl, hln, show ((n.toNat : Nat) : Int) = n by omega] at hadd
      generalize M.add (arrT k c n.toNat) = r at hadd hR
      obtain ⟨r1, r2, r3⟩ := r
      rcases hgood with ⟨rfl, rfl⟩ | ⟨rfl, g1, g2⟩
      · clear h hr hbad hk hok hrl hln hk2
        go_enter Tryz.func120, Tryz.ntmps120
        go_wp2_with fail
        refine h1.mono ?_
        rintro e _ ⟨rfl, rfl⟩
        go_wp2_with fail
        refine hadd.mono ?_
        rintro e w4 ⟨rfl, hd⟩
        have HD := Lib.hid hd
        clear hd hadd
        go_wp2_with fail
        exact hR.out _ _ ⟨rfl, HD.out⟩
      · have g3 : ¬ c < 0 := by omega
        have g4 : ¬ 10 ≤ c := by omega
        clear h hr hbad hk hok hrl hln hk2
        go_enter Tryz.func120, Tryz.ntmps120
        go_wp2_with fail
        refine h1.mono ?_
        rintro e _ ⟨rfl, rfl⟩
        go_wp2_with fail
        refine hadd.mono ?_
        rintro e w4 ⟨rfl, hd⟩
        have HD := Lib.hid hd
        clear hd hadd
        go_wp2_with fail
        exact hR.out _ _ ⟨rfl, HD.out⟩
    · have hr : M.newArray k c n = (0, 1, M) := by unfold Hp.newArray; rw [if_neg hbad, if_neg hgood]
      rw [hr] at hR
      have HGOOD := Lib.hid hgood
      clear h hr hbad hk hgood
      go_enter Tryz.func120, Tryz.ntmps120
      go_wp2_with fail
      refine h1.mono ?_
      rintro e _ ⟨rfl, rfl⟩
      by_cases e3 : k = 3
      · have e4 : ¬ c = 0 := fun e => HGOOD.out (.inl ⟨e3, e⟩)
        subst e3
        go_wp2_with fail
        exact hR.out _ _ HD.out
      · by_cases e4 : k = 4
        · have e5 : c < 0 ∨ 10 ≤ c := by
            by_cases e6 : c < 0
            · exact .inl e6
            · by_cases e7 : 10 ≤ c
              · exact .inr e7
              · exact absurd (.inr ⟨e4, by omega, by omega⟩) HGOOD.out
          subst e4
          by_cases e6 : c < 0
          · have e7 : ¬ 0 ≤ c := by omega
            clear e5 e6
            go_wp2_with fail
            exact hR.out _ _ HD.out
          · have e7 : 0 ≤ c := by omega
            have e8 : ¬ c < 10 := by omega
            clear e5 e6
            go_wp2_with fail
            exact hR.out _ _ HD.out
        · go_wp2_with fail
          exact hR.out _ _ HD.out
theorem hpool_rep (w : World) (h : HRep w L hb M X) : Calls Tryz.prog 63 #[.pointer (some ⟨hb, 0, none⟩)] w fun e w' =>
      ∃ p' b', e = .returned (.pointer (some ⟨p', 0, none⟩)) ∧ PRep w' p' b' M.P ∧ Only [] w w' ∧ w.heap.size ≤ p' ∧ w.heap.size ≤ b' := by
  refine calls_abs fun R hR => ?_
  have h1 := hnone_rep w h
  have h2 := copy_rep w X.pp X.pb M.P h.pool
  have h3 := h.cells.1
  clear h
  go_enter Tryz.func63, Tryz.ntmps63
  go_wp2_with fail
  refine h1.mono ?_
  rintro e _ ⟨rfl, rfl⟩
  go_wp2_with fail
  refine h2.mono ?_
  rintro e w3 ⟨p', b', rfl, hp, ho, q1, q2⟩
  have HP := Lib.hid (⟨hp, ho, q1, q2⟩ : PRep w3 p' b' M.P ∧ Only [] w w3 ∧ w.heap.size ≤ p' ∧ w.heap.size ≤ b')
  clear hp ho q1 q2
  go_wp2_with fail
  exact hR.out _ _ ⟨p', b', rfl, HP.out⟩
end
end Go.Proofs.YthflghdaejbdkaaGreat
namespace Go.Proofs.YthflghdaejbdkaaGreat
open Go.RowKit Go.Maps
set_option maxHeartbeats 3200000
set_option maxRecDepth 100000
set_option linter.unusedVariables false
theorem Ints.row {w : World} {base g n cap : Nat} {l : List Int} (h : Ints w base (.slice (some ⟨g, 0, none⟩) n cap) l) : n = l.length ∧ base ≤ g ∧ ∃ cs, Row w g 3 cs ∧ cs.length = cap ∧ cs.take l.length = l.map (.int .i64) ∧ l.length ≤ cap ∧ cap ≤ maxLen := by
  rcases h.2 with ⟨h1, _⟩ | ⟨g', cap', cur, hv, hg, hh, hc, hm, hs, ht⟩
  · simp at h1
  · simp only [Value.slice.injEq, Option.some.injEq, Addr.mk.injEq] at hv
    obtain ⟨⟨rfl, _⟩, hn, rfl⟩ := hv
    exact ⟨hn, hg, cur.toList, by unfold Row; rw [hh], by simp [hs], by rw [← ht, Nat.mul_one], hc, hm⟩
theorem Ints.ofRow {w : World} {base g cap : Nat} {l : List Int} {cs : List Value} (hb : base ≤ g) (hr : Row w g 3 cs) (hl : cs.length = cap) (ht : cs.take l.length = l.map (.int .i64)) (hc : l.length ≤ cap) (hm : cap ≤ maxLen) : Ints w base (.slice (some ⟨g, 0, none⟩) l.length cap) l := by
  refine ⟨by simp, .inr ⟨g, cap, cs.toArray, rfl, hb, hr, hc, hm, by simp [hl], by simp; exact ht⟩⟩
theorem Ints.setAt {w : World} {base g n cap : Nat} {l : List Int} (h : Ints w base (.slice (some ⟨g, 0, none⟩) n cap) l) (i : Nat) (y : Int) : Ints (w.setCell ⟨g, i, none⟩ (.int .i64 y)) base (.slice (some ⟨g, 0, none⟩) n cap) (l.set i y) := by
  obtain ⟨rfl, hb, cs, hr, h1, h2, h3, h4⟩ := h.row
  have := Ints.ofRow (l := l.set i y) hb (hr.set i (.int .i64 y)) (cap := cap) (by simp [h1]) (by rw [List.length_set, List.take_set, h2, List.map_set]) (by simpa using h3) h4
  rwa [List.length_set] at this
section
variable {w w' : World} {L : Nat → Option Lb} {hb : Nat} {M : Hp} {X : HX}
theorem HRep.moved {P : Pl} {ob : Int → Option Th} (h : HRep w L hb ⟨P, ob⟩ X) {k : Int} {o : Th} (ho : ob k = some o) {g n cap : Nat} (hv : X.bv k = .slice (some ⟨g, 0, none⟩) n cap) (i : Nat) (y : Int) :
    HRep (w.setCell ⟨g, i, none⟩ (.int .i64 y)) L hb ⟨P, setT ob k (some (o.moved i y))⟩ X := by
  have hLg : L g = some (.bl k) := (h.th k o ho).Ll g (by rw [hv]; rfl)
  have hP : OnlyP (fun j => L j = some (.bl k)) w (w.setCell ⟨g, i, none⟩ (.int .i64 y)) := (OnlyP.refl _ w).set (.inl hLg) _
  have hne : ∀ j ℓ, ℓ ≠ Lb.bl k → L j = some (.bl k) → L j ≠ some ℓ := fun j ℓ h1 hk e => by rw [hk] at e; cases e; exact h1 rfl
  refine ⟨fun k hk => Nat.lt_of_lt_of_le (h.lt k hk) hP.size, ?_, h.Lm, h.pool.onlyP hP (fun y => hne _ .pool (by simp) y h.Lpp) (fun y => hne _ .pages (by simp) y h.Lpb), h.Lpp, h.Lpb, ?_, h.Lp, fun j o' hj => ?_⟩
  · obtain ⟨T, hr⟩ := h.mem
    exact ⟨T, hP.row hr (fun y => hne _ .mem (by simp) y h.Lm)⟩
  · refine (h.mp.only hP (fun y => hne _ .map (by simp) y h.Lp)).congr (fun j => ?_)
    show (ob j).map _ = (setT ob k (some (o.moved i y)) j).map _
    unfold setT
    by_cases e : j = k
    · rw [if_pos e, e, ho]; rfl
    · rw [if_neg e]
  · rcases setT_some hj with ⟨rfl, rfl⟩ | ⟨e, hj'⟩
    · obtain ⟨⟨T, h1⟩, h2, h3, h4, h5, h6⟩ := h.th j o ho
      refine ⟨⟨T, hP.row h1 (fun x => hne _ (.th j) (by simp) x h2)⟩, h2, h3.onlyP hP (fun g hgv x => hne g (.rb j) (by simp) x (h4 g hgv)), h4, ?_, h6⟩
      rw [hv] at h5 ⊢
      exact h5.setAt i y
    · exact (h.th j o' hj').only hP (fun x hx => ⟨hne x _ (by simp) hx, hne x _ (by simp) hx, hne x _ (by simp; omega) hx⟩)
theorem move_bad (he : M.P.move.2.2.1 ≠ 0) : M.move = (0, M.P.move.2.2.1, M) ∧ M.P.move.2.2.2 = M.P := by
  refine ⟨by unfold Hp.move; rw [if_neg he], ?_⟩
  cases hp : M.P.pair with
  | none => unfold Pl.move; rw [hp]
  | some ij =>
    refine absurd ?_ he
    unfold Pl.move
    rw [hp]
theorem move_nobody (he : M.P.move.2.2.1 = 0) (h : ∀ k o, M.ob k = some o → ¬ o.place M.P.move.1 < o.blocks.length) : M.move = (0, 0, ⟨M.P.move.2.2.2, M.ob⟩) := by
  unfold Hp.move
  rw [if_pos he]
  by_cases hl : M.owner M.P.move.1 < 192
  · have := (fst_spec (fun k => M.owns M.P.move.1 ((k : Int) + 1)) 192).2 hl
    obtain ⟨o, h1, h2⟩ := Hp.owns_iff.1 this
    exact absurd h2 (h _ o h1)
  · rw [decide_eq_false hl]
    split
    · rename_i h1; cases h1
    · rfl
theorem move_owner (hk : M.Ok) (he : M.P.move.2.2.1 = 0) {k : Int} {o : Th} (ho : M.ob k = some o) (h : o.place M.P.move.1 < o.blocks.length) : M.move = (k, 0, Hp.moveAt M.P.move.2.2.2 M.ob k o (o.place M.P.move.1) M.P.move.2.1) := by
  obtain ⟨h1, h2⟩ := hk.owner_eq ho h
  unfold Hp.move
  rw [if_pos he, h2, ho, decide_eq_true h1]
theorem hmove_rep (w : World) (h : HRep w L hb M X) (hk : M.Ok) :
    Calls Tryz.prog 309 #[.pointer (some ⟨hb, 0, none⟩)] w (HDid w L hb (.tuple #[.int .i64 M.move.1, .int .i64 M.move.2.1]) M.move.2.2) := by
  refine calls_abs fun R hR => ?_
  have h1 := hnone_rep w h
  have c0 := h.cells.1
  have hmv := move_rep w X.pp X.pb M.P h.pool
  obtain ⟨fr, hfr⟩ : ∃ z, z = M.P.move.1 := ⟨_, rfl⟩
  obtain ⟨to, hto⟩ : ∃ z, z = M.P.move.2.1 := ⟨_, rfl⟩
  obtain ⟨er, her⟩ : ∃ z, z = M.P.move.2.2.1 := ⟨_, rfl⟩
  obtain ⟨Q, hQ⟩ : ∃ z, z = M.P.move.2.2.2 := ⟨_, rfl⟩
  rw [← hfr, ← hto, ← her, ← hQ] at hmv
  have H := Lib.hid h
  have HK := Lib.hid hk
  have HFR := Lib.hid hfr
  have HTO := Lib.hid hto
  have HER := Lib.hid her
  have HQ := Lib.hid hQ
  clear h hk hfr hto her hQ
  go_enter Tryz.func309, Tryz.ntmps309
  go_wp2_with fail
  refine h1.mono ?_
  rintro e _ ⟨rfl, rfl⟩
  clear h1
  go_wp2_with fail
  refine hmv.mono ?_
  rintro e w3 ⟨rfl, hp3, ho3⟩
  have HREP3 := Lib.hid (H.out.poolTurn ho3 hp3 (ob' := M.ob) (fun _ => rfl) (fun k o' h2 => ⟨o', h2, Th.Shape.refl _⟩))
  have HO3 : Hid (OnlyP (fun k => L k ≠ none) w w3) := ho3.toP (fun y hy => .inl (by simp at hy; rw [hy, H.out.Lpb]; simp))
  clear hmv hp3 ho3 c0
  by_cases he : er = 0
  · subst he
    obtain ⟨D0, hown, hdat0⟩ := HREP3.out.mp
    have hdat : DatIs D0 (fun k => (M.ob k).map fun _ => X.blk k) := hdat0
    have HD := Lib.hid hdat
    have c1 := HREP3.out.cells.2.1
    obtain ⟨mb, hmb⟩ : ∃ m, m = X.mb := ⟨_, rfl⟩
    rw [← hmb] at c1 hown
    have OWN := Lib.hid hown
    clear hdat hdat0 hown hmb
    go_wp2_with (at_range; refine wpList_range_own _ rfl _ 173 rfl 3 172 keyedI Tryz.underlying173 ptrElem mb 192 D0 rfl OWN.out ?_; intro w0 hrg0 hg0 hs0)
    go_frame
    have Q0 : Only [] w3 w0 := (Only.refl [] w3).grown hg0 (fun k hk => by cases hk)
    clear c1
    go_loopw [7] (fun _ wr => ∃ left cnt, wr.ranges Tryz.prog 3 ptrElem mb w3.heap.size 192 D0 left cnt ∧ Hid (∀ k o, wfI k → M.ob k = some o → left (.int .i64 k) = false → ¬ o.place fr < o.blocks.length) ∧ Only [] w3 wr) (fun _ wr => wr.rangeLeft mb w3.heap.size)
    case atStart =>
      refine ⟨_, _, hrg0, fun k o hk h3 h4 => ?_, Q0⟩
      rw [(HD.out k hk).1] at h4
      simp [h3] at h4
    case round =>
      clear hrg0 hg0 hs0 Q0
      obtain ⟨left, cnt, hrg, HF, hO⟩ := hrel
      have HRG := Lib.hid hrg
      have HO := Lib.hid hO
      clear hrg hO
      go_wp2_with (at_next; refine wpList_next_things rfl _ rfl mb w3.heap.size 192 D0 left cnt _ HD.out rfl HRG.out ?_ ?_)
      · intro _ hl0
        have HM : Hid (True → M.move = (0, 0, ⟨M.P.move.2.2.2, M.ob⟩)) := fun _ => move_nobody HER.out.symm (fun k o ho => by
          rw [← HFR.out]
          have := HK.out.hr k o ho
          exact HF.out k o (wfI_mk (by omega)) ho (hl0 _))
        clear hl0
        go_wp2_with fail
        refine hR.out _ _ ?_
        rw [HM.out trivial]
        refine ⟨rfl, L, X, ?_, fun k hk => .inl hk, (HO3.out.trans (HO.out.toP0 (S := fun _ => False)) (fun x hx => hx.elim))⟩
        show HRep _ L hb ⟨M.P.move.2.2.2, M.ob⟩ X
        rw [← HQ.out]
        exact HREP3.out.only0 HO.out
      · intro k c w1 cnt1 hwk hlk t ht hc hrg1 hlt hg1 hs1 hen
        have QO1 : Hid (Only [] w3 w1) := HO.out.grown hg1 (fun j hj => by cases hj; exact .inr (Nat.le_refl _))
        have hrep := HREP3.out.only0 QO1.out
        have hth := hrep.th k t ht
        obtain ⟨hb1, hb2, _⟩ := HK.out.blen ht
        obtain ⟨g, cap, eb, hcb⟩ := hth.bl.cellsOf hb1
        have c4 := hth.cells.2.2.2.2
        rw [hc, eb] at c4
        have hix := index_listI w1 (X.bv k) t.blocks hth.bl.read (by omega) fr
        rw [eb] at hix
        obtain ⟨nb, hnb⟩ : ∃ n, n = t.blocks.length := ⟨_, rfl⟩
        rw [← hnb] at c4 hix hcb hb1 hb2 eb
        have HNB := Lib.hid hnb
        have hmeas : cnt1 < wr.rangeLeft mb w3.heap.size := by rw [HRG.out.left_eq]; exact hlt
        have HR1 := Lib.hid hrg1
        have HWK : Hid (wfI k) := hwk
        have HT := Lib.hid ht
        have HREP := Lib.hid hrep
        have HEB := Lib.hid eb
        have HC := Lib.hid hc
        have HSTEP : Hid (¬ t.place fr < t.blocks.length → ∀ j o, wfI j → M.ob j = some o → (left (.int .i64 j) && !(Lit.int .i64 j).sameKey (.int .i64 k)) = false → ¬ o.place fr < o.blocks.length) := fun e0 j o hj e1 e2 => by
          by_cases e : j = k
          · subst e; rw [ht] at e1; cases e1; exact e0
          · refine HF.out j o hj e1 ?_
            rw [sameI j k hwk] at e2
            simp [e] at e2
            exact e2
        by_cases hpl : t.place fr < t.blocks.length
        · have hi : idx (fun i => gI t.blocks i == fr) nb = ((t.place fr : Nat) : Int) := by rw [hnb]; exact idx_yes hpl
          rw [hi] at hix
          obtain ⟨pl, hple⟩ : ∃ z, z = t.place fr := ⟨_, rfl⟩
          rw [← hple] at hix
          have hplb : pl < nb := by rw [hple, hnb]; exact hpl
          have hpl0 : (0 : Int) ≤ pl := by omega
          have hpli : (pl : Int) < nb := by omega
          have HMV : Hid (True → M.move = (k, 0, Hp.moveAt M.P.move.2.2.2 M.ob k t (t.place M.P.move.1) M.P.move.2.1)) := fun _ => move_owner HK.out HER.out.symm ht (by rw [← HFR.out]; exact hpl)
          have HPL := Lib.hid hple
          have cp := hcb pl hplb
          have fg : ∀ i, w1.frozen? ⟨g, i, none⟩ = false := fun i => by
            have := hth.bl
            rw [eb] at this
            obtain ⟨_, _, cs, hr, _⟩ := this.row
            exact hr.free i
          have fgp := fg pl
          have HREP2 : Hid (HRep (w1.setCell ⟨g, pl, none⟩ (.int .i64 to)) L hb ⟨Q, setT M.ob k (some (t.moved pl to))⟩ X) := hrep.moved ht eb pl to
          have HLG : Hid (L g = some (.bl k)) := hth.Ll g (by rw [eb]; rfl)
          have HLC : Hid (L c = some (.th k)) := by have := hth.Lth; rw [hc] at this; exact this
          have HO2 : Hid (OnlyP (fun j => L j ≠ none) w (w1.setCell ⟨g, pl, none⟩ (.int .i64 to))) := (HO3.out.trans (QO1.out.toP0 (S := fun _ => False)) (fun x hx => hx.elim)).set (.inl (by show L g ≠ none; rw [HLG.out]; simp)) _
          by_cases hz : pl = 0
          · subst hz
            have HRT : Hid (True → Hp.moveAt M.P.move.2.2.2 M.ob k t (t.place M.P.move.1) M.P.move.2.1 = ⟨Q, setT M.ob k (some (t.moved 0 to))⟩) := fun _ => by
              unfold Hp.moveAt
              rw [← HFR.out, ← HPL.out, if_pos rfl, ← HQ.out, ← HTO.out]
            clear hi hpl hrg1 hlk hlt hg1 hs1 hc hrep hth hwk ht hnb eb hple hcb fg
            go_wp2_with fail
            refine hix.mono ?_
            rintro e _ ⟨rfl, rfl⟩
            go_wp2_with fail
            refine hR.out _ _ ?_
            rw [HMV.out trivial, HRT.out trivial]
            exact ⟨rfl, L, X, HREP2.out, fun k hk => .inl hk, HO2.out⟩
          · have hz1 : (0 : Int) < pl := by omega
            have hcell0 : (w1.setCell ⟨g, pl, none⟩ (.int .i64 to)).cell? ⟨g, 0, none⟩ = some (.int .i64 (gI t.blocks 0)) := by
              rw [World.cell?_setCell_other _ _ _ _ (by intro e; have := congrArg Addr.off e; simp only at this; omega)]
              exact hcb 0 (by omega)
            have hr0 := HK.out.blkRange ht (m := 0) (by omega)
            obtain ⟨a0, ha0⟩ : ∃ z, z = gI t.blocks 0 := ⟨_, rfl⟩
            rw [← ha0] at hcell0 hr0
            have HA0 := Lib.hid ha0
            obtain ⟨hr01, hr02⟩ := hr0
            have hb7 : (pl : Int) ≤ 7 := by omega
            have HRT : Hid (True → Hp.moveAt M.P.move.2.2.2 M.ob k t (t.place M.P.move.1) M.P.move.2.1 = ⟨(Q.setCell (a0 + (pl : Int)) to).2, setT M.ob k (some (t.moved pl to))⟩) := fun _ => by
              unfold Hp.moveAt
              rw [← HFR.out, ← HPL.out, if_neg hz, ← HQ.out, ← HTO.out, ← HA0.out]
            clear hi hpl hrg1 hlk hlt hg1 hs1 hc hrep hth hwk ht hnb eb hple hcb fg ha0
            go_wp2_with fail
            refine hix.mono ?_
            rintro e _ ⟨rfl, rfl⟩
            go_wp2_with fail
            have d4' : (w1.setCell ⟨g, pl, none⟩ (.int .i64 to)).cell? ⟨c, 4, none⟩ = some (.slice (some ⟨g, 0, none⟩) nb cap) := by
              rw [World.cell?_setCell_other _ _ _ _ (by simp; rintro rfl; have := HLC.out; rw [HLG.out] at this; cases this)]
              exact c4
            have hn0 : 0 < nb := by omega
            have hn1 : (0 : Int) < (nb : Int) := by omega
            clear c4 cp hix fgp hen HR1 HRG HO HF HSTEP
            generalize hw2 : w1.setCell ⟨g, pl, none⟩ (.int .i64 to) = w2 at *
            clear hw2
            have d0 : w2.drew.cell? ⟨hb, 0, none⟩ = some (.pointer (some ⟨X.pp, 0, none⟩)) := HREP2.out.cells.1
            have d4 : w2.drew.cell? ⟨c, 4, none⟩ = some (.slice (some ⟨g, 0, none⟩) nb cap) := d4'
            have dg : w2.drew.cell? ⟨g, 0, none⟩ = some (.int .i64 a0) := hcell0
            have HST := Lib.hid (setCell_rep w2.drew X.pp X.pb Q HREP2.out.drew.pool (a0 + (pl : Int)) to)
            have n0 : hb ∉ [X.pb] := by simp; rintro rfl; have := HREP2.out.Lm; rw [HREP2.out.Lpb] at this; cases this
            have n4 : c ∉ [X.pb] := by simp; rintro rfl; have := HLC.out; rw [HREP2.out.Lpb] at this; cases this
            have ng : g ∉ [X.pb] := by simp; rintro rfl; have := HLG.out; rw [HREP2.out.Lpb] at this; cases this
            have hEnd : Hid (∀ w5, PRep w5 X.pp X.pb (Q.setCell (a0 + (pl : Int)) to).2 → Only [X.pb] w2.drew w5 → HDid w L hb (.tuple #[.int .i64 M.move.1, .int .i64 M.move.2.1]) M.move.2.2 (.returned (.tuple #[.int .i64 k, .int .i64 0])) w5) := fun w5 hp5 ho5 => by
              rw [HMV.out trivial, HRT.out trivial]
              exact ⟨rfl, L, X, HREP2.out.drew.poolTurn ho5 hp5 (fun _ => rfl) (fun k o' h2 => ⟨o', h2, Th.Shape.refl _⟩), fun k hk => .inl hk,
                HO2.out.drew.trans (ho5.toP (S := fun j => L j ≠ none) (fun y hy => .inl (by simp at hy; rw [hy, HREP2.out.Lpb]; simp))) (fun x hx => .inl hx)⟩
            have hwrap : IntKind.i64.wrap (a0 + (pl : Int)) = a0 + (pl : Int) := IntWalk.i64_in _ (by omega)
            clear hcell0 d4' HMV HRT HREP2 HO2 HPL HEB HT HC HFR HTO HQ HER HA0 HLG HLC HWK HREP HNB QO1 HREP3 HO3 HD OWN H HK
            generalize X.pp = pp at *
            generalize X.pb = pb at *
            generalize (Q.setCell (a0 + (pl : Int)) to) = qs at *
            obtain ⟨qs1, qs2⟩ := qs
            go_region_held3 (fun w' => w'.cell? ⟨hb, 0, none⟩ = some (.pointer (some ⟨pp, 0, none⟩)) ∧ w'.cell? ⟨c, 4, none⟩ = some (.slice (some ⟨g, 0, none⟩) nb cap) ∧ w'.cell? ⟨g, 0, none⟩ = some (.int .i64 a0))
              (first | (exact ⟨d0, d4, dg⟩) | (exact ⟨ho5.cell d0 n0, ho5.cell d4 n4, ho5.cell dg ng⟩))
              (first
                | (go_at_call 199; refine HST.out.mono ?_; rintro e w5 ⟨rfl, hp5, ho5⟩))
            have HE := Lib.hid (hEnd.out w5 hp5 ho5)
            clear hp5 ho5 hEnd
            go_wp2_with fail
            exact hR.out _ _ HE.out
        · have hi : idx (fun i => gI t.blocks i == fr) nb = -1 := by rw [hnb]; exact idx_no hpl
          rw [hi] at hix
          have HPL := Lib.hid hpl
          clear hi hpl hrg1 hlk hlt hg1 hs1 hc hrep hth hwk ht hnb eb
          go_wp2_with fail
          refine hix.mono ?_
          rintro e _ ⟨rfl, rfl⟩
          go_wp2_with fail
          exact ⟨⟨_, cnt1, HR1.out, HSTEP.out HPL.out, QO1.out⟩, by rw [HR1.out.left_eq]; exact hmeas⟩
  · have HM : Hid (True → M.move = (0, M.P.move.2.2.1, M) ∧ M.P.move.2.2.2 = M.P) := fun _ => move_bad (by rw [← HER.out]; exact he)
    go_wp2_with fail
    refine hR.out _ _ ?_
    obtain ⟨e1, e2⟩ := HM.out trivial
    rw [e1, ← HER.out]
    refine ⟨rfl, L, X, ?_, fun k hk => .inl hk, HO3.out⟩
    have := HREP3.out
    rw [HQ.out, e2] at this
    exact this
end
end Go.Proofs.YthflghdaejbdkaaGreat
namespace Go.Proofs.YthflghdaejbdkaaGreat
open Go.RowKit Go.Maps
set_option maxHeartbeats 3200000
set_option maxRecDepth 100000
set_option linter.unusedVariables false
theorem Bls.barg {w : World} {base : Nat} {v : Value} {l : List Bool} (h : Bls w base v l) : BArg w v l := by
  rcases h.form with h | ⟨g, cap, h1, _, _, _, h2⟩
  · exact .inl h
  · exact .inr ⟨_, cap, h1, fun i hi => by rw [addr_add, Nat.zero_add]; exact h2 i hi⟩
section
variable {w w' : World} {L : Nat → Option Lb} {hb : Nat} {M : Hp} {X : HX}
theorem HRep.start {p b mb T : Nat} {P : Pl} {v : Nat} (hp : PRep w' p b P) (hr : Row w' hb T [.pointer (some ⟨p, 0, none⟩), .map (some mb)]) (hm : MapAt w' mb 0 (fun _ => none))
    (h1 : v ≤ p) (h2 : v ≤ b) (h3 : v ≤ mb) (h4 : v ≤ hb) (d1 : p ≠ mb) (d2 : p ≠ hb) (d3 : b ≠ mb) (d4 : b ≠ hb) (d5 : mb ≠ hb) :
    ∃ L' X', HRep w' L' hb ⟨P, fun _ => none⟩ X' ∧ (∀ k, L' k ≠ none → v ≤ k) ∧ X'.mb = mb ∧ X'.pp = p := by
  have hpb := hp.ne
  obtain ⟨_, _, _, _, f1, f2⟩ := hp.facts
  obtain ⟨L', hL'⟩ : ∃ L' : Nat → Option Lb, L' = fun j => if j = hb then some .mem else if j = mb then some .map else if j = p then some .pool else if j = b then some .pages else none := ⟨_, rfl⟩
  have hin : ∀ k, L' k ≠ none → k = hb ∨ k = mb ∨ k = p ∨ k = b := fun k hk => by
    rw [hL'] at hk
    simp only at hk
    by_cases e1 : k = hb
    · exact .inl e1
    · by_cases e2 : k = mb
      · exact .inr (.inl e2)
      · by_cases e3 : k = p
        · exact .inr (.inr (.inl e3))
        · by_cases e4 : k = b
          · exact .inr (.inr (.inr e4))
          · simp [e1, e2, e3, e4] at hk
  have hl1 := hr.lt
  have hl2 := hm.lt
  refine ⟨L', ⟨p, b, mb, fun _ => 0, fun _ => .slice none 0 0, fun _ => .slice none 0 0⟩, ⟨fun k hk => ?_, ⟨T, hr⟩, by rw [hL']; simp, hp, by rw [hL']; simp [d1, d2], by rw [hL']; simp [d3, d4, Ne.symm hpb], (hm.mono (Nat.zero_le _)).congr (fun _ => rfl), by rw [hL']; simp [d5], fun k o hk => by cases hk⟩, fun k hk => ?_, rfl, rfl⟩
  · rcases hin k hk with rfl | rfl | rfl | rfl <;> assumption
  · rcases hin k hk with rfl | rfl | rfl | rfl <;> assumption
theorem HRep.putTh {P : Pl} {ob : Int → Option Th} (h : HRep w L hb ⟨P, ob⟩ X) {k : Int} {b : Nat} {rv bv : Value} {t : Th} (hg : OnlyP (fun j => L j = some .map) w w') (hmp : MapAt w' X.mb 192 (fun j => if j = k then some b else (ob j).map fun _ => X.blk j))
    (hb1 : w.heap.size ≤ b) (hb2 : b < w'.heap.size) (hr : ∃ T, Row w' b T (thRow t rv bv)) (hrv : Bls w' w.heap.size rv t.rlist) (hbv : Ints w' w.heap.size bv t.blocks)
    (d1 : ∀ g, rv.ownBlock = some g → g ≠ b) (d2 : ∀ g, bv.ownBlock = some g → g ≠ b ∧ rv.ownBlock ≠ some g) :
    ∃ L' X', HRep w' L' hb ⟨P, setT ob k (some t)⟩ X' ∧ (∀ j, L' j ≠ none → L j ≠ none ∨ w.heap.size ≤ j) ∧ X'.mb = X.mb := by
  obtain ⟨L', hL'⟩ : ∃ L' : Nat → Option Lb, L' = fun j => if j = b then some (.th k) else if rv.ownBlock = some j then some (.rb k) else if bv.ownBlock = some j then some (.bl k) else L j := ⟨_, rfl⟩
  have hlab : ∀ j, L j ≠ none → L' j = L j := fun j hj => by
    rw [hL']
    have := h.lt j hj
    simp only
    rw [if_neg (by omega), if_neg (fun e => by have := (hrv.own j e).1; omega), if_neg (fun e => by have := (hbv.own j e).1; omega)]
  have hnew : ∀ j, L' j ≠ none → L j ≠ none ∨ (w.heap.size ≤ j ∧ j < w'.heap.size) := fun j hj => by
    rw [hL'] at hj
    simp only at hj
    by_cases e : j = b
    · rw [e]; exact .inr ⟨hb1, hb2⟩
    · rw [if_neg e] at hj
      by_cases e2 : rv.ownBlock = some j
      · exact .inr (hrv.own j e2)
      · rw [if_neg e2] at hj
        by_cases e3 : bv.ownBlock = some j
        · exact .inr (hbv.own j e3)
        · rw [if_neg e3] at hj; exact .inl hj
  have hne : ∀ j ℓ, ℓ ≠ Lb.map → L j = some .map → L j ≠ some ℓ := fun j ℓ h1 hj e => by rw [hj] at e; cases e; exact h1 rfl
  refine ⟨L', { X with blk := fun j => if j = k then b else X.blk j, rv := fun j => if j = k then rv else X.rv j, bv := fun j => if j = k then bv else X.bv j }, ⟨fun j hj => ?_, ?_, lab_of hlab h.Lm, h.pool.onlyP hg (fun y => hne _ .pool (by simp) y h.Lpp) (fun y => hne _ .pages (by simp) y h.Lpb), lab_of hlab h.Lpp, lab_of hlab h.Lpb, ?_, lab_of hlab h.Lp, fun j u hj => ?_⟩, fun j hj => (hnew j hj).imp id (fun e => e.1), rfl⟩
  · rcases hnew j hj with e | e
    · exact Nat.lt_of_lt_of_le (h.lt j e) hg.size
    · exact e.2
  · obtain ⟨T, hrow⟩ := h.mem
    exact ⟨T, hg.row hrow (fun x => hne hb .mem (by simp) x h.Lm)⟩
  · refine hmp.congr (fun j => ?_)
    show _ = (setT ob k (some t) j).map fun _ => if j = k then b else X.blk j
    by_cases e : j = k
    · rw [e, setT_same, if_pos rfl, if_pos rfl]; rfl
    · rw [setT_other _ _ e, if_neg e, if_neg e]
  · show ThAt w' L' j (if j = k then b else X.blk j) (if j = k then rv else X.rv j) (if j = k then bv else X.bv j) u
    rcases setT_some hj with ⟨rfl, rfl⟩ | ⟨e, hj'⟩
    · rw [if_pos rfl, if_pos rfl, if_pos rfl]
      refine ⟨hr, by rw [hL']; simp, hrv.base (Nat.zero_le _), fun g hgv => ?_, hbv.base (Nat.zero_le _), fun g hgv => ?_⟩
      · rw [hL']; simp [d1 g hgv, hgv]
      · obtain ⟨a1, a2⟩ := d2 g hgv
        rw [hL']; simp [a1, a2, hgv]
    · rw [if_neg e, if_neg e, if_neg e]
      exact ((h.th j u hj').only hg (fun x hx => ⟨hne x _ (by simp) hx, hne x _ (by simp) hx, hne x _ (by simp) hx⟩)).lab hlab
end
theorem hnew_bad (w : World) (n : Int) (h : n < 1 ∨ 24 < n) : Calls Tryz.prog 81 #[.int .i64 n] w (Exact w (.tuple #[.pointer none, .int .i64 1])) := by
  refine calls_abs fun R hR => ?_
  have h1 := new_bad w n h
  clear h
  go_enter Tryz.func81, Tryz.ntmps81
  go_wp2_with fail
  refine h1.mono ?_
  rintro e _ ⟨rfl, rfl⟩
  go_wp2_with fail
  exact hR.out _ _ ⟨rfl, rfl⟩
theorem hnew_good (w : World) (n : Nat) (h1 : 1 ≤ n) (h24 : n ≤ 24) : Calls Tryz.prog 81 #[.int .i64 n] w fun e w' =>
    ∃ hb L X, e = .returned (.tuple #[.pointer (some ⟨hb, 0, none⟩), .int .i64 0]) ∧ HRep w' L hb (Hp.new n) X ∧ (∀ k, L k ≠ none → w.heap.size ≤ k) ∧ Only [] w w' := by
  refine calls_abs fun R hR => ?_
  have h2 := new_yes w n h1 h24
  have hmm := @run_makeMap Tryz.prog
  clear h1 h24
  go_enter Tryz.func81, Tryz.ntmps81
  go_wp2_with fail
  refine h2.mono ?_
  rintro e w3 ⟨p, b, rfl, hp, ho, hp1, hb1⟩
  obtain ⟨_, _, _, _, f1, f2⟩ := hp.facts
  have hp5 : PRep ((w3.alloc (.map #[] 0)).alloc (.cells #[.pointer (some ⟨p, 0, none⟩), .map (some w3.heap.size)] 175)) p b (Pl.zero n) := hp.only (((Only.refl [] w3).alloc _).alloc _) (by simp) (by simp)
  have hrow : Row ((w3.alloc (.map #[] 0)).alloc (.cells #[.pointer (some ⟨p, 0, none⟩), .map (some w3.heap.size)] 175)) (w3.heap.size + 1) 175 [.pointer (some ⟨p, 0, none⟩), .map (some w3.heap.size)] := by
    have := Row.new (w3.alloc (.map #[] 0)) 175 [.pointer (some ⟨p, 0, none⟩), .map (some w3.heap.size)]
    rwa [World.size_alloc] at this
  have hmap : MapAt ((w3.alloc (.map #[] 0)).alloc (.cells #[.pointer (some ⟨p, 0, none⟩), .map (some w3.heap.size)] 175)) w3.heap.size 0 (fun _ => none) := (MapAt.made w3).only ((OnlyP.refl (fun _ => False) _).alloc _) (fun x => x)
  have hO : Only [] w ((w3.alloc (.map #[] 0)).alloc (.cells #[.pointer (some ⟨p, 0, none⟩), .map (some w3.heap.size)] 175)) := (ho.alloc _).alloc _
  have hsz := ho.size
  obtain ⟨L1, X1, q1, q2, _⟩ := HRep.start (v := w.heap.size) hp5 hrow hmap hp1 hb1 (by omega) (by omega) (by omega) (by omega) (by omega) (by omega) (by omega)
  have Q1 := Lib.hid q1
  have Q2 := Lib.hid q2
  have QO := Lib.hid hO
  clear h2 hp hp5 hrow hmap hO q1 q2 hp1 hb1 f1 f2 hsz ho
  go_wp2_with fail
  exact hR.out _ _ ⟨_, L1, X1, rfl, Q1.out, Q2.out, QO.out⟩
end Go.Proofs.YthflghdaejbdkaaGreat
namespace Go.Proofs.YthflghdaejbdkaaGreat
open Go.RowKit Go.Maps
set_option maxHeartbeats 3200000
set_option maxRecDepth 100000
set_option linter.unusedVariables false
def partT (ob : Int → Option Th) (left : Lit → Bool) (k : Int) : Option Th := if left (.int .i64 k) then none else ob k
theorem only_d1 (w : World) : Only [] w w.drew := (Only.refl [] w).drew
theorem Only.cellN {w0 wl : World} (h : Only [] w0 wl) {a : Addr} {v : Value} (hc : w0.cell? a = some v) : wl.cell? a = some v := h.cell hc (by simp)
theorem clone_ownI (w : World) (v : Value) (l : List Int) (h : Ints w 0 v l) (hl : l.length ≤ 1000000) :
    Calls Tryz.prog 80 #[v] w fun e w' => ∃ v', e = .returned v' ∧ Ints w' w.heap.size v' l ∧ Only [] w w' := by
  rcases h.form with ⟨rfl, rfl⟩ | ⟨g, cap, rfl, _, hg, _, hc⟩
  · refine (clone_nil w).mono ?_
    rintro e _ ⟨rfl, rfl⟩
    exact ⟨_, rfl, Ints.nil _ _, Only.refl _ _⟩
  · refine (clone_ints w g l.length cap l rfl (by omega) hc).mono ?_
    rintro e w1 ⟨v', rfl, hv, ho, _⟩
    exact ⟨v', rfl, hv, ho⟩
section
variable {L : Nat → Option Lb} {hb : Nat} {M : Hp} {X : HX}
theorem hcopy_rep (w : World) (h : HRep w L hb M X) (hk : M.Ok) : Calls Tryz.prog 128 #[.pointer (some ⟨hb, 0, none⟩)] w fun e w' =>
    ∃ q L' X', e = .returned (.pointer (some ⟨q, 0, none⟩)) ∧ HRep w' L' q M X' ∧ (∀ k, L' k ≠ none → w.heap.size ≤ k) ∧ Only [] w w' := by
  refine calls_abs fun R hR => ?_
  have h1 := hnone_rep w h
  have c0 := h.cells.1
  have hcp := copy_rep w X.pp X.pb M.P h.pool
  have hmm := @run_makeMap Tryz.prog
  have H := Lib.hid h
  have HK := Lib.hid hk
  clear h hk
  go_enter Tryz.func128, Tryz.ntmps128
  go_wp2_with fail
  refine h1.mono ?_
  rintro e _ ⟨rfl, rfl⟩
  clear h1
  go_wp2_with fail
  refine hcp.mono ?_
  rintro e w3 ⟨p, b, rfl, hp, ho, hp1, hb1⟩
  obtain ⟨_, _, _, _, f1, f2⟩ := hp.facts
  have hp5 : PRep ((w3.alloc (.map #[] 0)).alloc (.cells #[.pointer (some ⟨p, 0, none⟩), .map (some w3.heap.size)] 175)) p b M.P := hp.only (((Only.refl [] w3).alloc _).alloc _) (by simp) (by simp)
  have hrow : Row ((w3.alloc (.map #[] 0)).alloc (.cells #[.pointer (some ⟨p, 0, none⟩), .map (some w3.heap.size)] 175)) (w3.heap.size + 1) 175 [.pointer (some ⟨p, 0, none⟩), .map (some w3.heap.size)] := by
    have := Row.new (w3.alloc (.map #[] 0)) 175 [.pointer (some ⟨p, 0, none⟩), .map (some w3.heap.size)]
    rwa [World.size_alloc] at this
  have hmap : MapAt ((w3.alloc (.map #[] 0)).alloc (.cells #[.pointer (some ⟨p, 0, none⟩), .map (some w3.heap.size)] 175)) w3.heap.size 0 (fun _ => none) := (MapAt.made w3).only ((OnlyP.refl (fun _ => False) _).alloc _) (fun x => x)
  have hO : Only [] w ((w3.alloc (.map #[] 0)).alloc (.cells #[.pointer (some ⟨p, 0, none⟩), .map (some w3.heap.size)] 175)) := (ho.alloc _).alloc _
  have hsz := ho.size
  obtain ⟨L1, X1, q1, q2, q3⟩ := HRep.start (v := w.heap.size) hp5 hrow hmap hp1 hb1 (by omega) (by omega) (by omega) (by omega) (by omega) (by omega) (by omega)
  have HQ1 := Lib.hid q1
  have HQ2 := Lib.hid q2
  have HO := Lib.hid hO
  obtain ⟨D0, hown, hdat0⟩ := (H.out.only0 HO.out).mp
  have hdat : DatIs D0 (fun k => (M.ob k).map fun _ => X.blk k) := hdat0
  have HD := Lib.hid hdat
  have HMP := Lib.hid H.out.mp
  have HXM : Hid (X.mb < w.heap.size) := H.out.mp.lt
  have m6 := (H.out.only0 HO.out).cells.2.1
  obtain ⟨mb, hmb⟩ : ∃ m, m = X.mb := ⟨_, rfl⟩
  rw [← hmb] at m6 hown HXM HMP
  have OWN := Lib.hid hown
  clear hcp hp hp5 hrow hmap hO q1 q2 q3 hp1 hb1 f1 f2 hsz ho c0 hdat hdat0 hown hmb
  go_wp2_with (at_range; generalize ((w3.alloc (.map #[] 0)).alloc (.cells #[.pointer (some ⟨p, 0, none⟩), .map (some w3.heap.size)] 175)) = wq at *; generalize w3.heap.size + 1 = q at *; refine wpList_range_own _ rfl _ 173 rfl 3 172 keyedI Tryz.underlying173 ptrElem mb 192 D0 rfl OWN.out ?_; intro w4 hrg0 hg0 hs0)
  go_frame
  obtain ⟨ri, hri⟩ : ∃ r, r = wq.heap.size := ⟨_, rfl⟩
  rw [← hri] at hrg0 ⊢
  have HRI : Hid (w.heap.size ≤ ri) := by show _ ≤ _; rw [hri]; exact HO.out.size
  have HLR : Hid (L1 ri = none) := by
    show _ = _
    cases e : L1 ri with
    | none => rfl
    | some ℓ => have := HQ1.out.lt ri (by rw [e]; simp); omega
  have HP4 : Hid (HRep w4 L1 q ⟨M.P, fun _ => none⟩ X1) := HQ1.out.only (S := fun _ => False) ((OnlyP.refl _ wq).grown hg0 (fun k hk => by cases hk)) (fun _ x => x.elim)
  have HO4 : Hid (Only [] w w4) := HO.out.grown hg0 (fun k hk => by cases hk)
  clear hri hg0 hs0 m6 hmm
  go_loopw [6] (fun _ wr => ∃ left cnt L1 X1, wr.ranges Tryz.prog 3 ptrElem mb ri 192 D0 left cnt ∧ HRep wr L1 q ⟨M.P, partT M.ob left⟩ X1 ∧ Hid (∀ j, L1 j ≠ none → w.heap.size ≤ j) ∧ Hid (L1 ri = none) ∧ Only [] w wr) (fun _ wr => wr.rangeLeft mb ri)
  case atStart =>
    refine ⟨_, _, L1, X1, hrg0, ?_, HQ2, HLR, HO4.out⟩
    have e : partT M.ob (Maps.has D0) = fun _ => none := by
      funext k
      unfold partT
      cases ho : M.ob k with
      | none => simp
      | some t =>
        have h1 := HK.out.hr k t ho
        have := (HD.out k (wfI_mk (k := k) (by omega))).1
        simp only [ho] at this
        rw [if_pos (by rw [this]; rfl)]
    rw [e]
    exact HP4.out
  case round =>
    clear hrg0 HP4 HO4 HLR HQ2 HQ1 HO L1 X1 OWN
    obtain ⟨left, cnt, L1, X1, hrg, hP, HQ2, HLR, hO⟩ := hrel
    have HRG := Lib.hid hrg
    have HP := Lib.hid hP
    have HO := Lib.hid hO
    clear hrg hP hO
    go_wp2_with (at_next; refine wpList_next_things rfl _ rfl mb ri 192 D0 left cnt _ HD.out rfl HRG.out ?_ ?_)
    · intro _ hl0
      have HL0 := Lib.hid hl0
      clear hl0
      go_wp2_with fail
      refine hR.out _ _ ⟨q, L1, X1, rfl, ?_, HQ2.out, HO.out⟩
      have e : (⟨M.P, partT M.ob left⟩ : Hp) = M := by
        have : partT M.ob left = M.ob := by
          funext k
          unfold partT
          rw [if_neg (by rw [HL0.out]; simp)]
        rw [this]
      rw [← e]
      exact HP.out
    · intro k c w5 cnt5 hwk hlk t ht hc hrg5 hlt hg5 hs5 hen
      have O5 : OnlyP (· = ri) wr w5 := (OnlyP.refl _ wr).grown hg5 (fun j hj => by cases hj; exact .inl rfl)
      have QO5 : Only [] w w5 := HO.out.grown hg5 (fun j hj => by cases hj; exact .inr HRI.out)
      have P5 : HRep w5 L1 q ⟨M.P, partT M.ob left⟩ X1 := HP.out.only O5 (fun x hx => by rw [hx]; exact HLR.out)
      obtain ⟨⟨T, hrow⟩, _, hrb, _, hbl, _⟩ := (H.out.only0 QO5).th k t ht
      have hrow : Row w5 c T (thRow t (X.rv k) (X.bv k)) := by rw [← hc]; exact hrow
      have c0 : w5.cell? ⟨c, 0, none⟩ = _ := hrow.cell 0 rfl
      have c1 : w5.cell? ⟨c, 1, none⟩ = _ := hrow.cell 1 rfl
      have c2 : w5.cell? ⟨c, 2, none⟩ = _ := hrow.cell 2 rfl
      have c3 : w5.cell? ⟨c, 3, none⟩ = _ := hrow.cell 3 rfl
      have c4 : w5.cell? ⟨c, 4, none⟩ = _ := hrow.cell 4 rfl
      obtain ⟨a3, b3, hv3⟩ := hrb.len
      obtain ⟨a4, b4, hv4⟩ := hbl.len
      obtain ⟨n3, hn3⟩ : ∃ z, z = t.rlist.length := ⟨_, rfl⟩
      obtain ⟨n4, hn4⟩ : ∃ z, z = t.blocks.length := ⟨_, rfl⟩
      obtain ⟨kd, hkd⟩ : ∃ z, z = t.kind := ⟨_, rfl⟩
      obtain ⟨cl, hcl⟩ : ∃ z, z = t.cls := ⟨_, rfl⟩
      obtain ⟨ln, hln⟩ : ∃ z, z = t.slots.length := ⟨_, rfl⟩
      rw [← hn3] at hv3
      rw [← hn4] at hv4
      rw [hv3] at c3
      rw [hv4] at c4
      rw [← hkd] at c0
      rw [← hcl] at c1
      rw [← hln] at c2
      have hmeas : cnt5 < wr.rangeLeft mb ri := by rw [HRG.out.left_eq]; exact hlt
      have HP5 := Lib.hid P5
      have HO5 := Lib.hid QO5
      have HWK : Hid (wfI k) := hwk
      have HT := Lib.hid ht
      have HRG5 := Lib.hid hrg5
      have HRI5 : Hid (ri < w5.heap.size) := hrg5.lt
      have HC := Lib.hid hc
      have HRB := Lib.hid hrb
      have HBL := Lib.hid hbl
      have HV3 := Lib.hid hv3
      have HV4 := Lib.hid hv4
      have HN3 := Lib.hid hn3
      have HN4 := Lib.hid hn4
      have HKD := Lib.hid hkd
      have HCL := Lib.hid hcl
      have HLN := Lib.hid hln
      clear O5 QO5 P5 hrow hrb hbl hwk ht hc hrg5 hlk hlt hg5 hs5 hv3 hv4 hn3 hn4 hkd hcl hln
      go_wp2_with fail
      have hrow6 : Row (w5.alloc (.cells #[.int .i64 kd, .int .i64 cl, .int .i64 ln, .slice a3 n3 b3, .slice a4 n4 b4] 184)) w5.heap.size 184 [.int .i64 kd, .int .i64 cl, .int .i64 ln, .slice a3 n3 b3, .slice a4 n4 b4] := Row.new w5 _ [_, _, _, _, _]
      have QO6 : Hid (Only [] w5 (w5.alloc (.cells #[.int .i64 kd, .int .i64 cl, .int .i64 ln, .slice a3 n3 b3, .slice a4 n4 b4] 184))) := (Only.refl [] w5).alloc _
      have hsz6 : (w5.alloc (.cells #[.int .i64 kd, .int .i64 cl, .int .i64 ln, .slice a3 n3 b3, .slice a4 n4 b4] 184)).heap.size = w5.heap.size + 1 := by simp
      have hclt : c < w5.heap.size := World.block_lt_of_cell? w5 _ c3
      generalize (w5.alloc (.cells #[.int .i64 kd, .int .i64 cl, .int .i64 ln, .slice a3 n3 b3, .slice a4 n4 b4] 184)) = w6 at *
      obtain ⟨y, hy⟩ : ∃ z, z = w5.heap.size := ⟨_, rfl⟩
      rw [← hy] at hrow6 hsz6 hclt ⊢
      have HY := Lib.hid hy
      have HSZ6 := Lib.hid hsz6
      have HROW6 := Lib.hid hrow6
      have e3 : w6.drew.cell? ⟨c, 3, none⟩ = some (.slice a3 n3 b3) := QO6.out.cellN c3
      have e4 : w6.drew.cell? ⟨c, 4, none⟩ = some (.slice a4 n4 b4) := QO6.out.cellN c4
      have hcy : y ≠ c := by omega
      have HCB : Hid (∀ wx, Only [] w6 wx → Calls Tryz.prog 165 #[.slice a3 n3 b3] wx (fun e w' => ∃ v', e = .returned v' ∧ Bls w' wx.heap.size v' t.rlist ∧ Only [] wx w')) := fun wx hox => by
        have h3 := HRB.out
        rw [HV3.out] at h3
        have := (HK.out.th k t HT.out)
        exact clone_barg wx _ _ (h3.barg.only (QO6.out.trans hox (by simp))) (by have h4 := this.le; have h5 := this.rl; unfold Th.rlist; split <;> simp; omega)
      have HCI : Hid (∀ wx, Only [] w6 wx → Calls Tryz.prog 80 #[.slice a4 n4 b4] wx (fun e w' => ∃ v', e = .returned v' ∧ Ints w' wx.heap.size v' t.blocks ∧ Only [] wx w')) := fun wx hox => by
        have h3 := HBL.out
        rw [HV4.out] at h3
        exact clone_ownI wx _ _ (h3.only (QO6.out.trans hox (by simp)) (by simp)) (by have := (HK.out.blen HT.out).2.1; omega)
      have HYC : Hid (∀ wx, Only [] w6 wx → wx.cell? ⟨y, 3, none⟩ = some (.slice a3 n3 b3) ∧ wx.cell? ⟨y, 4, none⟩ = some (.slice a4 n4 b4) ∧ wx.frozen? ⟨y, 3, none⟩ = false ∧ wx.frozen? ⟨y, 4, none⟩ = false) := fun wx hox => by
        have := hox.row HROW6.out (by simp)
        exact ⟨this.cell 3 rfl, this.cell 4 rfl, this.free 3, this.free 4⟩
      have QD6 : Hid (Only [] w6 w6.drew) := (Only.refl [] w6).drew
      clear hy hsz6 hrow6 c0 c1 c2 c3 c4 hclt hen
      go_region_held3 (fun w' => w'.cell? ⟨c, 3, none⟩ = some (.slice a3 n3 b3) ∧ w'.cell? ⟨c, 4, none⟩ = some (.slice a4 n4 b4))
        (first
          | (exact ⟨e3, e4⟩)
          | (exact ⟨ho7.cellN e3, ho7.cellN e4⟩)
          | (exact ⟨k3, k4⟩)
          | (exact ⟨(World.cell?_setCell_far _ _ _ _ hcy).trans k3, (World.cell?_setCell_far _ _ _ _ hcy).trans k4⟩)
          | (exact ⟨(World.cell?_setCell_far _ _ _ _ hcy).trans ((World.cell?_setCell_far _ _ _ _ hcy).trans k3), (World.cell?_setCell_far _ _ _ _ hcy).trans ((World.cell?_setCell_far _ _ _ _ hcy).trans k4)⟩))
        (first
          | (go_at_call 165; refine (HCB.out _ QD6.out).mono ?_; rintro e w7 ⟨v7, rfl, hi7, ho7⟩; obtain ⟨va7, vc7, hv7⟩ := hi7.len; obtain ⟨n7, hn7⟩ : ∃ z, z = t.rlist.length := ⟨_, rfl⟩; rw [← hn7] at hv7; subst hv7; have HI7 := Lib.hid hi7; clear hi7 hn7)
          | (go_at_call 80; refine (HCI.out _ (QD6.out.trans ho7 (by simp))).mono ?_; rintro e w8 ⟨v8, rfl, hi8, ho8⟩; obtain ⟨va8, vc8, hv8⟩ := hi8.len; obtain ⟨n8, hn8⟩ : ∃ z, z = t.blocks.length := ⟨_, rfl⟩; rw [← hn8] at hv8; subst hv8; have HI8 := Lib.hid hi8; have k3 := ho8.cellN (ho7.cellN e3); have k4 := ho8.cellN (ho7.cellN e4); obtain ⟨y3, y4, y5, y6⟩ := HYC.out w8 ((QD6.out.trans ho7 (by simp)).trans ho8 (by simp)); clear hi8 hn8))
      have O68 : Only [] w6 w8 := (QD6.out.trans ho7 (by simp)).trans ho8 (by simp)
      have hsz6 := HSZ6.out
      have hs7 : w6.heap.size ≤ w7.heap.size := ho7.size
      have hs8 : w7.heap.size ≤ w8.heap.size := ho8.size
      have own7 := HI7.out.own
      have own8 := HI8.out.own
      have hyw := HY.out
      have row8 := O68.row HROW6.out (by simp)
      have row9 : Row ((w8.setCell ⟨y, 3, none⟩ (.slice va7 n7 vc7)).setCell ⟨y, 4, none⟩ (.slice va8 n8 vc8)) y 184 [.int .i64 kd, .int .i64 cl, .int .i64 ln, .slice va7 n7 vc7, .slice va8 n8 vc8] := (row8.set 3 _).set 4 _
      have O89 : Only [y] w8 ((w8.setCell ⟨y, 3, none⟩ (.slice va7 n7 vc7)).setCell ⟨y, 4, none⟩ (.slice va8 n8 vc8)) := ((Only.refl [y] w8).set (.inl (by simp)) _).set (.inl (by simp)) _
      have i7 : Bls ((w8.setCell ⟨y, 3, none⟩ (.slice va7 n7 vc7)).setCell ⟨y, 4, none⟩ (.slice va8 n8 vc8)) w6.heap.size (.slice va7 n7 vc7) t.rlist := (HI7.out.only ho8 (by simp)).only O89 (fun g hg => by have : w6.heap.size ≤ g := (own7 g hg).1; simp; omega)
      have i8 : Ints ((w8.setCell ⟨y, 3, none⟩ (.slice va7 n7 vc7)).setCell ⟨y, 4, none⟩ (.slice va8 n8 vc8)) w7.heap.size (.slice va8 n8 vc8) t.blocks := HI8.out.only O89 (fun g hg => by have := (own8 g hg).1; simp; omega)
      generalize ((w8.setCell ⟨y, 3, none⟩ (.slice va7 n7 vc7)).setCell ⟨y, 4, none⟩ (.slice va8 n8 vc8)) = w9 at *
      have O59 : Only [] w5 w9 := (QO6.out.trans O68 (by simp)).trans O89 (fun x hx => .inr (by simp at hx; omega))
      have P9 := HP5.out.only0 O59
      have q1 := P9.cells.2.1
      obtain ⟨w10, hrun10, hm10, hg10⟩ := MapAt.store (b := y) P9.mp (by omega) HWK.out
      have O9 : OnlyP (· = X1.mb) w9 w10 := (OnlyP.refl _ w9).grown hg10 (fun j hj => by cases hj; exact .inl rfl)
      have O510 : OnlyP (fun j => L1 j = some .map) w5 w10 := (O59.toP0 (S := fun j => L1 j = some .map)).trans O9 (fun x hx => .inl (by rw [hx]; exact HP5.out.Lp))
      have hmlt : X1.mb < w5.heap.size := HP5.out.lt _ (by rw [HP5.out.Lp]; simp)
      have hm11 : MapAt w10 X1.mb 192 (fun j => if j = k then some y else (partT M.ob left j).map fun _ => X1.blk j) := MapAt.tight hm10 HMP.out (fun j hj hs => by
        by_cases e : j = k
        · rw [e, HT.out]; rfl
        · simp only [e, if_false] at hs
          unfold partT at hs
          split at hs
          · simp at hs
          · cases ho : M.ob j with
            | none => rw [ho] at hs; cases hs
            | some u => rfl)
      have hs9 := O89.size
      obtain ⟨L2, X2, r1, r2, r3⟩ := HP5.out.putTh (w' := w10) (k := k) (b := y) (rv := .slice va7 n7 vc7) (bv := .slice va8 n8 vc8) (t := t) O510 hm11 (by omega) (by have := O9.size; have := row9.lt; omega)
        ⟨184, by
          have := O9.row row9 (by intro e; omega)
          unfold thRow
          rw [← HKD.out, ← HCL.out, ← HLN.out]
          exact this⟩ ((i7.onlyP O9 (fun g hg e => by have : w6.heap.size ≤ g := (own7 g hg).1; omega)).base (by omega)) ((i8.onlyP O9 (fun g hg e => by have := (own8 g hg).1; omega)).base (by omega))
        (fun g hg => by have : w6.heap.size ≤ g := (own7 g hg).1; omega) (fun g hg => ⟨by have := (own8 g hg).1; omega, fun e => by have := (own7 g e).2; have := (own8 g hg).1; omega⟩)
      have HR1 := Lib.hid r1
      have HR2 : Hid (∀ j, L2 j ≠ none → w.heap.size ≤ j) := fun j hj => by
        rcases r2 j hj with h1 | h1
        · exact HQ2.out j h1
        · have := HO5.out.size; omega
      have HR3 : Hid (L2 ri = none) := by
        show _ = _
        cases e : L2 ri with
        | none => rfl
        | some ℓ =>
          rcases r2 ri (by rw [e]; simp) with h1 | h1
          · exact absurd HLR.out h1
          · have := HRI5.out; omega
      have HRG10 : Hid (w10.ranges Tryz.prog 3 ptrElem mb ri 192 D0 (fun z => left z && !z.sameKey (.int .i64 k)) cnt5) := ranges_only HRG5.out O510 (fun x => by have := HQ2.out mb (by rw [x]; simp); have := HXM.out; omega) (fun x => by have := HLR.out; rw [x] at this; cases this)
      have HO10 : Hid (Only [] w w10) := by
        refine ⟨O510.os.trans HO5.out.os, O510.tape.trans HO5.out.tape, O510.output.trans HO5.out.output, Nat.le_trans HO5.out.size O510.size, fun j hj _ => ?_⟩
        rw [O510.block j (Nat.lt_of_lt_of_le hj HO5.out.size) (fun x => by
          have h1 := HQ2.out j (by rw [x]; simp)
          omega)]
        exact HO5.out.block j hj (by simp)
      generalize hmb1 : X1.mb = mb1 at *
      clear r1 r2 r3 i7 i8 row8 row9 hm10 hm11 hg10 O9 O510 O59 O89 O68 P9 ho7 ho8 own7 own8 k3 k4 y3 y4 y5 y6 e3 e4 hmb1 hyw
      go_wp2_with fail
      refine ⟨⟨_, cnt5, L2, X2, HRG10.out, ?_, HR2, HR3, HO10.out⟩, by rw [HRG10.out.left_eq]; exact hmeas⟩
      have e : partT M.ob (fun z => left z && !z.sameKey (.int .i64 k)) = setT (partT M.ob left) k (some t) := by
        funext j
        unfold setT
        by_cases e : j = k
        · subst e
          rw [if_pos rfl]
          unfold partT
          simp only [sameI j j HWK.out, decide_true, Bool.not_true, Bool.and_false, Bool.false_eq_true, if_false]
          exact HT.out
        · rw [if_neg e]
          unfold partT
          simp only [sameI j k HWK.out]
          simp [e]
      rw [e]
      exact HR1.out
end
end Go.Proofs.YthflghdaejbdkaaGreat
