/- Contracts of package scope: Refer, SetPortal. -/
import Derived.Test.YtbjmgbbggbbidaaScopeK
namespace Go.Proofs.Ytbjmgbbggbbidaa
open Go.RowKit Go.Maps
set_option maxHeartbeats 1600000
set_option maxRecDepth 100000
set_option linter.unusedVariables false
theorem mem_gI {l : List Int} {y : Int} : y ∈ l ↔ ∃ i, i < l.length ∧ gI l i = y := by
  constructor
  · intro h
    obtain ⟨i, hi, rfl⟩ := List.getElem_of_mem h
    exact ⟨i, hi, by unfold gI; rw [List.getElem?_eq_getElem hi]; rfl⟩
  · rintro ⟨i, hi, rfl⟩
    unfold gI
    rw [List.getElem?_eq_getElem hi]
    exact List.getElem_mem hi
theorem index_ints (w : World) (base : Nat) (v : Value) (l : List Int) (h : Ints w base v l) (hl : l.length ≤ 1000000) (y : Int) : Calls Try.prog 84 #[v, .int .i64 y] w fun e w' => w = w' ∧ ∃ r : Int, e = .returned (.int .i64 r) ∧ decide (0 ≤ r) = decide (y ∈ l) := by
  refine calls_abs fun R hR => ?_
  rcases h.form with ⟨rfl, rfl⟩ | ⟨g, cap, rfl, _, _, _, hc⟩
  · go_enter Try.func84, Try.ntmps84
    go_wp2_with fail
    go_loop [5, 8] (fun _ i => i = .int .i64 0) (fun _ i => 0)
    case atStart => rfl
    case round =>
      obtain rfl := hrel
      go_wp2_with fail
      exact hR.out _ _ ⟨rfl, -1, rfl, by simp⟩
  · have HC := Lib.hid hc
    obtain ⟨len, hlen⟩ : ∃ n, n = l.length := ⟨_, rfl⟩
    have HLEN := Lib.hid hlen
    rw [← hlen] at HC hl ⊢
    clear hc h hlen
    go_enter Try.func84, Try.ntmps84
    go_wp2_with fail
    go_loop [5, 8] (fun _ i => ∃ k : Nat, k ≤ len ∧ i = .int .i64 k ∧ Hid (∀ j, j < k → gI l j ≠ y)) (fun _ i => len - (intOf i).toNat)
    case atStart => exact ⟨0, by omega, rfl, fun j hj => by omega⟩
    case round =>
      obtain ⟨k, hk, rfl, hf⟩ := hrel
      by_cases hlt : k < len
      · have hcell := HC.out k hlt
        obtain ⟨x, hx⟩ : ∃ x, x = gI l k := ⟨_, rfl⟩
        rw [← hx] at hcell
        have HX := Lib.hid hx
        clear hx
        cases hq : (y == x)
        · have HQ : Hid (x ≠ y) := by intro e; simp [e] at hq
          go_wp2_with fail
          go_round
          case rel => exact ⟨k + 1, by omega, by go_num, fun j hj => by
            by_cases e : j = k
            · rw [e, ← HX.out]; exact HQ.out
            · exact hf.out j (by omega)⟩
          case measure => simp [intOf]; omega
        · have HQ : Hid (x = y) := by show _ = _; have := hq; simp at this; exact this.symm
          go_wp2_with fail
          refine hR.out _ _ ⟨rfl, (k : Int), rfl, ?_⟩
          rw [show decide (y ∈ l) = true from decide_eq_true (mem_gI.2 ⟨k, by have := HLEN.out; omega, by rw [← HX.out, HQ.out]⟩)]
          simp
      · obtain rfl : k = len := by omega
        go_wp2_with fail
        refine hR.out _ _ ⟨rfl, -1, rfl, ?_⟩
        rw [show decide (y ∈ l) = false from decide_eq_false (fun hm => by
          obtain ⟨i, hi, e⟩ := mem_gI.1 hm
          exact hf.out i (by have := HLEN.out; omega) e)]
        simp
theorem contains_ints (w : World) (base : Nat) (v : Value) (l : List Int) (h : Ints w base v l) (hl : l.length ≤ 1000000) (y : Int) : Calls Try.prog 70 #[v, .int .i64 y] w (Exact w (.bool (decide (y ∈ l)))) := by
  refine calls_abs fun R hR => ?_
  have hi := index_ints w base v l h hl y
  obtain ⟨q, hq⟩ : ∃ q, q = decide (y ∈ l) := ⟨_, rfl⟩
  rw [← hq] at hi hR
  clear hq h
  go_enter Try.func70, Try.ntmps70
  go_wp2_with fail
  refine hi.mono ?_
  rintro e _ ⟨rfl, r, rfl, hr⟩
  rw [← hr] at hR
  have HR := Lib.hid hr
  clear hr
  go_wp2_with fail
  exact hR.out _ _ ⟨rfl, rfl⟩
section
variable {L : Nat → Option Lb} {p : Nat} {P : Pm} {X : PX} {w : World}
theorem refer_nope (w : World) (v : Value) (h : Nope w v) (x y : Int) : Calls Try.prog 41 #[v, .int .i64 x, .int .i64 y] w fun e w' => e = .returned (.int .i64 1) ∧ Drew w w' := by
  refine calls_abs fun R hR => ?_
  go_enter Try.func41, Try.ntmps41
  go_wp2_with fail
  refine (may_nope _ _ h _ _).mono ?_
  rintro e _ ⟨rfl, n, rfl⟩
  go_wp2_with fail
  exact hR.out _ _ ⟨rfl, Drew.of _ _⟩
theorem refer_rep (w : World) (h : PRep w L p P X) (hok : P.ok) (x y : Int) (hx : wfI x) (hy : wfI y) :
    Calls Try.prog 41 #[.pointer (some ⟨p, 0, none⟩), .int .i64 x, .int .i64 y] w (Did w L p (.int .i64 (P.refer x y).1) (P.refer x y).2) := by
  refine calls_abs fun R hR => ?_
  have hm := may_rep w h hok x y hx hy
  have hbad : (P.ob x = none ∨ P.ob y = none) ∨ ∃ t u, P.ob x = some t ∧ P.ob y = some u := by
    cases h1 : P.ob x with
    | none => exact .inl (.inl rfl)
    | some t =>
      cases h2 : P.ob y with
      | none => exact .inl (.inr rfl)
      | some u => exact .inr ⟨t, u, rfl, rfl⟩
  rcases hbad with hb | ⟨t, u, ht, hu⟩
  · have hmv : P.may x y = (false, 3) := by unfold Pm.may; rcases hb with e | e <;> rw [e] <;> (try cases P.ob x) <;> rfl
    have hr : Hid (P.refer x y = (3, P)) := by show _ = _; unfold Pm.refer; rcases hb with e | e <;> rw [e] <;> (try cases P.ob x) <;> rfl
    rw [hmv] at hm
    clear hmv hb hok
    go_enter Try.func41, Try.ntmps41
    go_wp2_with fail
    refine hm.mono ?_
    rintro e _ ⟨rfl, n, rfl⟩
    go_wp2_with fail
    refine hR.out _ _ ?_
    rw [hr.out]
    exact Did.none h (Drew.of _ _)
  · have hmv : P.may x y = (P.outerN 8 u.area t.area, 0) := by unfold Pm.may; rw [ht, hu]
    have hr0 : Hid (P.refer x y = if P.outerN 8 u.area t.area then (0, if y ∈ t.refs then P else { P with ob := setOb P.ob x { t with refs := t.refs ++ [y] } }) else (17, P)) := by
      show _ = _; unfold Pm.refer; rw [ht, hu]; rfl
    rw [hmv] at hm
    cases ho : P.outerN 8 u.area t.area
    · have hr : Hid (P.refer x y = (17, P)) := by show _ = _; rw [hr0.out, ho]; rfl
      rw [ho] at hm
      clear hmv hok ht hu ho
      go_enter Try.func41, Try.ntmps41
      go_wp2_with fail
      refine hm.mono ?_
      rintro e _ ⟨rfl, n, rfl⟩
      go_wp2_with fail
      refine hR.out _ _ ?_
      rw [hr.out]
      exact Did.none h (Drew.of _ _)
    · rw [ho] at hm
      have hr1 : Hid (P.refer x y = (0, if y ∈ t.refs then P else { P with ob := setOb P.ob x { t with refs := t.refs ++ [y] } })) := by show _ = _; rw [hr0.out, ho]; rfl
      have hlen := (hok.th x t ht).2.2.2.2.2.2.1
      have HT := Lib.hid ht
      have H := Lib.hid h
      clear hmv hok ht hu ho hr0 h
      go_enter Try.func41, Try.ntmps41
      go_wp2_with fail
      refine hm.mono ?_
      clear hm
      rintro e _ ⟨rfl, n, rfl⟩
      have H1 := H.out.drewN n
      have HO1 := Lib.hid ((OnlyP.refl (fun k => L k ≠ none) w).drewN n)
      generalize w.drewN n = w1 at *
      have m6 := H1.cells.2.2.1
      have hlk := H1.look hx
      rw [HT.out] at hlk
      replace hlk : (Instr.lookup 56 (.map (some X.mb)) (.int .i64 x) false).run Try.prog w1 = .ok (.pointer (some ⟨X.blk x, 0, none⟩)) w1 := hlk
      obtain ⟨⟨T, hrow⟩, hlb, hints, hown⟩ := H1.th x t HT.out
      have c2 := hrow.cell 2 rfl
      have f2 := hrow.free 2
      obtain ⟨b, hb⟩ : ∃ b, b = X.blk x := ⟨_, rfl⟩
      rw [← hb] at hlk c2 f2 hrow hlb
      have hct := contains_ints w1 0 (X.rv x) t.refs hints (by omega) y
      have hbl := World.block_lt_of_cell? w1 _ c2
      have HI := Lib.hid hints
      have HW := Lib.hid hown
      have HB := Lib.hid hb
      have HLB := Lib.hid hlb
      have HROW := Lib.hid hrow
      have H1' := Lib.hid H1
      clear hb hints hown hlb hrow H1
      cases hmem : decide (y ∈ t.refs)
      · rw [hmem] at hct
        have hr : Hid (P.refer x y = (0, { P with ob := setOb P.ob x { t with refs := t.refs ++ [y] } })) := by show _ = _; rw [hr1.out, if_neg (by simpa using hmem)]
        clear hmem hr1
        obtain ⟨va, vc, hv⟩ := HI.out.len
        have HV := Lib.hid hv
        rw [hv] at c2 hct
        have hne : (X.rv x).ownBlock ≠ some b := fun e => by have := HW.out b e; rw [HLB.out] at this; cases this
        have HNE := Lib.hid hne
        have HIV : Hid (Ints w1 0 (.slice va t.refs.length vc) t.refs) := by show Ints _ _ _ _; rw [← hv]; exact HI.out
        clear hv hne
        obtain ⟨rl, hrl⟩ : ∃ r, r = t.refs.length := ⟨_, rfl⟩
        rw [← hrl] at c2 hct HIV HV hlen
        have HRL := Lib.hid hrl
        clear hrl
        go_wp2_with fail
        refine hct.mono ?_
        rintro e _ ⟨rfl, rfl⟩
        go_wp2_with (at_builtin; refine append_int1 rfl _ _ rfl 0 (.slice va rl vc) t.refs rfl (HIV.out.alloc (.cells #[.int .i64 y] 3)) w1.heap.size y rfl ?_ ?_ ?_ ?_)
        · exact (Row.new w1 _ [_]).cell 0 rfl
        · have := HRL.out; omega
        · simp
        · intro v' w2 hi2 ho2 hb2
          have hg : Only (X.rv x).ownBlock.toList w1 w2 := by
            have e : (X.rv x).ownBlock = (Value.slice va rl vc).ownBlock := by rw [HV.out]
            rw [e]
            exact ((Only.refl _ w1).alloc _).trans ho2 (fun k hk => .inl hk)
          have hbn : b ∉ (X.rv x).ownBlock.toList := by
            intro hx
            cases e : (X.rv x).ownBlock with
            | none => rw [e] at hx; simp at hx
            | some c => rw [e] at hx; simp at hx; subst hx; exact HNE.out e
          have hr2 := hg.row HROW.out hbn
          have c22 := hr2.cell 2 rfl
          have f22 := hr2.free 2
          have hown2 := hi2.own
          have hv'' : ∀ k, v'.ownBlock = some k → (X.rv x).ownBlock = some k ∨ (w1.heap.size ≤ k ∧ k < w2.heap.size) := fun k hk => by
            rcases hb2 with e | e
            · left; rw [HV.out, ← e]; exact hk
            · right
              rw [e] at hk
              simp at hk
              have := (hown2 (w1.heap.size + 1) (by simp [e])).2
              omega
          obtain ⟨va', vc', hv'⟩ := hi2.len
          subst hv'
          obtain ⟨L', q1, q2, q3, _⟩ := H1'.out.refTurn HT.out hg hi2 hv''
          rw [← HB.out] at q1
          have QO : OnlyP (fun k => L k ≠ none) w (w2.setCell ⟨b, 2, none⟩ (.slice va' (t.refs ++ [y]).length vc')) := (HO1.out.trans (hg.toP (S := fun k => L k ≠ none) (fun k hk => .inl (by
            cases e : (X.rv x).ownBlock with
            | none => rw [e] at hk; simp at hk
            | some c => rw [e] at hk; simp at hk; subst hk; rw [HW.out _ e]; simp))) (fun k hk => .inl hk)).set (.inl (by rw [HLB.out]; simp)) _
          have Q1 := Lib.hid q1
          have Q2 := Lib.hid q2
          have HQO := Lib.hid QO
          clear q1 q2 q3 QO hg hr2 hi2 ho2 hb2 hown2 hv'' hbn
          generalize (t.refs ++ [y]).length = nl at *
          go_wp2_with fail
          refine hR.out _ _ ?_
          rw [hr.out]
          exact ⟨rfl, L', _, Q1.out, fun k hk => (Q2.out k hk).imp id (fun h => by have := HO1.out.size; omega), HQO.out⟩
      · rw [hmem] at hct
        have hr : Hid (P.refer x y = (0, P)) := by show _ = _; rw [hr1.out, if_pos (by simpa using hmem)]
        clear hmem hr1
        obtain ⟨va, vc, hv⟩ := HI.out.len
        rw [hv] at c2 hct
        clear hv
        go_wp2_with fail
        refine hct.mono ?_
        rintro e _ ⟨rfl, rfl⟩
        go_wp2_with fail
        refine hR.out _ _ ?_
        rw [hr.out]
        exact ⟨rfl, L, X, H1'.out, fun k hk => .inl hk, HO1.out⟩
theorem setPortal_nope (w : World) (v : Value) (h : Nope w v) (a x : Int) : Calls Try.prog 31 #[v, .int .i64 a, .int .i64 x] w (Exact w (.int .i64 1)) := by
  refine calls_abs fun R hR => ?_
  go_enter Try.func31, Try.ntmps31
  go_wp2_with fail
  refine (scoped_nope _ _ h _).mono ?_
  rintro e _ ⟨rfl, rfl⟩
  go_wp2_with fail
  exact hR.out _ _ ⟨rfl, rfl⟩
theorem setPortal_rep (w : World) (h : PRep w L p P X) (hok : P.ok) (a x : Int) (hx : wfI x) :
    Calls Try.prog 31 #[.pointer (some ⟨p, 0, none⟩), .int .i64 a, .int .i64 x] w (Did w L p (.int .i64 (P.setPortal a x).1) (P.setPortal a x).2) := by
  refine calls_abs fun R hR => ?_
  cases hb : (P.isA a && decide (2 ≤ a))
  · have hr : Hid (P.setPortal a x = (1, P)) := by show _ = _; unfold Pm.setPortal; rw [hb]; rfl
    have hs := scoped_bad w h hok a hb
    clear hb hok
    go_enter Try.func31, Try.ntmps31
    go_wp2_with fail
    refine hs.mono ?_
    rintro e _ ⟨rfl, rfl⟩
    go_wp2_with fail
    refine hR.out _ _ ?_
    rw [hr.out]
    exact Did.none h (Drew.refl _)
  · have hb2 := hb
    simp only [Bool.and_eq_true, decide_eq_true_eq] at hb2
    obtain ⟨hA, h2⟩ := hb2
    have han := (isA_lt2 hA).2
    obtain ⟨j, g, cap, e1, hj, ej, e2, hlS, c0, c1, c2, c3, c4, kf⟩ := h.sp5 h2 han
    have hs := scoped_at w h hok a hA h2 g cap j e1 hj e2
    have f4 := kf 4 (by omega)
    have hr0 : Hid (P.setPortal a x = if x ≠ 0 ∧ P.ob x = none then ((3 : Int), P) else if (P.sp a).users = 0 then (13, P) else match P.ob x with | some th => if x ≠ 0 ∧ P.outerN 8 th.area a = false then (17, P) else (0, P.setSp a { P.sp a with portal := x }) | none => (0, P.setSp a { P.sp a with portal := x })) := by
      show _ = _; unfold Pm.setPortal; rw [hb]; rfl
    have hlk := h.look hx
    have m6 := h.cells.2.2.1
    have HS := Lib.hid e2
    have HJ := Lib.hid ej
    have HOK := Lib.hid hok
    have hfin : ∀ w', w' = w.setCell ⟨g, j * 5 + 4, none⟩ (.int .i64 x) → PRep w' L p (P.setSp a { P.sp a with portal := x }) X ∧ OnlyP (fun k => L k ≠ none) w w' := fun w' e => by
      subst e
      exact ⟨h.field e2 hj ej hlS (r := 4) (by omega) rfl (fun q hq hne => by
        match q, hq with | 0, _ => rfl | 1, _ => rfl | 2, _ => rfl | 3, _ => rfl | 4, _ => exact absurd rfl hne), (OnlyP.refl _ w).set (.inl (by rw [hlS]; simp)) _⟩
    have HFIN := Lib.hid hfin
    obtain ⟨u, hu⟩ : ∃ u, u = (P.sp a).users := ⟨_, rfl⟩
    rw [← hu] at c2 hr0
    obtain ⟨mb, hmb⟩ : ∃ m, m = X.mb := ⟨_, rfl⟩
    rw [← hmb] at m6 hlk
    clear hok hb hA e1 e2 ej c0 c1 c3 kf hfin hu hmb
    cases ho : P.ob x with
    | none =>
      rw [ho] at hlk hr0
      replace hlk : (Instr.lookup 56 (.map (some mb)) (.int .i64 x) false).run Try.prog w = .ok (.pointer none) w := hlk
      clear ho
      cases h0 : (x != 0)
      · have hx0 : x = 0 := by simpa using h0
        cases hu : (u == 0)
        · have hr : Hid (P.setPortal a x = (0, P.setSp a { P.sp a with portal := x })) := by show _ = _; rw [hr0.out, if_neg (fun z => z.1 hx0), if_neg (by simpa using hu)]
          clear hr0 hx0
          go_enter Try.func31, Try.ntmps31
          go_wp2_with fail
          refine hs.mono ?_
          rintro e _ ⟨rfl, rfl⟩
          go_wp2_with fail
          refine hR.out _ _ ?_
          rw [hr.out]
          exact ⟨rfl, L, X, (HFIN.out _ rfl).1, fun k hk => .inl hk, (HFIN.out _ rfl).2⟩
        · have hr : Hid (P.setPortal a x = (13, P)) := by show _ = _; rw [hr0.out, if_neg (fun z => z.1 hx0), if_pos (by simpa using hu)]
          clear hr0 hx0
          go_enter Try.func31, Try.ntmps31
          go_wp2_with fail
          refine hs.mono ?_
          rintro e _ ⟨rfl, rfl⟩
          go_wp2_with fail
          refine hR.out _ _ ?_
          rw [hr.out]
          exact Did.none h (Drew.refl _)
      · have hr : Hid (P.setPortal a x = (3, P)) := by show _ = _; rw [hr0.out, if_pos ⟨by simpa using h0, rfl⟩]
        clear hr0
        go_enter Try.func31, Try.ntmps31
        go_wp2_with fail
        refine hs.mono ?_
        rintro e _ ⟨rfl, rfl⟩
        go_wp2_with fail
        refine hR.out _ _ ?_
        rw [hr.out]
        exact Did.none h (Drew.refl _)
    | some t =>
      rw [ho] at hlk hr0
      replace hlk : (Instr.lookup 56 (.map (some mb)) (.int .i64 x) false).run Try.prog w = .ok (.pointer (some ⟨X.blk x, 0, none⟩)) w := hlk
      have hout := outer_rep w h HOK.out t.area a han
      obtain ⟨⟨T, hrow⟩, _⟩ := h.th x t ho
      have q0 := hrow.cell 0 rfl
      have hne1 : ¬ (x ≠ 0 ∧ (some t : Option Th) = none) := fun z => by cases z.2
      have hx1 : 1 ≤ x := (HOK.out.th x t ho).1
      have h0 : (x != 0) = true := by simp; omega
      clear ho hrow
      cases hu : (u == 0)
      · have hu0 : u ≠ 0 := by simpa using hu
        cases hov : P.outerN 8 t.area a
        · have hr : Hid (P.setPortal a x = (17, P)) := by show _ = _; rw [hr0.out, if_neg hne1, if_neg hu0]; simp only; rw [if_pos ⟨by omega, hov⟩]
          rw [hov] at hout
          clear hr0 hov hu0 hne1
          generalize t.area = ta at *
          go_enter Try.func31, Try.ntmps31
          go_wp2_with fail
          refine hs.mono ?_
          rintro e _ ⟨rfl, rfl⟩
          go_wp2_with fail
          refine hout.mono ?_
          rintro e _ ⟨rfl, rfl⟩
          go_wp2_with fail
          refine hR.out _ _ ?_
          rw [hr.out]
          exact Did.none h (Drew.refl _)
        · have hr : Hid (P.setPortal a x = (0, P.setSp a { P.sp a with portal := x })) := by show _ = _; rw [hr0.out, if_neg hne1, if_neg hu0]; simp only; rw [if_neg (fun z => by rw [hov] at z; cases z.2)]
          rw [hov] at hout
          clear hr0 hov hu0 hne1
          generalize t.area = ta at *
          go_enter Try.func31, Try.ntmps31
          go_wp2_with fail
          refine hs.mono ?_
          rintro e _ ⟨rfl, rfl⟩
          go_wp2_with fail
          refine hout.mono ?_
          rintro e _ ⟨rfl, rfl⟩
          go_wp2_with fail
          refine hR.out _ _ ?_
          rw [hr.out]
          exact ⟨rfl, L, X, (HFIN.out _ rfl).1, fun k hk => .inl hk, (HFIN.out _ rfl).2⟩
      · have hr : Hid (P.setPortal a x = (13, P)) := by show _ = _; rw [hr0.out, if_neg hne1, if_pos (by simpa using hu)]
        clear hr0 hne1
        go_enter Try.func31, Try.ntmps31
        go_wp2_with fail
        refine hs.mono ?_
        rintro e _ ⟨rfl, rfl⟩
        go_wp2_with fail
        refine hR.out _ _ ?_
        rw [hr.out]
        exact Did.none h (Drew.refl _)
end
end Go.Proofs.Ytbjmgbbggbbidaa
