/- Lemmas of this claim. -/
import Derived.Test.YtkacgbigeobncaaGreatTaLkB
import Derived.Laws.StructEq
namespace Go.Proofs.YtkacgbigeobncaaGreat
open Go.RowKit Go.Maps
set_option maxHeartbeats 6400000
set_option maxRecDepth 100000
set_option linter.unusedVariables false
set_option linter.unusedSimpArgs false
theorem above_any (w : World) (X : MX) (M : Mod) (h : ModA w X M) (k : Nat) (hs : M.SupOk k) (hk : k ≤ M.classes.length) (a b : Int) (ha : a < k) (hb : -1 ≤ b) : Calls Tryz.prog 171 #[modV X M, .int .i64 a, .int .i64 b] w (Ret w (.bool (M.above a b))) := by
  refine calls_abs fun R hR => ?_
  have HO := Lib.hid ((Only.refl [] w).alloc (.cells #[X.vc, X.vs, X.vm, .int .i64 M.sel] 177))
  have hch := ChkAt.new w X M
  have H : Hid (∀ x w', x = M.above a b → Only [] w w' → R (.returned (.bool x)) w') := fun x w' hx ho => hR.out _ _ ⟨by rw [hx], ho⟩
  have HM := Lib.hid (h.only HO.out)
  have HC := Lib.hid hch
  have HS := Lib.hid hs
  unfold modV
  clear h hch hR hs
  go_enter Tryz.func171, Tryz.ntmps171
  go_upto_region 1 with fail
  generalize w.alloc (.cells #[X.vc, X.vs, X.vm, .int .i64 M.sel] 177) = w1 at *
  go_wp2_with fail
  go_loopw [1] (fun av wr => ∃ a' : Int, av = .int .i64 a' ∧ wr = w1 ∧ a' < k ∧ Hid (M.upN (a + 1).toNat a b = M.upN (a' + 1).toNat a' b)) (fun av _ => (intOf av + 1).toNat)
  case atStart => exact ⟨a, rfl, rfl, ha, Lib.hid rfl⟩
  case round =>
    obtain ⟨a', rfl, rfl, ha', HU⟩ := hrel
    by_cases hlt : b < a'
    · obtain ⟨j, rfl⟩ : ∃ j : Nat, a' = j := ⟨a'.toNat, by omega⟩
      have hjk : j < M.classes.length := by omega
      have hjI : (j : Int) < M.classes.length := by omega
      obtain ⟨b0, o0, c0, fv, mv, hvc, _, _, hcell⟩ := HM.out.clAt hjk
      obtain ⟨q0, _⟩ := HC.out
      rw [hvc] at q0
      obtain ⟨_, q1, _, _⟩ := hcell wr (Only.refl _ _)
      have hst := HS.out j (by omega)
      have HU2 := Lib.hid (show M.upN (a + 1).toNat a b = M.upN ((M.cl j).super + 1).toNat (M.cl j).super b by rw [HU.out]; exact Mod.up_step HS.out hb ha' hlt)
      generalize (M.cl j).super = sp at *
      generalize M.classes.length = nc at *
      clear hcell hvc HU
      go_wp2_with fail
      exact ⟨⟨sp, rfl, by trivial, by omega, HU2⟩, by simp [intOf]; omega⟩
    · have HE := Lib.hid (show M.above a b = (a' == b) by unfold Mod.above; rw [HU.out, Mod.up_end hlt])
      go_wp2_with fail
      exact H.out _ _ HE.out.symm HO.out
theorem entry_any (w : World) (X : MX) (M : Mod) (h : ModA w X M) (k s n : Nat) (hs : M.SupOk (k + 1)) (hk : k < M.classes.length) (hn : n < M.methods.length) (hl : ∀ j, j ≤ k → ((M.cl j).meths.length : Int) = M.sel) (hsl : (s : Int) < M.sel) :
    Calls Tryz.prog 149 #[modV X M, .int .i64 k, .int .i64 s, .int .i64 n] w (Ret w (.bool (M.entry k s n))) := by
  refine calls_abs fun R hR => ?_
  obtain ⟨vc, vs, vm, cx, mx⟩ := X
  have HO := Lib.hid ((Only.refl [] w).alloc (.cells #[vc, vs, vm, .int .i64 M.sel] 177))
  have hch := ChkAt.new w ⟨vc, vs, vm, cx, mx⟩ M
  have H : Hid (∀ x w', x = M.entry k s n → Only [] w w' → R (.returned (.bool x)) w') := fun x w' hx ho => hR.out _ _ ⟨by rw [hx], ho⟩
  have hM := h.only HO.out
  have HC := Lib.hid hch
  have HS := Lib.hid hs
  obtain ⟨bm, om, cm, pv, lv, cv, hvm, _, _, _, hcm⟩ := hM.meAt hn
  obtain ⟨own, hown⟩ : ∃ z, z = (M.me n).cls := ⟨_, rfl⟩
  have HI := Lib.hid (show M.entry k s n = (decide (0 ≤ own) && decide (own ≤ k) && M.above k own && decide (gI (M.cl own.toNat).meths s = n)) by rw [hown]; rfl)
  obtain ⟨_, p1, _⟩ := hcm _ (Only.refl _ _)
  rw [← hown] at p1
  have hq := hch
  obtain ⟨q0, _, q2, _⟩ := hq
  have hnI : (n : Int) < M.methods.length := by omega
  have hab : Hid (0 ≤ own → own ≤ k → ∀ W, Only [] w W → Calls Tryz.prog 171 #[modV ⟨vc, vs, vm, cx, mx⟩ M, .int .i64 k, .int .i64 own] W (Ret W (.bool (M.above k own)))) := fun h1 h2 W ho => above_any W _ M (h.only ho) (k + 1) hs (by omega) k own (by omega) (by omega)
  have HCL : Hid (0 ≤ own → own ≤ k → ∃ b0 o0 c0 mv, vc = .slice (some ⟨b0, o0, none⟩) M.classes.length c0 ∧ Read w mv (M.cl own.toNat).meths ∧ ∀ wr, Only [] w wr → wr.cell? ⟨b0, o0 + own.toNat * 4 + 3, none⟩ = some mv) := by
    intro h1 h2
    obtain ⟨b0, o0, c0, fv, mv, e1, _, e3, e4⟩ := h.clAt (k := own.toNat) (by omega)
    exact ⟨b0, o0, c0, mv, e1, e3, fun wr ho => (e4 wr ho).2.2.2⟩
  have HL := Lib.hid (show 0 ≤ own → own ≤ k → (s < (M.cl own.toNat).meths.length ∧ (s : Int) < (M.cl own.toNat).meths.length) from fun h1 h2 => by have := hl own.toNat (by omega); omega)
  dsimp only at hvm q0 q2
  subst hvm
  unfold modV at *
  dsimp only at *
  generalize hnm : M.methods.length = nm at *
  clear hM h hch hR hs hown hcm hl HC
  by_cases h1 : 0 ≤ own
  · by_cases h2 : own ≤ k
    · have ca := hab.out h1 h2
      obtain ⟨b0, o0, c0, mv, hvc, hrd, hcl⟩ := HCL.out h1 h2
      obtain ⟨hsl1, hsl2⟩ := HL.out h1 h2
      obtain ⟨va, vcx, rfl⟩ := hrd.len
      subst hvc
      have hownI : own < M.classes.length := by omega
      have HQ0 := Lib.hid q0
      have HRD := Lib.hid hrd
      have HCX := Lib.hid hcl
      have HIX : (own.toNat : Int) = own := by omega
      generalize hmm : (M.cl own.toNat).meths = mm at *
      clear hab HCL HL hrd hcl hmm
      go_enter Tryz.func149, Tryz.ntmps149
      go_wp2_with fail
      refine (ca _ HO.out).mono ?_
      rintro e w3 ⟨rfl, ho⟩
      have HO3 := Lib.hid (HO.out.trans ho (by simp))
      have r0 := ho.cell HQ0.out (by simp)
      have r3 := HCX.out w3 HO3.out
      rcases (HRD.out.only0 HO3.out) with ⟨b5, o5, c5, f1, g1⟩ | ⟨oa, c5, f1, g1⟩
      rotate_left
      · rw [g1] at hsl1; simp at hsl1
      simp only [Value.slice.injEq] at f1
      obtain ⟨rfl, _, rfl⟩ := f1
      have g2 := g1 s hsl1
      clear ca ho g1 q0 q2 p1
      generalize M.above k own = ab at *
      generalize gI mm s = ms at *
      cases ab
      · go_wp2_with fail
        exact H.out _ _ (by rw [HI.out]; simp) HO3.out
      · go_wp2_with fail
        refine H.out _ _ ?_ HO3.out
        rw [HI.out, decide_eq_true h1, decide_eq_true h2]
        simp
        try rfl
    · go_enter Tryz.func149, Tryz.ntmps149
      go_wp2_with fail
      exact H.out _ _ (by rw [HI.out, decide_eq_false (by omega : ¬ own ≤ k), Bool.and_false, Bool.false_and, Bool.false_and]) HO.out
  · go_enter Tryz.func149, Tryz.ntmps149
    go_wp2_with fail
    exact H.out _ _ (by rw [HI.out, decide_eq_false (by omega : ¬ 0 ≤ own)]; simp) HO.out
end Go.Proofs.YtkacgbigeobncaaGreat
namespace Go.Proofs.YtkacgbigeobncaaGreat
open Go.RowKit Go.Maps
set_option maxHeartbeats 6400000
set_option maxRecDepth 100000
set_option linter.unusedVariables false
set_option linter.unusedSimpArgs false
def Ty.eqB (s u : Ty) : Bool := (s.kind == u.kind) && (s.cls == u.cls)
theorem Ty.eqB_iff {s u : Ty} : s.eqB u = true ↔ s = u := by
  unfold eqB
  simp only [Bool.and_eq_true, beq_iff_eq]
  constructor
  · rintro ⟨h1, h2⟩; cases s; cases u; simp_all
  · rintro rfl; simp
theorem neqTy (a b c d : Int) (wx : World) : (binOp .neq 68 (.agg #[.int .i64 a, .int .i64 b]) (.agg #[.int .i64 c, .int .i64 d])).run Tryz.prog wx = .ok (.bool (!((a == c) && (b == d)))) wx := by
  rw [run_neq_struct, run_equalIn_struct wx 9999 _ _ _ (by kernel_rfl) (by kernel_rfl)]
  cases h1 : (a == c) <;> cases h2 : (b == d) <;> simp [go_sem, Tryz.underlying68, Tryz.underlying3, part, h1, h2]
theorem load_ty (w : World) (b o : Nat) (x : Ty) (h0 : w.cell? ⟨b, o, none⟩ = some (.int .i64 x.kind)) (h1 : w.cell? ⟨b, o + 1, none⟩ = some (.int .i64 x.cls)) (n : Nat) :
    (loadVar 68 ⟨b, o, none⟩).run Tryz.prog (w.drewN n) = .ok (.agg #[.int .i64 x.kind, .int .i64 x.cls]) (w.drewN n) :=
  run_loadVar_agg (w.drewN n) b o 68 [.int .i64 x.kind, .int .i64 x.cls] _ Tryz.underlying68 rfl (by kernel_rfl) (fun r v hv => by
    match r, hv with
    | 0, hv => (cases hv; exact h0)
    | 1, hv => (cases hv; exact h1)
    | r + 2, hv => simp at hv)
theorem take_eq_succ {α : Type} {l1 l2 : List α} {k : Nat} {x y : α} (h1 : l1[k]? = some x) (h2 : l2[k]? = some y) (h : l1.take k = l2.take k) (e : x = y) : l1.take (k + 1) = l2.take (k + 1) := by
  rw [List.take_add_one, List.take_add_one, h1, h2, h, e]
theorem equalTys (w : World) (v1 v2 : Value) (l1 l2 : List Ty) (h1 : RdT w v1 l1) (h2 : RdT w v2 l2) (hl : l1.length ≤ 1000000) :
    Calls Tryz.prog 150 #[v1, v2] w (Ret w (.bool (decide (l1 = l2)))) := by
  refine calls_abs fun R hR => ?_
  obtain ⟨a1, c1, rfl⟩ := h1.len
  obtain ⟨a2, c2, rfl⟩ := h2.len
  have HNO := Lib.hid (show ∀ w', Drew w w' → l1 ≠ l2 → R (.returned (.bool false)) w' from fun w' hd hne => hR.out _ _ ⟨by rw [decide_eq_false hne], hd.only []⟩)
  have HYES := Lib.hid (show ∀ w', Drew w w' → l1 = l2 → R (.returned (.bool true)) w' from fun w' hd he => hR.out _ _ ⟨by rw [decide_eq_true he], hd.only []⟩)
  have HR1 := Lib.hid h1
  have HR2 := Lib.hid h2
  obtain ⟨n, hn⟩ : ∃ n, n = l1.length := ⟨_, rfl⟩
  obtain ⟨m, hm⟩ : ∃ n, n = l2.length := ⟨_, rfl⟩
  rw [← hn] at HR1 hl ⊢
  rw [← hm] at HR2 ⊢
  have HN := Lib.hid hn
  have HM := Lib.hid hm
  clear h1 h2 hR hn hm
  by_cases hnm : n = m
  · subst hnm
    have hq := neqTy
    go_enter Tryz.func150, Tryz.ntmps150
    go_wp2_with fail
    go_loopw [13] (fun i wr => ∃ k : Nat, k ≤ n ∧ i = .int .i64 k ∧ Drew w wr ∧ Hid (l1.take k = l2.take k)) (fun i _ => n - (intOf i).toNat)
    case atStart => exact ⟨0, by omega, rfl, Drew.refl _, Lib.hid rfl⟩
    case round =>
      obtain ⟨k, hk, rfl, hd, HT⟩ := hrel
      have HD := Lib.hid hd
      clear hd
      by_cases hlt : k < n
      · obtain ⟨x, hx⟩ : ∃ x, l1[k]? = some x := ⟨_, List.getElem?_eq_getElem (by rw [← HN.out]; exact hlt)⟩
        obtain ⟨y, hy⟩ : ∃ x, l2[k]? = some x := ⟨_, List.getElem?_eq_getElem (by rw [← HM.out]; exact hlt)⟩
        obtain ⟨b1, o1, rfl, hc1⟩ := HR1.out.at (by rw [← HN.out]; omega)
        obtain ⟨b2, o2, rfl, hc2⟩ := HR2.out.at (by rw [← HM.out]; omega)
        have hb1 : (0 : Int) ≤ k := by omega
        have hb2 : (k : Int) < n := by omega
        have d1 := hc1 wr (HD.out.only []) k x hx
        have d2 := hc2 wr (HD.out.only []) k y hy
        have q0 := d1 0 _ rfl
        have q1 := d1 1 _ rfl
        have r0 := d2 0 _ rfl
        have r1 := d2 1 _ rfl
        simp only [Nat.add_zero] at q0 r0
        have hl1 : ∀ n, (loadVar 68 ⟨b1, o1 + k * 2, none⟩).run Tryz.prog (wr.drewN n) = .ok (.agg #[.int .i64 x.kind, .int .i64 x.cls]) (wr.drewN n) := fun n => load_ty wr b1 _ x q0 q1 n
        have hl2 : ∀ n, (loadVar 68 ⟨b2, o2 + k * 2, none⟩).run Tryz.prog (wr.drewN n) = .ok (.agg #[.int .i64 y.kind, .int .i64 y.cls]) (wr.drewN n) := fun n => load_ty wr b2 _ y r0 r1 n
        have HX := Lib.hid hx
        have HY := Lib.hid hy
        clear q0 q1 r0 r1
        clear hc1 hc2 d1 d2 hx hy
        have HE := Lib.hid (show x.eqB y = ((x.kind == y.kind) && (x.cls == y.cls)) from rfl)
        obtain ⟨eb, heb⟩ : ∃ z, z = ((x.kind == y.kind) && (x.cls == y.cls)) := ⟨_, rfl⟩
        rw [← heb] at HE
        have hq2 := fun wx => hq x.kind x.cls y.kind y.cls wx
        rw [← heb] at hq2
        clear hq heb
        cases eb
        · go_upto_region 6 with fail
          refine wp_region_quiet_lit (by kernel_rfl) (by kernel_rfl) ?_
          repeat (first | (quiet_step (fail)) | (refine wpQuiet_load_agg 68 _ rfl (by rfl) b1 (o1 + k * 2) rfl hl1 ?_) | (refine wpQuiet_load_agg 68 _ rfl (by rfl) b2 (o2 + k * 2) rfl hl2 ?_))
          refine wpQuiet_nil ?_
          intro _ hw'
          obtain ⟨nq, hw''⟩ := hw'
          subst hw''
          go_wp2_with fail
          refine HNO.out _ (HD.out.more _) fun e => ?_
          have h3 := HX.out
          rw [e, HY.out] at h3
          cases h3
          exact absurd (Ty.eqB_iff.2 rfl) (by rw [HE.out]; simp)
        · have HXY := Lib.hid (Ty.eqB_iff.1 HE.out)
          go_upto_region 6 with fail
          refine wp_region_quiet_lit (by kernel_rfl) (by kernel_rfl) ?_
          repeat (first | (quiet_step (fail)) | (refine wpQuiet_load_agg 68 _ rfl (by rfl) b1 (o1 + k * 2) rfl hl1 ?_) | (refine wpQuiet_load_agg 68 _ rfl (by rfl) b2 (o2 + k * 2) rfl hl2 ?_))
          refine wpQuiet_nil ?_
          intro _ hw'
          obtain ⟨nq, hw''⟩ := hw'
          subst hw''
          go_wp2_with fail
          exact ⟨⟨k + 1, by omega, by go_num, HD.out.more _, Lib.hid (take_eq_succ HX.out HY.out HT.out HXY.out)⟩, by simp [intOf]; omega⟩
      · go_wp2_with fail
        refine HYES.out _ HD.out ?_
        have := HT.out
        rwa [List.take_of_length_le (by rw [← HN.out]; omega), List.take_of_length_le (by rw [← HM.out]; omega)] at this
  · have hnI : ((n : Int) != (m : Int)) = true := by simp; omega
    have HNM := Lib.hid hnm
    clear hnm
    go_enter Tryz.func150, Tryz.ntmps150
    go_wp2_with fail
    exact HNO.out _ (Drew.refl _) fun e => HNM.out (by rw [HN.out, HM.out, e])
end Go.Proofs.YtkacgbigeobncaaGreat
