/- Lemmas of this claim. -/
import Derived.Test.YtkacgbigeobncaaGreatTaLkF
namespace Go.Proofs.YtkacgbigeobncaaGreat
open Go.RowKit Go.Maps
set_option maxHeartbeats 6400000
set_option maxRecDepth 100000
set_option linter.unusedVariables false
set_option linter.unusedSimpArgs false
def FnN (fid : FuncId) (caps : Array Value) (w : World) (l : List Int) (p : Int → Bool) : Prop := Ent fid ∧ ∀ x, x ∈ l → ∀ w', Only [] w w' → Calls Tryz.prog fid (#[.int .i64 x] ++ caps) w' (Ret w' (.bool (p x)))
theorem any_takeN {p : Int → Bool} {l : List Int} {k : Nat} (hk : k < l.length) (h : (l.take k).any p = false) (hp : p (gI l k) = false) : (l.take (k + 1)).any p = false := by
  have hx : l[k]? = some (gI l k) := by unfold gI; simp [hk]
  rw [List.take_add_one, hx, List.any_append, h]
  simp [hp]
theorem indexFuncN2 (w : World) (v : Value) (l : List Int) (fid : FuncId) (caps : Array Value) (p : Int → Bool) (hr : Read w v l) (hl : l.length ≤ 1000000) (hF : FnN fid caps w l p) :
    Calls Tryz.prog 27 #[v, .func (.func fid) #[] caps] w fun e w' => ∃ r : Int, e = .returned (.int .i64 r) ∧ decide (0 ≤ r) = l.any p ∧ Only [] w w' := by
  refine calls_abs fun R hR => ?_
  obtain ⟨va, vc, rfl⟩ := hr.len
  obtain ⟨n, hn⟩ : ∃ n, n = l.length := ⟨_, rfl⟩
  rw [← hn] at hr hl ⊢
  have HN := Lib.hid hn
  have HR := Lib.hid hr
  obtain ⟨hent, hF⟩ := hF
  have HF := Lib.hid hF
  unfold Ent at hent
  have HNO := Lib.hid (show ∀ wr, l.any p = false → Only [] w wr → R (.returned (.int .i64 (-1))) wr from fun wr h1 h2 => hR.out _ _ ⟨-1, rfl, by rw [h1]; rfl, h2⟩)
  have HYES := Lib.hid (show ∀ wr (k : Nat), k < l.length → p (gI l k) = true → Only [] w wr → R (.returned (.int .i64 k)) wr from fun wr k h0 h1 h2 => hR.out _ _ ⟨k, rfl, by rw [List.any_eq_true.2 ⟨gI l k, by unfold gI; simp [h0], h1⟩]; simp, h2⟩)
  clear hn hr hF hR
  go_enter Tryz.func27, Tryz.ntmps27
  go_wp2_with fail
  go_loopw [8] (fun i wr => ∃ k : Nat, k ≤ n ∧ i = .int .i64 k ∧ Only [] w wr ∧ Hid ((l.take k).any p = false)) (fun i _ => n - (intOf i).toNat)
  case atStart => exact ⟨0, by omega, rfl, Only.refl _ _, Lib.hid rfl⟩
  case round =>
    obtain ⟨k, hk, rfl, ho, hf⟩ := hrel
    have HO := Lib.hid ho
    clear ho
    by_cases hlt : k < n
    · rcases (HR.out.only0 HO.out) with ⟨b8, o8, c8, f8, g8⟩ | ⟨oa, c8, f8, g8⟩
      rotate_left
      · rw [g8] at HN; have := HN.out; simp at this; omega
      simp only [Value.slice.injEq] at f8
      obtain ⟨rfl, e8, rfl⟩ := f8
      clear e8
      have g9 := g8 k (by rw [← HN.out]; exact hlt)
      have cf := HF.out (gI l k) (by have := HN.out; unfold gI; simp [show k < l.length by omega]) wr HO.out
      have HKL := Lib.hid (show k < l.length by rw [← HN.out]; exact hlt)
      obtain ⟨x, hx⟩ : ∃ z, z = gI l k := ⟨_, rfl⟩
      rw [← hx] at g9 cf
      have HX := Lib.hid hx
      clear g8 hx
      cases hp : p x
      · rw [hp] at cf
        have HP := Lib.hid (any_takeN HKL.out hf.out (by rw [← HX.out]; exact hp))
        clear hp
        go_wp2_with fail
        refine cf.mono ?_
        rintro e w3 ⟨rfl, ho3⟩
        have HO3 := Lib.hid (HO.out.trans ho3 (by simp))
        clear ho3 cf g9
        go_wp2_with fail
        exact ⟨⟨k + 1, by omega, by go_num, HO3.out, HP⟩, by simp [intOf]; omega⟩
      · rw [hp] at cf
        have HP := Lib.hid hp
        clear hp
        go_wp2_with fail
        refine cf.mono ?_
        rintro e w3 ⟨rfl, ho3⟩
        have HO3 := Lib.hid (HO.out.trans ho3 (by simp))
        clear ho3 cf g9
        go_wp2_with fail
        exact HYES.out _ k HKL.out (by rw [← HX.out]; exact HP.out) HO3.out
    · go_wp2_with fail
      refine HNO.out _ ?_ HO.out
      have := hf.out
      rwa [List.take_of_length_le (by rw [← HN.out]; omega)] at this
theorem containsFuncN2 (w : World) (v : Value) (l : List Int) (fid : FuncId) (caps : Array Value) (p : Int → Bool) (hr : Read w v l) (hl : l.length ≤ 1000000) (hF : FnN fid caps w l p) :
    Calls Tryz.prog 11 #[v, .func (.func fid) #[] caps] w (Ret w (.bool (l.any p))) := by
  refine calls_abs fun R hR => ?_
  have c := indexFuncN2 w v l fid caps p hr hl hF
  clear hr hF
  go_enter Tryz.func11, Tryz.ntmps11
  go_wp2_with fail
  refine c.mono ?_
  rintro e w1 ⟨r, rfl, h1, ho⟩
  have H1 := Lib.hid h1
  clear h1 c
  go_wp2_with fail
  refine hR.out _ _ ⟨?_, ho⟩
  rw [← H1.out]
  rfl
theorem ent_operand1 : Ent 187 := ent Tryz.func187 (by kernel_rfl) rfl
theorem operand1_any (w : World) (x k : Int) (b : Nat) (hb : w.cell? ⟨b, 0, none⟩ = some (.int .i64 k)) : Calls Tryz.prog 187 #[.int .i64 x, .pointer (some ⟨b, 0, none⟩)] w (Ret w (.bool (decide (k ≤ x)))) := by
  refine calls_abs fun R hR => ?_
  go_enter Tryz.func187, Tryz.ntmps187
  go_wp2_with fail
  exact hR.out _ _ ⟨rfl, Only.refl _ _⟩
theorem targets_len (M : Mod) (s : Nat) (h : M.classes.length ≤ 10) : (M.targets s).length ≤ 10 := by
  unfold Mod.targets
  refine Nat.le_trans (compact_len _) ?_
  rw [List.length_mergeSort]
  exact Nat.le_trans (List.length_filter_le _ _) (by rw [List.length_map, List.length_take]; omega)
structure Mod.Base (M : Mod) : Prop where
  c10 : M.classes.length ≤ 10
  m16 : M.methods.length ≤ 16
  s0 : 0 ≤ M.sel
  s16 : M.sel ≤ 16
  row : ∀ j, j < M.classes.length → ((M.cl j).meths.length : Int) = M.sel
theorem operand_any (w : World) (X : MX) (M : Mod) (h : ModA w X M) (hb : M.Base) (k : Nat) (hk : k ≤ M.methods.length) (i : Ins) (hv : i.valid = true) :
    Calls Tryz.prog 153 #[modV X M, .int .i64 k, i.val] w (Ret w (.bool (M.operand k i))) := by
  refine calls_abs fun R hR => ?_
  obtain ⟨vc, vs, vm, cx, mx⟩ := X
  have HHR := Lib.hid hR.out
  obtain ⟨op, a, b⟩ := i
  have H : Hid (∀ x w', x = M.operand k ⟨op, a, b⟩ → Only [] w w' → R (.returned (.bool x)) w') := fun x w' hx ho => hR.out _ _ ⟨by rw [hx], ho⟩
  have HI := Lib.hid (show M.operand k ⟨op, a, b⟩ = if op = 14 ∨ op = 24 then M.isClass a else if op = 16 then M.isClass b else if op = 12 then decide (a = 3) || M.isClass b
    else if op = 22 ∨ op = 23 then decide (a < M.statics.length) else if op = 25 then decide (a < k) && decide ((M.me a.toNat).cls < 0)
    else if op = 26 then decide (a < M.sel) && !((M.targets a.toNat).any fun t => decide ((k : Int) ≤ t)) else true from rfl)
  have HM := Lib.hid h
  have HB := Lib.hid hb
  have HV := Lib.hid hv
  have HO := Lib.hid ((((Only.refl [] w).alloc (.cells #[vc, vs, vm, .int .i64 M.sel] 177)).alloc (.cells #[.int .i64 k] 3)).alloc (.cells #[.int .i64 op, .int .i64 a, .int .i64 b] 64))
  unfold modV Ins.val
  dsimp only
  clear hR h hb hv
  by_cases k14 : op = 14
  · subst k14
    have cc := isClass_any _ _ M (HM.out.only HO.out) a
    unfold modV at cc
    dsimp only at cc
    generalize M.isClass a = ic at *
    go_enter Tryz.func153, Tryz.ntmps153
    go_wp2_with fail
    refine cc.mono ?_
    rintro e w3 ⟨rfl, ho⟩
    have HO3 := Lib.hid (HO.out.trans ho (by simp))
    clear cc ho
    go_wp2_with fail
    exact H.out _ _ (by rw [HI.out]; simp) HO3.out
  by_cases k24 : op = 24
  · subst k24
    have cc := isClass_any _ _ M (HM.out.only HO.out) a
    unfold modV at cc
    dsimp only at cc
    generalize M.isClass a = ic at *
    go_enter Tryz.func153, Tryz.ntmps153
    go_wp2_with fail
    refine cc.mono ?_
    rintro e w3 ⟨rfl, ho⟩
    have HO3 := Lib.hid (HO.out.trans ho (by simp))
    clear cc ho
    go_wp2_with fail
    exact H.out _ _ (by rw [HI.out]; simp) HO3.out
  by_cases k16 : op = 16
  · subst k16
    have cc := isClass_any _ _ M (HM.out.only HO.out) b
    unfold modV at cc
    dsimp only at cc
    generalize M.isClass b = ic at *
    go_enter Tryz.func153, Tryz.ntmps153
    go_wp2_with fail
    refine cc.mono ?_
    rintro e w3 ⟨rfl, ho⟩
    have HO3 := Lib.hid (HO.out.trans ho (by simp))
    clear cc ho
    go_wp2_with fail
    exact H.out _ _ (by rw [HI.out]; simp) HO3.out
  by_cases k12 : op = 12
  · subst k12
    have cc := isClass_any _ _ M (HM.out.only HO.out) b
    unfold modV at cc
    dsimp only at cc
    generalize M.isClass b = ic at *
    by_cases ha : a = 3
    · subst ha
      go_enter Tryz.func153, Tryz.ntmps153
      go_wp2_with fail
      exact H.out _ _ (by rw [HI.out]; simp) HO.out
    · have ha3 : (a == 3) = false := by simpa using ha
      have HA3 := Lib.hid ha
      clear ha
      go_enter Tryz.func153, Tryz.ntmps153
      go_wp2_with fail
      refine cc.mono ?_
      rintro e w3 ⟨rfl, ho⟩
      have HO3 := Lib.hid (HO.out.trans ho (by simp))
      clear cc ho
      go_wp2_with fail
      exact H.out _ _ (by rw [HI.out, decide_eq_false HA3.out]; simp) HO3.out
  by_cases k2x : op = 22 ∨ op = 23
  · obtain ⟨va9, vb9, vc9, vd9, ve9, vf9, l1, l2, l3⟩ := HM.out.lens
    dsimp only at l2
    subst l2
    clear l1 l3
    rcases k2x with rfl | rfl
    all_goals
      go_enter Tryz.func153, Tryz.ntmps153
      go_wp2_with fail
      exact H.out _ _ (by rw [HI.out]; simp) HO.out
  by_cases k25 : op = 25
  · subst k25
    have ha0 : 0 ≤ a := by
      have := HV.out
      simp only [Ins.valid, Bool.and_eq_true] at this
      have h1 := this.1.1.2
      simpa [inR, spec, specs, mostR, mosts] using (by simpa [inR, spec, specs, mostR, mosts] using h1 : 0 ≤ a ∧ a ≤ 15).1
    by_cases hak : a < k
    · obtain ⟨j, rfl⟩ : ∃ j : Nat, a = j := ⟨a.toNat, by omega⟩
      have hjm : j < M.methods.length := by omega
      have hjmI : (j : Int) < M.methods.length := by omega
      obtain ⟨bm, om, cm, pv, lv, cv, hvm, _, _, _, hcm⟩ := HM.out.meAt hjm
      obtain ⟨_, p1, _⟩ := hcm _ HO.out
      dsimp only at hvm
      subst hvm
      have HI2 := Lib.hid (show M.operand k ⟨25, j, b⟩ = decide ((M.me j).cls < 0) by rw [HI.out]; simp; omega)
      generalize (M.me j).cls = mc at *
      clear hcm
      go_enter Tryz.func153, Tryz.ntmps153
      go_wp2_with fail
      exact H.out _ _ HI2.out.symm HO.out
    · have HI2 := Lib.hid (show M.operand k ⟨25, a, b⟩ = false by rw [HI.out]; simp; omega)
      clear ha0
      go_enter Tryz.func153, Tryz.ntmps153
      go_wp2_with fail
      exact H.out _ _ HI2.out.symm HO.out
  by_cases k26 : op = 26
  · subst k26
    have ha0 : 0 ≤ a := by
      have := HV.out
      simp only [Ins.valid, Bool.and_eq_true] at this
      have h1 := this.1.1.2
      simpa [inR, spec, specs, mostR, mosts] using (by simpa [inR, spec, specs, mostR, mosts] using h1 : 0 ≤ a ∧ a ≤ 15).1
    by_cases has : a < M.sel
    · obtain ⟨j, rfl⟩ : ∃ j : Nat, a = j := ⟨a.toNat, by omega⟩
      have ct := targets_any _ _ M (HM.out.only HO.out) j has HB.out.row HB.out.c10
      have HI2 := Lib.hid (show M.operand k ⟨26, j, b⟩ = !((M.targets j).any fun t => decide ((k : Int) ≤ t)) by rw [HI.out]; simp; omega)
      have HTL := Lib.hid (targets_len M j HB.out.c10)
      unfold modV at ct
      dsimp only at ct
      generalize M.targets j = tl at *
      have hck := ((Row.new (w.alloc (.cells #[vc, vs, vm, .int .i64 M.sel] 177)) 3 [.int .i64 k]).alloc (.cells #[.int .i64 26, .int .i64 j, .int .i64 b] 64)).cell 0 rfl
      rw [show (w.alloc (.cells #[vc, vs, vm, .int .i64 M.sel] 177)).heap.size = w.heap.size + 1 by simp] at hck
      have HCK := Lib.hid hck
      clear hck
      go_enter Tryz.func153, Tryz.ntmps153
      go_wp2_with fail
      refine ct.mono ?_
      rintro e w3 ⟨v3, rfl, hi, ho⟩
      have HO3 := Lib.hid (HO.out.trans ho (by simp))
      have hck3 := ho.cell HCK.out (by simp)
      have cx := containsFuncN2 w3 v3 tl 187 #[.pointer (some ⟨w.heap.size + 1, 0, none⟩)] (fun t => decide ((k : Int) ≤ t)) hi.read (by have := HTL.out; omega) ⟨ent_operand1, fun x hx w' ho' => operand1_any w' x k _ (ho'.cell hck3 (by simp))⟩
      generalize (tl.any fun t => decide ((k : Int) ≤ t)) = ta at *
      clear ct hi ho hck3
      go_wp2_with fail
      refine cx.mono ?_
      rintro e w4 ⟨rfl, ho⟩
      have HO4 := Lib.hid (HO3.out.trans ho (by simp))
      clear cx ho
      go_wp2_with fail
      exact H.out _ _ HI2.out.symm HO4.out
    · have HI2 := Lib.hid (show M.operand k ⟨26, a, b⟩ = false by rw [HI.out]; simp; omega)
      clear ha0
      go_enter Tryz.func153, Tryz.ntmps153
      go_wp2_with fail
      exact H.out _ _ HI2.out.symm HO.out
  · have HI2 := Lib.hid (show M.operand k ⟨op, a, b⟩ = true by rw [HI.out, if_neg (by omega), if_neg k16, if_neg k12, if_neg k2x, if_neg k25, if_neg k26])
    have k22 : ¬ op = 22 := fun q => k2x (.inl q)
    have k23 : ¬ op = 23 := fun q => k2x (.inr q)
    clear k2x
    go_enter Tryz.func153, Tryz.ntmps153
    go_wp2_with fail
    all_goals exact H.out _ _ HI2.out.symm HO.out
end Go.Proofs.YtkacgbigeobncaaGreat
