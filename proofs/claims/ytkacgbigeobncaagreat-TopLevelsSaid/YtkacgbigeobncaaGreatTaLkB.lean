/- Lemmas of this claim. -/
import Derived.Test.YtkacgbigeobncaaGreatTaLkA
namespace Go.Proofs.YtkacgbigeobncaaGreat
open Go.RowKit Go.Maps
set_option maxHeartbeats 6400000
set_option maxRecDepth 100000
set_option linter.unusedVariables false
set_option linter.unusedSimpArgs false
def FnTy (fid : FuncId) (caps : Array Value) (w : World) (l : List Ty) (p : Ty → Bool) : Prop := Ent fid ∧ ∀ x, x ∈ l → ∀ w', Only [] w w' → Calls Tryz.prog fid (#[x.val] ++ caps) w' (Ret w' (.bool (p x)))
theorem any_takeTy {p : Ty → Bool} {l : List Ty} {k : Nat} {x : Ty} (hx : l[k]? = some x) (h : (l.take k).any p = false) (hp : p x = false) : (l.take (k + 1)).any p = false := by
  rw [List.take_add_one, hx, List.any_append, h]
  simp [hp]
theorem indexFuncTy (w : World) (v : Value) (l : List Ty) (fid : FuncId) (caps : Array Value) (p : Ty → Bool) (hr : Rd Ty.row 2 w v l) (hl : l.length ≤ 1000000) (hF : FnTy fid caps w l p) :
    Calls Tryz.prog 61 #[v, .func (.func fid) #[] caps] w fun e w' => ∃ r : Int, e = .returned (.int .i64 r) ∧ decide (0 ≤ r) = l.any p ∧ Only [] w w' := by
  refine calls_abs fun R hR => ?_
  obtain ⟨va, vc, rfl⟩ := hr.len
  obtain ⟨n, hn⟩ : ∃ n, n = l.length := ⟨_, rfl⟩
  rw [← hn] at hr hl ⊢
  have HN := Lib.hid hn
  have HR := Lib.hid hr
  obtain ⟨hent, hF⟩ := hF
  have HF := Lib.hid hF
  unfold Ent at hent
  have HNO := Lib.hid (show ∀ wr, l.any p = false → Only [] w wr → R (.returned (.int .i64 (-1))) wr from fun wr h1 h2 => hR.out _ _ ⟨-1, rfl, by rw [h1]; rfl, h2⟩)
  have HYES := Lib.hid (show ∀ wr (k : Nat) x, l[k]? = some x → p x = true → Only [] w wr → R (.returned (.int .i64 k)) wr from fun wr k x h0 h1 h2 => hR.out _ _ ⟨k, rfl, by rw [List.any_eq_true.2 ⟨x, List.mem_of_getElem? h0, h1⟩]; simp, h2⟩)
  clear hn hr hF hR
  go_enter Tryz.func61, Tryz.ntmps61
  go_wp2_with fail
  go_loopw [8] (fun i wr => ∃ k : Nat, k ≤ n ∧ i = .int .i64 k ∧ Only [] w wr ∧ Hid ((l.take k).any p = false)) (fun i _ => n - (intOf i).toNat)
  case atStart => exact ⟨0, by omega, rfl, Only.refl _ _, Lib.hid rfl⟩
  case round =>
    obtain ⟨k, hk, rfl, ho, hf⟩ := hrel
    have HO := Lib.hid ho
    clear ho
    by_cases hlt : k < n
    · obtain ⟨x, hx⟩ : ∃ x, l[k]? = some x := ⟨_, List.getElem?_eq_getElem (by rw [← HN.out]; exact hlt)⟩
      obtain ⟨b0, o0, rfl, hcell⟩ := HR.out.at (by rw [← HN.out]; omega)
      have hcl := hcell wr HO.out k x hx
      have HX := Lib.hid hx
      have q0 := hcl 0 _ rfl
      have q1 := hcl 1 _ rfl
      simp only [Nat.add_zero] at q0
      have cf := HF.out x (List.mem_of_getElem? hx) wr HO.out
      clear hcell hcl hx
      cases hp : p x
      · rw [hp] at cf
        have HP := Lib.hid (any_takeTy HX.out hf.out hp)
        clear hp
        go_wp2_with fail
        refine cf.mono ?_
        rintro e w3 ⟨rfl, ho3⟩
        have HO3 := Lib.hid (HO.out.trans ho3 (by simp))
        clear ho3 cf q0
        go_wp2_with fail
        exact ⟨⟨k + 1, by omega, by go_num, HO3.out, HP⟩, by simp [intOf]; omega⟩
      · rw [hp] at cf
        have HP := Lib.hid hp
        clear hp
        go_wp2_with fail
        refine cf.mono ?_
        rintro e w3 ⟨rfl, ho3⟩
        have HO3 := Lib.hid (HO.out.trans ho3 (by simp))
        clear ho3 cf q0
        go_wp2_with fail
        exact HYES.out _ k x HX.out HP.out HO3.out
    · go_wp2_with fail
      refine HNO.out _ ?_ HO.out
      have := hf.out
      rwa [List.take_of_length_le (by rw [← HN.out]; omega)] at this
theorem containsFuncTy (w : World) (v : Value) (l : List Ty) (fid : FuncId) (caps : Array Value) (p : Ty → Bool) (hr : Rd Ty.row 2 w v l) (hl : l.length ≤ 1000000) (hF : FnTy fid caps w l p) :
    Calls Tryz.prog 41 #[v, .func (.func fid) #[] caps] w (Ret w (.bool (l.any p))) := by
  refine calls_abs fun R hR => ?_
  have c := indexFuncTy w v l fid caps p hr hl hF
  clear hr hF
  go_enter Tryz.func41, Tryz.ntmps41
  go_wp2_with fail
  refine c.mono ?_
  rintro e w1 ⟨r, rfl, h1, ho⟩
  have H1 := Lib.hid h1
  clear h1 c
  go_wp2_with fail
  refine hR.out _ _ ⟨?_, ho⟩
  rw [← H1.out]
  rfl
theorem isType_any (w : World) (X : MX) (M : Mod) (h : ModA w X M) (t : Ty) (least : Int) : Calls Tryz.prog 148 #[modV X M, t.val, .int .i64 least] w (Ret w (.bool (M.isType t least))) := by
  refine calls_abs fun R hR => ?_
  have H : Hid (∀ b w', b = M.isType t least → Only [] w w' → R (.returned (.bool b)) w') := fun b w' hb ho => hR.out _ _ ⟨by rw [hb], ho⟩
  obtain ⟨k, c⟩ := t
  have HO := Lib.hid (((Only.refl [] w).alloc (.cells #[X.vc, X.vs, X.vm, .int .i64 M.sel] 177)).alloc (.cells #[.int .i64 k, .int .i64 c] 68))
  have cc := isClass_any _ X M (h.only HO.out) c
  have HI := Lib.hid (show M.isType ⟨k, c⟩ least = (if k = 2 ∨ k = 4 then M.isClass c else if k = 0 ∨ k = 1 ∨ k = 3 then decide (least ≤ k) && decide (c = 0) else false) from rfl)
  obtain ⟨a1, c1, b1, d1, e1, f1, h1, h2, h3⟩ := h.lens
  unfold modV Ty.val at *
  dsimp only at *
  generalize X.vc = vc at *
  generalize X.vs = vs at *
  generalize X.vm = vm at *
  generalize M.sel = sl at *
  generalize M.isClass c = ic at *
  subst h1 h2 h3
  clear hR h
  by_cases k2 : k = 2
  · subst k2
    go_enter Tryz.func148, Tryz.ntmps148
    go_wp2_with fail
    refine cc.mono ?_
    rintro e w3 ⟨rfl, ho⟩
    have HO3 := Lib.hid (HO.out.trans ho (by simp))
    clear cc ho
    go_wp2_with fail
    exact H.out _ _ (by rw [HI.out]; simp) HO3.out
  by_cases k4 : k = 4
  · subst k4
    go_enter Tryz.func148, Tryz.ntmps148
    go_wp2_with fail
    refine cc.mono ?_
    rintro e w3 ⟨rfl, ho⟩
    have HO3 := Lib.hid (HO.out.trans ho (by simp))
    clear cc ho
    go_wp2_with fail
    exact H.out _ _ (by rw [HI.out]; simp) HO3.out
  clear cc
  by_cases k0 : k = 0
  · subst k0
    go_enter Tryz.func148, Tryz.ntmps148
    go_wp2_with fail
    all_goals
      refine H.out _ _ ?_ HO.out
      rw [HI.out]
      clear H HI HO
      simp_all
      try first | rfl | (intros; omega)
  by_cases k1 : k = 1
  · subst k1
    go_enter Tryz.func148, Tryz.ntmps148
    go_wp2_with fail
    all_goals
      refine H.out _ _ ?_ HO.out
      rw [HI.out]
      clear H HI HO
      simp_all
      try first | rfl | (intros; omega)
  by_cases k3 : k = 3
  · subst k3
    go_enter Tryz.func148, Tryz.ntmps148
    go_wp2_with fail
    all_goals
      refine H.out _ _ ?_ HO.out
      rw [HI.out]
      clear H HI HO
      simp_all
      try first | rfl | (intros; omega)
  · have HF := Lib.hid (show M.isType ⟨k, c⟩ least = false by rw [HI.out, if_neg (by omega), if_neg (by omega)])
    go_enter Tryz.func148, Tryz.ntmps148
    go_wp2_with fail
    all_goals exact H.out _ _ HF.out.symm HO.out
theorem ent_areTypes1 : Ent 147 := ent Tryz.func147 (by kernel_rfl) rfl
def ChkAt (w : World) (cb : Nat) (X : MX) (M : Mod) : Prop := w.cell? ⟨cb, 0, none⟩ = some X.vc ∧ w.cell? ⟨cb, 1, none⟩ = some X.vs ∧ w.cell? ⟨cb, 2, none⟩ = some X.vm ∧ w.cell? ⟨cb, 3, none⟩ = some (.int .i64 M.sel)
theorem ChkAt.only {w w' : World} {cb : Nat} {X : MX} {M : Mod} (h : ChkAt w cb X M) (ho : Only [] w w') : ChkAt w' cb X M :=
  ⟨ho.cell h.1 (by simp), ho.cell h.2.1 (by simp), ho.cell h.2.2.1 (by simp), ho.cell h.2.2.2 (by simp)⟩
theorem ChkAt.new (w : World) (X : MX) (M : Mod) : ChkAt (w.alloc (.cells #[X.vc, X.vs, X.vm, .int .i64 M.sel] 177)) w.heap.size X M :=
  have h := Row.new w 177 [X.vc, X.vs, X.vm, .int .i64 M.sel]
  ⟨h.cell 0 rfl, h.cell 1 rfl, h.cell 2 rfl, h.cell 3 rfl⟩
theorem areTypes1_any (w : World) (X : MX) (M : Mod) (h : ModA w X M) (cb : Nat) (hc : ChkAt w cb X M) (t : Ty) : Calls Tryz.prog 147 #[t.val, .pointer (some ⟨cb, 0, none⟩)] w (Ret w (.bool (!M.isType t 1))) := by
  refine calls_abs fun R hR => ?_
  have HO := Lib.hid ((Only.refl [] w).alloc (.cells #[.int .i64 t.kind, .int .i64 t.cls] 68))
  obtain ⟨q0, q1, q2, q3⟩ := hc.only HO.out
  have cc := isType_any _ X M (h.only HO.out) t 1
  unfold modV Ty.val at *
  clear h hc
  go_enter Tryz.func147, Tryz.ntmps147
  go_wp2_with fail
  refine cc.mono ?_
  rintro e w3 ⟨rfl, ho⟩
  have HO3 := Lib.hid (HO.out.trans ho (by simp))
  clear cc ho
  go_wp2_with fail
  exact hR.out _ _ ⟨rfl, HO3.out⟩
theorem areTypes_any (w : World) (X : MX) (M : Mod) (h : ModA w X M) (v : Value) (l : List Ty) (hv : RdT w v l) (most : Int) (hm : most ≤ 1000000) : Calls Tryz.prog 98 #[modV X M, v, .int .i64 most] w (Ret w (.bool (M.areTypes l most))) := by
  refine calls_abs fun R hR => ?_
  have HO := Lib.hid ((Only.refl [] w).alloc (.cells #[X.vc, X.vs, X.vm, .int .i64 M.sel] 177))
  have hch := ChkAt.new w X M
  have H : Hid (∀ b w', b = M.areTypes l most → Only [] w w' → R (.returned (.bool b)) w') := fun b w' hb ho => hR.out _ _ ⟨by rw [hb], ho⟩
  have HC := Lib.hid (show (l.length : Int) ≤ most → Calls Tryz.prog 41 #[v, .func (.func 147) #[] #[.pointer (some ⟨w.heap.size, 0, none⟩)]] (w.alloc (.cells #[X.vc, X.vs, X.vm, .int .i64 M.sel] 177)) (Ret _ (.bool (l.any fun t => !M.isType t 1))) from fun hl =>
    containsFuncTy _ v l _ _ _ (hv.only HO.out) (by omega) ⟨ent_areTypes1, fun x hx w' ho => areTypes1_any w' X M ((h.only HO.out).only ho) _ (hch.only ho) x⟩)
  obtain ⟨va, vc, rfl⟩ := hv.len
  obtain ⟨n, hn⟩ : ∃ n, n = l.length := ⟨_, rfl⟩
  rw [← hn] at HC ⊢
  have HI := Lib.hid (show M.areTypes l most = (decide ((n : Int) ≤ most) && !(l.any fun t => !M.isType t 1)) by rw [hn]; rfl)
  unfold modV
  clear hR h hv hch hn
  generalize (l.any fun t => !M.isType t 1) = bt at *
  by_cases hl : (n : Int) ≤ most
  · have cc := HC.out hl
    clear HC
    go_enter Tryz.func98, Tryz.ntmps98
    go_wp2_with fail
    refine cc.mono ?_
    rintro e w3 ⟨rfl, ho⟩
    have HO3 := Lib.hid (HO.out.trans ho (by simp))
    clear cc ho
    go_wp2_with fail
    exact H.out _ _ (by rw [HI.out, decide_eq_true hl]; rfl) HO3.out
  · clear HC
    go_enter Tryz.func98, Tryz.ntmps98
    go_wp2_with fail
    exact H.out _ _ (by rw [HI.out, decide_eq_false (by omega)]; rfl) HO.out
end Go.Proofs.YtkacgbigeobncaaGreat
