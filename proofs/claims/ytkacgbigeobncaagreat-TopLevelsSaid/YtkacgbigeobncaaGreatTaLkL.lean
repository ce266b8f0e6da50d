/- Lemmas of this claim. -/
import Derived.Test.YtkacgbigeobncaaGreatTaOwn
import Derived.Deep.RegionHeldLaw
namespace Go.Proofs.YtkacgbigeobncaaGreat
open Go.RowKit Go.Maps
set_option maxHeartbeats 6400000
set_option maxRecDepth 100000
set_option linter.unusedVariables false
set_option linter.unusedSimpArgs false
theorem ent_asked1 : Ent 122 := ent Tryz.func122 (by kernel_rfl) rfl
theorem asked1_any (w : World) (x k : Int) (b : Nat) (hb : w.cell? ⟨b, 0, none⟩ = some (.int .i64 k)) (h0 : 0 ≤ x) (hk : x < k) : Calls Tryz.prog 122 #[.int .i64 x, .pointer (some ⟨b, 0, none⟩)] w (Ret w (.bool false)) := by
  refine calls_abs fun R hR => ?_
  go_enter Tryz.func122, Tryz.ntmps122
  have H := Lib.hid (show ∀ b : Bool, b = false → R (.returned (.bool b)) w from fun b hb => hR.out _ _ ⟨by rw [hb], Only.refl _ _⟩)
  go_wp2_with fail
  exact H.out _ (by simp; omega)
theorem asked_good (w : World) (X : MX) (M : Mod) (h : ModA w X M) (hv : M.valid = true) (n : Int) (v : Value) (l : List Int) (hr : Read w v l) (hl : l.length ≤ 1000) (hin : ∀ x, x ∈ l → 0 ≤ x ∧ x < n) :
    Calls Tryz.prog 84 #[modV X M, .int .i64 n, v] w (Ret w (.int .i64 0)) := by
  refine calls_abs fun R hR => ?_
  have HO := Lib.hid (((Only.refl [] w).alloc (.cells #[X.vc, X.vs, X.vm, .int .i64 M.sel] 74)).alloc (.cells #[.int .i64 n] 3))
  have cc := modCheck_any _ X M (h.only HO.out)
  rw [hv] at cc
  have hkb := (Row.new (w.alloc (.cells #[X.vc, X.vs, X.vm, .int .i64 M.sel] 74)) 3 [.int .i64 n]).cell 0 rfl
  rw [show (w.alloc (.cells #[X.vc, X.vs, X.vm, .int .i64 M.sel] 74)).heap.size = w.heap.size + 1 by simp] at hkb
  have HKB := Lib.hid hkb
  have HR := Lib.hid hr
  have HIN := Lib.hid hin
  have HNA := Lib.hid (show (l.any fun _ => false) = false by simp)
  unfold modV at *
  clear h hkb hr hin
  go_enter Tryz.func84, Tryz.ntmps84
  go_wp2_with fail
  refine cc.mono ?_
  rintro e w3 ⟨rfl, ho⟩
  have HO3 := Lib.hid (HO.out.trans ho (by simp))
  have HK3 := Lib.hid (ho.cell HKB.out (by simp))
  have cf := containsFuncN2 w3 v l 122 #[.pointer (some ⟨w.heap.size + 1, 0, none⟩)] (fun _ => false) (HR.out.only0 HO3.out) (by omega) ⟨ent_asked1, fun x hx w' ho' => asked1_any w' x n _ (ho'.cell HK3.out (by simp)) (HIN.out x hx).1 (HIN.out x hx).2⟩
  rw [HNA.out] at cf
  clear cc ho
  go_wp2_with fail
  refine cf.mono ?_
  rintro e w4 ⟨rfl, ho⟩
  have HO4 := Lib.hid (HO3.out.trans ho (by simp))
  clear cf ho
  go_wp2_with fail
  exact hR.out _ _ ⟨rfl, HO4.out⟩
def Mod.localsOf (M : Mod) (k : Nat) : List Ty := (if 0 ≤ (M.me k).cls then [⟨2, (M.me k).cls⟩] else []) ++ (M.me k).params ++ (M.me k).locals
theorem localsIn_any (w : World) (nm : ByteArray) (mc rk rc : Int) (pv lv cv : Value) (pl ll : List Ty) (hp : RdT w pv pl) (hl : RdT w lv ll) (hpl : pl.length ≤ 1000) (hll : ll.length ≤ 1000) :
    Calls Tryz.prog 85 #[.agg #[.string nm, .int .i64 mc, pv, lv, .int .i64 rk, .int .i64 rc, cv]] w fun e w' => ∃ v, e = .returned v ∧ Tys w' w.heap.size v ((if 0 ≤ mc then [⟨2, mc⟩] else []) ++ pl ++ ll) ∧ Only [] w w' := by
  refine calls_abs fun R hR => ?_
  have HP := Lib.hid hp
  have HL := Lib.hid hl
  have H := Lib.hid hR.out
  have HO := Lib.hid ((Only.refl [] w).alloc (.cells #[.string nm, .int .i64 mc, pv, lv, .int .i64 rk, .int .i64 rc, cv] 70))
  have hrow := Row.new w 70 [.string nm, .int .i64 mc, pv, lv, .int .i64 rk, .int .i64 rc, cv]
  have HROW := Lib.hid hrow
  obtain ⟨pa, pc, rfl⟩ := hp.len
  obtain ⟨la, lc, rfl⟩ := hl.len
  clear hR hp hl
  obtain ⟨l0, hl0⟩ : ∃ z : List Ty, z = (if 0 ≤ mc then [⟨2, mc⟩] else []) := ⟨_, rfl⟩
  have HL0 := Lib.hid hl0
  have HL0N := Lib.hid (show l0.length ≤ 1 by rw [hl0]; split <;> simp)
  rw [← hl0] at H
  have m1 := hrow.cell 1 rfl
  clear hl0 hrow
  go_enter Tryz.func85, Tryz.ntmps85
  go_upto_region 2 with fail
  have HSZ := Lib.hid (show (w.alloc (.cells #[.string nm, .int .i64 mc, .slice pa pl.length pc, .slice la ll.length lc, .int .i64 rk, .int .i64 rc, cv] 70)).heap.size = w.heap.size + 1 by simp)
  generalize w.alloc (.cells #[.string nm, .int .i64 mc, .slice pa pl.length pc, .slice la ll.length lc, .int .i64 rk, .int .i64 rc, cv] 70) = w1 at *
  go_upto_if 6 with fail
  go_cut [3] (fun s3 wx => Hid (Tys wx (w.heap.size + 1) s3 l0) ∧ Hid (Only [] w wx) ∧ Hid (Only [] w1 wx) ∧ s3.ownBlock ≠ some w.heap.size)
  case first =>
    by_cases h0 : 0 ≤ mc
    · have HE := Lib.hid (show l0 = [⟨2, mc⟩] by rw [HL0.out, if_pos h0])
      go_wp2_with (at_builtin; refine append_own tyTy rowTy rfl _ _ rfl (w.heap.size + 1) _ [] rfl Own.nil _ [⟨2, mc⟩] rfl (rd_one rowTy w1 _ ⟨2, mc⟩) ?c1 ?c2 ?c3 ?c4)
      case c1 => simp
      case c2 => simp
      case c3 => have := HSZ.out; simp; omega
      case c4 =>
        intro v8 w8 hi8 ho8 hb8
        have HI8 := Lib.hid hi8
        have HK8 := Lib.hid (((Only.refl [] w1).alloc (.cells #[.int .i64 2, .int .i64 mc] 68)).trans ho8 (fun y hy => by simp [Value.ownBlock] at hy))
        have HO8 := Lib.hid (HO.out.trans HK8.out (by simp))
        have HB8 := Lib.hid (show v8.ownBlock ≠ some w.heap.size by
          intro e
          have := (HI8.out.own _ e).1
          omega)
        clear hi8 ho8 hb8
        go_wp2_with fail
        go_meet
        exact ⟨by rw [HE.out]; exact HI8, HO8, HK8, HB8.out⟩
    · have HE := Lib.hid (show l0 = [] by rw [HL0.out, if_neg h0])
      go_wp2_with fail
      go_meet
      exact ⟨by rw [HE.out]; exact Lib.hid Own.nil, HO, Lib.hid (Only.refl _ _), by simp [Value.ownBlock]⟩
  case rest =>
    obtain ⟨HI, HO2, HK2, hnb⟩ := hcut
    obtain ⟨w2, rfl⟩ : ∃ z, z = wc := ⟨_, rfl⟩
    have HROW2 := Lib.hid (HK2.out.row HROW.out (by simp))
    obtain ⟨a3, c3, rfl⟩ := HI.out.len
    obtain ⟨n0, hn0⟩ : ∃ z, z = l0.length := ⟨_, rfl⟩
    rw [← hn0] at HI hnb HL0N ⊢
    have HN0 := Lib.hid hn0
    have HNB := Lib.hid hnb
    have HSL := Lib.hid (show ∀ wl, Only (Value.slice a3 n0 c3).ownBlock.toList w2 wl → wl.cell? ⟨w.heap.size, 2, none⟩ = some (.slice pa pl.length pc) ∧ wl.cell? ⟨w.heap.size, 3, none⟩ = some (.slice la ll.length lc) from fun wl ho => by
      have hr := ho.row HROW2.out (fun e => HNB.out (by rwa [Option.mem_toList] at e))
      exact ⟨hr.cell 2 rfl, hr.cell 3 rfl⟩)
    have p2 := (HSL.out w2 (Only.refl _ _)).1
    have p3 := (HSL.out w2 (Only.refl _ _)).2
    clear hn0 hnb m1
    go_upto_region 4 with fail
    have hsz2 : w.heap.size + 1 ≤ w2.heap.size := by have := HK2.out.size; have := HSZ.out; omega
    have HIW := Lib.hid (show ∀ wl, Only [] w2 wl → Tys wl (w.heap.size + 1) (.slice a3 n0 c3) l0 from fun wl ho => HI.out.only0 ho)
    have HPW := Lib.hid (show ∀ wl, Only [] w2 wl → RdT wl (.slice pa pl.length pc) pl from fun wl ho => (HP.out.only HO2.out).only ho)
    have HAW := Lib.hid (show ∀ wl, Only (Value.slice a3 n0 c3).ownBlock.toList w2 wl → Only [] w wl from fun wl ho => HO2.out.trans ho (fun y hy => .inr (by
      rw [Option.mem_toList] at hy
      exact Nat.le_of_succ_le (HI.out.own y hy).1)))
    have HLW := Lib.hid (show ∀ wl, Only (Value.slice a3 n0 c3).ownBlock.toList w2 wl → RdT wl (.slice la ll.length lc) ll from fun wl ho => HL.out.only (HAW.out wl ho))
    have HC1 := Lib.hid (show ((l0 ++ pl).length + ll.length) * 16 ≤ 140737488355328 by have := HL0N.out; rw [List.length_append, ← HN0.out]; omega)
    have HC2 := Lib.hid (show (l0 ++ pl).length + ll.length ≤ 1000000 by have := HL0N.out; rw [List.length_append, ← HN0.out]; omega)
    have HB1 := Lib.hid (show (l0.length + pl.length) * 16 ≤ 140737488355328 by have := HL0N.out; rw [← HN0.out]; omega)
    have HB2 := Lib.hid (show l0.length + pl.length ≤ 1000000 by have := HL0N.out; rw [← HN0.out]; omega)
    have HB3 := Lib.hid (show ∀ wl, Only [] w2 wl → w.heap.size + 1 ≤ wl.heap.size from fun wl ho => Nat.le_trans hsz2 ho.size)
    clear hsz2
    go_region_law (first
      | (refine step_own tyTy rowTy (by rfl) (.tmp 13) (.tmp 15) (by rfl) (w.heap.size + 1) _ l0 (by rfl) (HIW.out _ (by first | exact Only.refl _ _ | exact (Only.refl _ _).drew)) _ pl (by rfl) (HPW.out _ (by first | exact Only.refl _ _ | exact (Only.refl _ _).drew)) HB1.out HB2.out (HB3.out _ (by first | exact Only.refl _ _ | exact (Only.refl _ _).drew)) ?_; intro v8 w8 hi8 ho8 hb8; have ho9 := Only.trans (by first | exact Only.refl (Value.slice a3 n0 c3).ownBlock.toList w2 | exact (Only.refl (Value.slice a3 n0 c3).ownBlock.toList w2).drew : Only (Value.slice a3 n0 c3).ownBlock.toList w2 _) ho8 (fun y hy => .inl hy); have p9 := (HSL.out w8 ho9).2)
      | (refine step_own tyTy rowTy (by rfl) (.tmp 16) (.tmp 18) (by rfl) (w.heap.size + 1) _ (l0 ++ pl) (by rfl) hi8 _ ll (by rfl) (HLW.out _ ho9) HC1.out HC2.out (Nat.le_trans (HB3.out w2 (Only.refl _ _)) ho9.size) ?_; intro v10 w10 hi10 ho10 hb10))
    all_goals
      have HI10 := Lib.hid (hi10.down (Nat.le_succ _))
      have HO10 := Lib.hid ((HAW.out w8 ho9).trans ho10 (fun y hy => .inr (by
        rw [Option.mem_toList] at hy
        exact Nat.le_of_succ_le (hi8.own y hy).1)))
      clear hi8 ho8 hb8 ho9 p9 hi10 ho10 hb10 p2 p3
      go_wp2_with fail
      refine bodyPost_ret (results_tmp rfl _ _ _) rfl ?_
      exact H.out _ _ ⟨v10, rfl, HI10.out, HO10.out⟩
theorem locals_good (w : World) (X : MX) (M : Mod) (h : ModA w X M) (hv : M.valid = true) (k : Nat) (hk : k < M.methods.length) (hm16 : M.methods.length ≤ 16) (hpl : (M.me k).params.length ≤ 1000) (hll : (M.me k).locals.length ≤ 1000) :
    Calls Tryz.prog 62 #[modV X M, .int .i64 k] w fun e w' => ∃ v, e = .returned (.tuple #[v, .int .i64 0]) ∧ Tys w' w.heap.size v (M.localsOf k) ∧ Only [] w w' := by
  refine calls_abs fun R hR => ?_
  obtain ⟨vc, vs, vm, cx, mx⟩ := X
  have H := Lib.hid hR.out
  have HM := Lib.hid h
  obtain ⟨bm, om, cm, pv, lv, cv, hvm, hpv, hlv, hcv, hcm⟩ := h.meAt hk
  dsimp only at hvm
  subst hvm
  obtain ⟨pa, pc, rfl⟩ := hpv.len
  obtain ⟨la, lc, rfl⟩ := hlv.len
  obtain ⟨ca, cc, rfl⟩ := hcv.len
  have hkI : (k : Int) < M.methods.length := by omega
  have HO := Lib.hid ((Only.refl [] w).alloc (.cells #[vc, vs, .slice (some ⟨bm, om, none⟩) M.methods.length cm, .int .i64 M.sel] 74))
  have HO2 := Lib.hid (HO.out.alloc (.cells #[.int .i64 k] 3))
  have cA := asked_good _ _ M (h.only HO2.out) hv M.methods.length (.slice (some ⟨(w.alloc (.cells #[vc, vs, .slice (some ⟨bm, om, none⟩) M.methods.length cm, .int .i64 M.sel] 74)).heap.size, 0, none⟩) 1 1) [(k : Int)]
    (.inl ⟨_, 0, 1, rfl, fun i hi => by
      obtain rfl : i = 0 := by simp at hi; omega
      exact (Row.new (w.alloc _) 3 [.int .i64 k]).cell 0 rfl⟩) (by simp) (fun x hx => by simp at hx; omega)
  have HPV := Lib.hid hpv
  have HLV := Lib.hid hlv
  have hlist : M.localsOf k = (if 0 ≤ (M.me k).cls then [⟨2, (M.me k).cls⟩] else []) ++ (M.me k).params ++ (M.me k).locals := rfl
  rw [hlist] at H
  have hmd := ChkAt.new w ⟨vc, vs, .slice (some ⟨bm, om, none⟩) M.methods.length cm, cx, mx⟩ M
  unfold modV at *
  dsimp only at cA ⊢
  rw [World.size_alloc] at cA
  obtain ⟨nm, hnm⟩ : ∃ z, z = M.methods.length := ⟨_, rfl⟩
  have HNM := Lib.hid hnm
  obtain ⟨np, hnp⟩ : ∃ z, z = (M.me k).params.length := ⟨_, rfl⟩
  obtain ⟨nl, hnl⟩ : ∃ z, z = (M.me k).locals.length := ⟨_, rfl⟩
  obtain ⟨ncd, hncd⟩ : ∃ z, z = (M.me k).code.length := ⟨_, rfl⟩
  have HLOC := Lib.hid (show ∀ W, Only [] w W → Calls Tryz.prog 85 #[.agg #[.string (M.me k).name, .int .i64 (M.me k).cls, .slice pa np pc, .slice la nl lc, .int .i64 (M.me k).result.kind, .int .i64 (M.me k).result.cls, .slice ca ncd cc]] W (fun e w' => ∃ v, e = .returned v ∧ Tys w' W.heap.size v ((if 0 ≤ (M.me k).cls then [⟨2, (M.me k).cls⟩] else []) ++ (M.me k).params ++ (M.me k).locals) ∧ Only [] W w') from fun W ho => by
    rw [hnp, hnl]
    exact localsIn_any W _ _ _ _ _ _ _ _ _ (hpv.only ho) (hlv.only ho) hpl hll)
  rw [← hnm] at cA hkI hk ⊢
  rw [← hnp, ← hnl, ← hncd] at hcm
  have HCM := Lib.hid hcm
  have hrm := (Row.new w 74 [vc, vs, .slice (some ⟨bm, om, none⟩) nm cm, .int .i64 M.sel])
  have HRM := Lib.hid (hrm.alloc (.cells #[.int .i64 k] 3))
  rw [← hnm] at HO HO2
  generalize (M.me k).name = mn at *
  generalize (M.me k).cls = mcl at *
  generalize (M.me k).params = mpl at *
  generalize (M.me k).locals = mll at *
  generalize (M.me k).result.kind = mrk at *
  generalize (M.me k).result.cls = mrc at *
  clear hR h hcm hpv hlv hcv hlist hnm hmd hnp hnl hncd hrm hpl hll HPV HLV
  go_enter Tryz.func62, Tryz.ntmps62
  go_wp2_with fail
  refine cA.mono ?_
  rintro e w3 ⟨rfl, ho⟩
  have HO3 := Lib.hid (HO2.out.trans ho (by simp))
  have hr3 := ho.row HRM.out (by simp)
  have p2 := hr3.cell 2 rfl
  obtain ⟨u0, u1, u2, u3, u4, u5, u6⟩ := HCM.out w3 HO3.out
  clear cA ho hr3
  go_wp2_with fail
  refine (HLOC.out w3 HO3.out).mono ?_
  rintro e w4 ⟨v4, rfl, hi, ho⟩
  have HO4 := Lib.hid (HO3.out.trans ho (by simp))
  have HI4 := Lib.hid (hi.down HO3.out.size)
  clear hi ho p2 u0 u1 u2 u3 u4 u5 u6
  go_wp2_with fail
  exact H.out _ _ ⟨v4, rfl, HI4.out, HO4.out⟩
end Go.Proofs.YtkacgbigeobncaaGreat
