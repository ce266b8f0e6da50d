/- Lemmas of this claim. -/
import Derived.Test.YtkacgbigeobncaaGreatTaLkH
namespace Go.Proofs.YtkacgbigeobncaaGreat
open Go.RowKit Go.Maps
set_option maxHeartbeats 6400000
set_option maxRecDepth 100000
set_option linter.unusedVariables false
set_option linter.unusedSimpArgs false
theorem two_rows (w : World) (T : Nat) (A B : List Value) : Row ((w.alloc (.cells A.toArray T)).alloc (.cells B.toArray T)).drew w.heap.size T A ∧ Row ((w.alloc (.cells A.toArray T)).alloc (.cells B.toArray T)).drew (w.heap.size + 1) T B ∧ Only [] w ((w.alloc (.cells A.toArray T)).alloc (.cells B.toArray T)).drew := by
  refine ⟨((Row.new w T A).alloc _).drew, ?_, (((Only.refl _ _).alloc _).alloc _).drew⟩
  have := (Row.new (w.alloc (.cells A.toArray T)) T B).drew
  rwa [show (w.alloc (.cells A.toArray T)).heap.size = w.heap.size + 1 by simp] at this
theorem ent_alike1 : Ent 155 := ent Tryz.func155 (by kernel_rfl) rfl
theorem alike1_any (w : World) (X : MX) (M : Mod) (h : ModA w X M) (t l0 : Nat) (ht : t < M.methods.length) (hl0 : l0 < M.methods.length) (hplm : M.methods.length ≤ 16) (hpl : (M.me t).params.length ≤ 1000000) (cb tb b8 o8 n8 c8 : Nat) (hn8 : 0 < n8)
    (hc : ChkAt w cb X M) (htb : w.cell? ⟨tb, 0, none⟩ = some (.slice (some ⟨b8, o8, none⟩) n8 c8)) (h8 : w.cell? ⟨b8, o8, none⟩ = some (.int .i64 l0)) :
    Calls Tryz.prog 155 #[.int .i64 t, .pointer (some ⟨cb, 0, none⟩), .pointer (some ⟨tb, 0, none⟩)] w (Ret w (.bool (M.unlike t l0))) := by
  refine calls_abs fun R hR => ?_
  obtain ⟨vc, vs, vm, cx, mx⟩ := X
  have H : Hid (∀ x w', x = M.unlike t l0 → Only [] w w' → R (.returned (.bool x)) w') := fun x w' hx ho => hR.out _ _ ⟨by rw [hx], ho⟩
  obtain ⟨bm, om, cm, pv, lv, cv, hvm, hpv, hlv, hcv, hcm⟩ := h.meAt ht
  obtain ⟨bm2, om2, cm2, pv2, lv2, cv2, hvm2, hpv2, hlv2, hcv2, hcm2⟩ := h.meAt hl0
  dsimp only at hvm hvm2
  subst hvm
  simp only [Value.slice.injEq, Option.some.injEq, Addr.mk.injEq, and_true, true_and] at hvm2
  obtain ⟨⟨rfl, rfl⟩, rfl⟩ := hvm2
  obtain ⟨pa, pc, rfl⟩ := hpv.len
  obtain ⟨la, lc, rfl⟩ := hlv.len
  obtain ⟨ca, cc, rfl⟩ := hcv.len
  obtain ⟨pa2, pc2, rfl⟩ := hpv2.len
  obtain ⟨la2, lc2, rfl⟩ := hlv2.len
  obtain ⟨ca2, cc2, rfl⟩ := hcv2.len
  obtain ⟨n1, a1, p1, l1, r1, s1, c1⟩ := hcm w (Only.refl _ _)
  obtain ⟨n2, a2, p2, l2, r2, s2, c2⟩ := hcm2 w (Only.refl _ _)
  obtain ⟨_, _, q2, _⟩ := hc
  dsimp only at q2
  have HM := Lib.hid h
  have HP1 := Lib.hid hpv
  have HP2 := Lib.hid hpv2
  have HU := Lib.hid (show M.unlike t l0 = (decide ((M.me t).result ≠ (M.me l0).result) || !decide ((M.me t).params = (M.me l0).params)) from rfl)
  have HPL := Lib.hid hpl
  have htI : (t : Int) < M.methods.length := by omega
  have hl0I : (l0 : Int) < M.methods.length := by omega
  clear hR h hcm hcm2 hpv hpv2 hlv hlv2 hcv hcv2 hpl
  obtain ⟨⟨k1, x1⟩, e1⟩ : ∃ z, z = (M.me t).result := ⟨_, rfl⟩
  obtain ⟨⟨k2, x2⟩, e2⟩ : ∃ z, z = (M.me l0).result := ⟨_, rfl⟩
  rw [← e1] at r1 s1 HU
  rw [← e2] at r2 s2 HU
  dsimp only at r1 s1 r2 s2
  generalize hpp1 : (M.me t).params = pl1 at *
  generalize hpp2 : (M.me l0).params = pl2 at *
  generalize (M.me t).name = nm1 at *
  generalize (M.me l0).name = nm2 at *
  generalize (M.me t).cls = ms1 at *
  generalize (M.me l0).cls = ms2 at *
  generalize (M.me t).locals.length = nl1 at *
  generalize (M.me l0).locals.length = nl2 at *
  generalize (M.me t).code.length = nc1 at *
  generalize (M.me l0).code.length = nc2 at *
  generalize M.methods.length = nm at *
  clear hpp1 hpp2 e1 e2
  go_enter Tryz.func155, Tryz.ntmps155
  go_upto_region 1 with fail
  have HSL := Lib.hid (show ∀ wl, Only [] w wl → (wl.cell? ⟨cb, 2, none⟩ = some (.slice (some ⟨bm, om, none⟩) nm cm) ∧ wl.cell? ⟨tb, 0, none⟩ = some (.slice (some ⟨b8, o8, none⟩) n8 c8) ∧ wl.cell? ⟨b8, o8, none⟩ = some (.int .i64 l0)
    ∧ wl.cell? ⟨bm, om + t * 7, none⟩ = some (.string nm1) ∧ wl.cell? ⟨bm, om + t * 7 + 1, none⟩ = some (.int .i64 ms1) ∧ wl.cell? ⟨bm, om + t * 7 + 2, none⟩ = some (.slice pa pl1.length pc) ∧ wl.cell? ⟨bm, om + t * 7 + 3, none⟩ = some (.slice la nl1 lc) ∧ wl.cell? ⟨bm, om + t * 7 + 4, none⟩ = some (.int .i64 k1) ∧ wl.cell? ⟨bm, om + t * 7 + 5, none⟩ = some (.int .i64 x1) ∧ wl.cell? ⟨bm, om + t * 7 + 6, none⟩ = some (.slice ca nc1 cc)
    ∧ wl.cell? ⟨bm, om + l0 * 7, none⟩ = some (.string nm2) ∧ wl.cell? ⟨bm, om + l0 * 7 + 1, none⟩ = some (.int .i64 ms2) ∧ wl.cell? ⟨bm, om + l0 * 7 + 2, none⟩ = some (.slice pa2 pl2.length pc2) ∧ wl.cell? ⟨bm, om + l0 * 7 + 3, none⟩ = some (.slice la2 nl2 lc2) ∧ wl.cell? ⟨bm, om + l0 * 7 + 4, none⟩ = some (.int .i64 k2) ∧ wl.cell? ⟨bm, om + l0 * 7 + 5, none⟩ = some (.int .i64 x2) ∧ wl.cell? ⟨bm, om + l0 * 7 + 6, none⟩ = some (.slice ca2 nc2 cc2)) from fun wl ho =>
      ⟨ho.cell q2 (by simp), ho.cell htb (by simp), ho.cell h8 (by simp), ho.cell n1 (by simp), ho.cell a1 (by simp), ho.cell p1 (by simp), ho.cell l1 (by simp), ho.cell r1 (by simp), ho.cell s1 (by simp), ho.cell c1 (by simp), ho.cell n2 (by simp), ho.cell a2 (by simp), ho.cell p2 (by simp), ho.cell l2 (by simp), ho.cell r2 (by simp), ho.cell s2 (by simp), ho.cell c2 (by simp)⟩)
  go_region_held3 (fun wl => wl.cell? ⟨cb, 2, none⟩ = some (.slice (some ⟨bm, om, none⟩) nm cm) ∧ wl.cell? ⟨tb, 0, none⟩ = some (.slice (some ⟨b8, o8, none⟩) n8 c8) ∧ wl.cell? ⟨b8, o8, none⟩ = some (.int .i64 l0)
    ∧ wl.cell? ⟨bm, om + t * 7, none⟩ = some (.string nm1) ∧ wl.cell? ⟨bm, om + t * 7 + 1, none⟩ = some (.int .i64 ms1) ∧ wl.cell? ⟨bm, om + t * 7 + 2, none⟩ = some (.slice pa pl1.length pc) ∧ wl.cell? ⟨bm, om + t * 7 + 3, none⟩ = some (.slice la nl1 lc) ∧ wl.cell? ⟨bm, om + t * 7 + 4, none⟩ = some (.int .i64 k1) ∧ wl.cell? ⟨bm, om + t * 7 + 5, none⟩ = some (.int .i64 x1) ∧ wl.cell? ⟨bm, om + t * 7 + 6, none⟩ = some (.slice ca nc1 cc)
    ∧ wl.cell? ⟨bm, om + l0 * 7, none⟩ = some (.string nm2) ∧ wl.cell? ⟨bm, om + l0 * 7 + 1, none⟩ = some (.int .i64 ms2) ∧ wl.cell? ⟨bm, om + l0 * 7 + 2, none⟩ = some (.slice pa2 pl2.length pc2) ∧ wl.cell? ⟨bm, om + l0 * 7 + 3, none⟩ = some (.slice la2 nl2 lc2) ∧ wl.cell? ⟨bm, om + l0 * 7 + 4, none⟩ = some (.int .i64 k2) ∧ wl.cell? ⟨bm, om + l0 * 7 + 5, none⟩ = some (.int .i64 x2) ∧ wl.cell? ⟨bm, om + l0 * 7 + 6, none⟩ = some (.slice ca2 nc2 cc2))
    (exact HSL.out _ (by repeat (first | exact Only.refl _ _ | refine Only.drew ?_ | refine Only.alloc ?_ _ | refine Only.set ?_ (.inr (by simp)) _))) (fail)
  · obtain ⟨rt, rl, ro⟩ := two_rows w 70 [.string nm1, .int .i64 ms1, .slice pa pl1.length pc, .slice la nl1 lc, .int .i64 k1, .int .i64 x1, .slice ca nc1 cc] [.string nm2, .int .i64 ms2, .slice pa2 pl2.length pc2, .slice la2 nl2 lc2, .int .i64 k2, .int .i64 x2, .slice ca2 nc2 cc2]
    generalize ((w.alloc (.cells ([.string nm1, .int .i64 ms1, .slice pa pl1.length pc, .slice la nl1 lc, .int .i64 k1, .int .i64 x1, .slice ca nc1 cc] : List Value).toArray 70)).alloc (.cells ([.string nm2, .int .i64 ms2, .slice pa2 pl2.length pc2, .slice la2 nl2 lc2, .int .i64 k2, .int .i64 x2, .slice ca2 nc2 cc2] : List Value).toArray 70)).drew = w1 at *
    clear HSL htb h8 n1 a1 p1 l1 r1 s1 c1 n2 a2 p2 l2 r2 s2 c2 q2
    have f2 := rt.cell 2 rfl
    have f4 := rt.cell 4 rfl
    have f5 := rt.cell 5 rfl
    have g2 := rl.cell 2 rfl
    have g4 := rl.cell 4 rfl
    have g5 := rl.cell 5 rfl
    have hq := fun wx => neqTy k1 x1 k2 x2 wx
    have HE := Lib.hid (Ty.eqB_iff (s := ⟨k1, x1⟩) (u := ⟨k2, x2⟩))
    have HEB := Lib.hid (show Ty.eqB ⟨k1, x1⟩ ⟨k2, x2⟩ = ((k1 == k2) && (x1 == x2)) from rfl)
    obtain ⟨eb, heb⟩ : ∃ z, z = ((k1 == k2) && (x1 == x2)) := ⟨_, rfl⟩
    rw [← heb] at hq HEB
    have HO1 := Lib.hid ro
    have ceq := equalTys w1 _ _ _ _ (HP1.out.only HO1.out) (HP2.out.only HO1.out) HPL.out
    clear rt rl ro heb
    generalize pl1.length = np1 at *
    generalize pl2.length = np2 at *
    cases eb
    · have HF := Lib.hid (show M.unlike t l0 = true by
        have hne : (⟨k1, x1⟩ : Ty) ≠ ⟨k2, x2⟩ := fun e => by have := HE.out.2 e; rw [HEB.out] at this; cases this
        rw [HU.out, Bool.or_eq_true]; exact .inl (decide_eq_true hne))
      go_wp2_with fail
      exact H.out _ _ HF.out.symm HO1.out
    · have HF := Lib.hid (show M.unlike t l0 = !decide (pl1 = pl2) by
        have e := HE.out.1 HEB.out
        rw [HU.out, e]; simp)
      generalize decide (pl1 = pl2) = dp at *
      go_wp2_with fail
      refine ceq.mono ?_
      rintro e w3 ⟨rfl, ho⟩
      have HO3 := Lib.hid (HO1.out.trans ho (by simp))
      clear ceq ho
      go_wp2_with fail
      exact H.out _ _ HF.out.symm HO3.out
  · obtain ⟨rl, rt, ro⟩ := two_rows w 70 [.string nm2, .int .i64 ms2, .slice pa2 pl2.length pc2, .slice la2 nl2 lc2, .int .i64 k2, .int .i64 x2, .slice ca2 nc2 cc2] [.string nm1, .int .i64 ms1, .slice pa pl1.length pc, .slice la nl1 lc, .int .i64 k1, .int .i64 x1, .slice ca nc1 cc]
    generalize ((w.alloc (.cells ([.string nm2, .int .i64 ms2, .slice pa2 pl2.length pc2, .slice la2 nl2 lc2, .int .i64 k2, .int .i64 x2, .slice ca2 nc2 cc2] : List Value).toArray 70)).alloc (.cells ([.string nm1, .int .i64 ms1, .slice pa pl1.length pc, .slice la nl1 lc, .int .i64 k1, .int .i64 x1, .slice ca nc1 cc] : List Value).toArray 70)).drew = w1 at *
    clear HSL htb h8 n1 a1 p1 l1 r1 s1 c1 n2 a2 p2 l2 r2 s2 c2 q2
    have f2 := rt.cell 2 rfl
    have f4 := rt.cell 4 rfl
    have f5 := rt.cell 5 rfl
    have g2 := rl.cell 2 rfl
    have g4 := rl.cell 4 rfl
    have g5 := rl.cell 5 rfl
    have hq := fun wx => neqTy k1 x1 k2 x2 wx
    have HE := Lib.hid (Ty.eqB_iff (s := ⟨k1, x1⟩) (u := ⟨k2, x2⟩))
    have HEB := Lib.hid (show Ty.eqB ⟨k1, x1⟩ ⟨k2, x2⟩ = ((k1 == k2) && (x1 == x2)) from rfl)
    obtain ⟨eb, heb⟩ : ∃ z, z = ((k1 == k2) && (x1 == x2)) := ⟨_, rfl⟩
    rw [← heb] at hq HEB
    have HO1 := Lib.hid ro
    have ceq := equalTys w1 _ _ _ _ (HP1.out.only HO1.out) (HP2.out.only HO1.out) HPL.out
    clear rt rl ro heb
    generalize pl1.length = np1 at *
    generalize pl2.length = np2 at *
    cases eb
    · have HF := Lib.hid (show M.unlike t l0 = true by
        have hne : (⟨k1, x1⟩ : Ty) ≠ ⟨k2, x2⟩ := fun e => by have := HE.out.2 e; rw [HEB.out] at this; cases this
        rw [HU.out, Bool.or_eq_true]; exact .inl (decide_eq_true hne))
      go_wp2_with fail
      exact H.out _ _ HF.out.symm HO1.out
    · have HF := Lib.hid (show M.unlike t l0 = !decide (pl1 = pl2) by
        have e := HE.out.1 HEB.out
        rw [HU.out, e]; simp)
      generalize decide (pl1 = pl2) = dp at *
      go_wp2_with fail
      refine ceq.mono ?_
      rintro e w3 ⟨rfl, ho⟩
      have HO3 := Lib.hid (HO1.out.trans ho (by simp))
      clear ceq ho
      go_wp2_with fail
      exact H.out _ _ HF.out.symm HO3.out
end Go.Proofs.YtkacgbigeobncaaGreat
namespace Go.Proofs.YtkacgbigeobncaaGreat
open Go.RowKit Go.Maps
set_option maxHeartbeats 6400000
set_option maxRecDepth 100000
set_option linter.unusedVariables false
set_option linter.unusedSimpArgs false
theorem compact_mem {l : List Int} {x : Int} (h : x ∈ Lib.compact l) : x ∈ l := by
  unfold Lib.compact Lib.compactUpTo at h
  simp only [List.mem_map, List.mem_filter, List.mem_range] at h
  obtain ⟨j, ⟨hj, _⟩, rfl⟩ := h
  have : j < l.toArray.size := by simpa using hj
  rw [getElem!_pos l.toArray j this]
  simp
theorem targets_mem {M : Mod} {s : Nat} {x : Int} (h : x ∈ M.targets s) : ∃ k, k < M.classes.length ∧ gI (M.cl k).meths s = x ∧ 0 ≤ x := by
  have h1 := compact_mem h
  rw [List.mem_mergeSort] at h1
  unfold Mod.tgN at h1
  rw [List.take_length] at h1
  simp only [List.mem_filter, List.mem_map, decide_eq_true_eq] at h1
  obtain ⟨⟨c, hc, rfl⟩, h0⟩ := h1
  obtain ⟨k, hk, rfl⟩ := List.mem_iff_getElem.1 hc
  exact ⟨k, hk, by unfold Mod.cl; simp [hk], h0⟩
theorem alike_any (w : World) (X : MX) (M : Mod) (h : ModA w X M) (hb : M.Base) (s : Nat) (hs : (s : Int) < M.sel) (ht : ∀ t, t ∈ M.targets s → 0 ≤ t ∧ t < M.methods.length) (hp : ∀ k, k < M.methods.length → (M.me k).params.length ≤ 1000000) :
    Calls Tryz.prog 101 #[modV X M, .int .i64 s] w (Ret w (.bool (M.alike s))) := by
  refine calls_abs fun R hR => ?_
  obtain ⟨vc, vs, vm, cx, mx⟩ := X
  have H : Hid (∀ x w', x = M.alike s → Only [] w w' → R (.returned (.bool x)) w') := fun x w' hx ho => hR.out _ _ ⟨by rw [hx], ho⟩
  have HM := Lib.hid h
  have HB := Lib.hid hb
  have HP := Lib.hid hp
  have HTL := Lib.hid (targets_len M s hb.c10)
  have HAL := Lib.hid (show M.alike s = !((M.targets s).any fun t => M.unlike t.toNat (gI (M.targets s) 0).toNat) from rfl)
  have HO := Lib.hid ((Only.refl [] w).alloc (.cells #[vc, vs, vm, .int .i64 M.sel] 177))
  have ct := targets_any _ _ M (h.only HO.out) s hs hb.row hb.c10
  have HCH := Lib.hid (ChkAt.new w ⟨vc, vs, vm, cx, mx⟩ M)
  have HT := Lib.hid ht
  unfold modV at *
  dsimp only at ct ⊢
  generalize M.targets s = tl at *
  clear hR h hb ht hp hs
  go_enter Tryz.func101, Tryz.ntmps101
  go_wp2_with fail
  refine ct.mono ?_
  rintro e w2 ⟨v2, rfl, hi, ho⟩
  have HO2 := Lib.hid (HO.out.trans ho (by simp))
  have HCH2 := Lib.hid (HCH.out.only ho)
  have HI := Lib.hid hi
  obtain ⟨ta, tc, rfl⟩ := hi.len
  obtain ⟨nt, hnt⟩ : ∃ z, z = tl.length := ⟨_, rfl⟩
  rw [← hnt] at HI ⊢
  have HNT := Lib.hid hnt
  clear ct hi ho hnt
  have HO3 := Lib.hid (HO2.out.alloc (.cells #[.slice ta nt tc] 22))
  have HTB := Lib.hid ((Row.new w2 22 [.slice ta nt tc]).cell 0 rfl)
  have HCH3 := Lib.hid (HCH2.out.only ((Only.refl [] _).alloc (.cells #[.slice ta nt tc] 22)))
  have HR3 := Lib.hid ((HI.out.alloc (.cells #[.slice ta nt tc] 22)).read)
  have hF : FnN 155 #[.pointer (some ⟨w.heap.size, 0, none⟩), .pointer (some ⟨w2.heap.size, 0, none⟩)] (w2.alloc (.cells #[.slice ta nt tc] 22)) tl (fun t => M.unlike t.toNat (gI tl 0).toNat) := by
    refine ⟨ent_alike1, fun x hx w' ho' => ?_⟩
    have h1 := HT.out x hx
    have hlen : 0 < tl.length := List.length_pos_of_mem hx
    have h2 := HT.out (gI tl 0) (by unfold gI; simp [hlen])
    rcases HR3.out with ⟨b8, o8, c8, f8, g8⟩ | ⟨oa, c8, f8, g8⟩
    rotate_left
    · rw [g8] at hlen; simp at hlen
    simp only [Value.slice.injEq] at f8
    obtain ⟨rfl, e8, rfl⟩ := f8
    have g9 := ho'.cell (g8 0 hlen) (by simp)
    have htb := ho'.cell HTB.out (by simp)
    obtain ⟨j, rfl⟩ : ∃ j : Nat, x = j := ⟨x.toNat, by omega⟩
    obtain ⟨l0, hl0⟩ : ∃ j : Nat, gI tl 0 = j := ⟨(gI tl 0).toNat, by omega⟩
    rw [hl0] at g9 h2 ⊢
    rw [Nat.add_zero] at g9
    exact alike1_any w' _ M ((HM.out.only HO3.out).only ho') j l0 (by omega) (by omega) HB.out.m16 (HP.out j (by omega)) _ _ b8 o8 nt tc (by rw [HNT.out]; exact hlen) (HCH3.out.only ho') htb g9
  have cc := containsFuncN2 _ _ tl _ _ _ HR3.out (by have := HTL.out; omega) hF
  generalize (tl.any fun t => M.unlike t.toNat (gI tl 0).toNat) = ta2 at *
  have p0 := HTB.out
  clear hF
  go_wp2_with fail
  refine cc.mono ?_
  rintro e w4 ⟨rfl, ho⟩
  have HO4 := Lib.hid (HO3.out.trans ho (by simp))
  clear cc ho
  go_wp2_with fail
  exact H.out _ _ HAL.out.symm HO4.out
end Go.Proofs.YtkacgbigeobncaaGreat
