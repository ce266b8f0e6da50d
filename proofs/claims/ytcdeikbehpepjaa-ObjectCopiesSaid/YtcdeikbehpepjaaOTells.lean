/- Law ObjectTells: the walk. -/
import Derived.Test.YtcdeikbehpepjaaOPlay
namespace Go.Proofs.Ytcdeikbehpepjaa
open Go.RowKit Go.Maps
set_option maxHeartbeats 6400000
set_option maxRecDepth 100000
set_option linter.unusedVariables false
theorem same_only {w w' : World} {v : Value} {e : Ending} (h : Same w v e w') : e = .returned v ∧ Only [] w w' := by
  obtain ⟨h1, n, rfl⟩ := h
  exact ⟨h1, (Only.refl _ _).drewN n⟩
theorem exact_only {w w' : World} {v : Value} {e : Ending} (h : Exact w v e w') : e = .returned v ∧ Only [] w w' := by
  obtain ⟨h1, rfl⟩ := h
  exact ⟨h1, Only.refl _ _⟩
theorem exact_two {w w' : World} {n : Int} {e : Ending} (h : Exact w (.tuple #[.slice none 0 0, .int .i64 n]) e w') : TwoL w ([], n) e w' := by
  obtain ⟨h1, rfl⟩ := h
  exact ⟨_, h1, Ints.nil _ _, Only.refl _ _⟩
/-- What both heaps tell of a handle and a slot. -/
structure Tells (w2 : World) (vp vq : Value) (x s : Int) (t1 t2 t3 t4 : Int) (bb : Bool) (be : Int) (rl : List Int) (re fw fe : Int) (kl : List Int) (ke gv ge : Int) : Prop where
  hrl : rl.length ≤ 1000
  hkl : kl.length ≤ 1000
  a1 : ∀ wx, Only [] w2 wx → Calls Try.prog 9 #[vp, .int .i64 x] wx (fun e w' => e = .returned (.tuple #[.int .i64 t1, .int .i64 t2, .int .i64 t3, .int .i64 t4]) ∧ Only [] wx w')
  a2 : ∀ wx, Only [] w2 wx → Calls Try.prog 10 #[vq, .int .i64 x] wx (fun e w' => e = .returned (.tuple #[.int .i64 t1, .int .i64 t2, .int .i64 t3, .int .i64 t4]) ∧ Only [] wx w')
  b1 : ∀ wx, Only [] w2 wx → Calls Try.prog 11 #[vp, .int .i64 x, .int .i64 s] wx (fun e w' => e = .returned (.tuple #[.bool bb, .int .i64 be]) ∧ Only [] wx w')
  b2 : ∀ wx, Only [] w2 wx → Calls Try.prog 12 #[vq, .int .i64 x, .int .i64 s] wx (fun e w' => e = .returned (.tuple #[.bool bb, .int .i64 be]) ∧ Only [] wx w')
  c1 : ∀ wx, Only [] w2 wx → Calls Try.prog 13 #[vp, .int .i64 x] wx (TwoL wx (rl, re))
  c2 : ∀ wx, Only [] w2 wx → Calls Try.prog 14 #[vq, .int .i64 x] wx (TwoL wx (rl, re))
  d1 : ∀ wx, Only [] w2 wx → Calls Try.prog 15 #[vp, .int .i64 x] wx (fun e w' => e = .returned (.tuple #[.int .i64 fw, .int .i64 fe]) ∧ Only [] wx w')
  d2 : ∀ wx, Only [] w2 wx → Calls Try.prog 16 #[vq, .int .i64 x] wx (fun e w' => e = .returned (.tuple #[.int .i64 fw, .int .i64 fe]) ∧ Only [] wx w')
  e1 : ∀ wx, Only [] w2 wx → Calls Try.prog 17 #[vp, .int .i64 x] wx (TwoL wx (kl, ke))
  e2 : ∀ wx, Only [] w2 wx → Calls Try.prog 18 #[vq, .int .i64 x] wx (TwoL wx (kl, ke))
  f1 : ∀ wx, Only [] w2 wx → Calls Try.prog 20 #[vp, .int .i64 x, .int .i64 s] wx (fun e w' => e = .returned (.tuple #[.int .i64 gv, .int .i64 ge]) ∧ Only [] wx w')
  f2 : ∀ wx, Only [] w2 wx → Calls Try.prog 21 #[vq, .int .i64 x, .int .i64 s] wx (fun e w' => e = .returned (.tuple #[.int .i64 gv, .int .i64 ge]) ∧ Only [] wx w')
theorem Hp.blocks_len {M : Hp} (hk : M.Ok) (k : Int) : (M.blocks k).1.length ≤ 7 := by
  unfold Hp.blocks
  cases ho : M.ob k with
  | none => simp
  | some o => exact (hk.blen ho).2.1
theorem tells_of {w1 w2 : World} {vp vq : Value} {x s : Int} (h : OPlayed w1 w2 vp vq) (wx : wfI x) : ∃ t1 t2 t3 t4 bb be rl re fw fe kl ke gv ge, Tells w2 vp vq x s t1 t2 t3 t4 bb be rl re fw fe kl ke gv ge := by
  rcases h with ⟨rfl, rfl, _⟩ | ⟨p, q, M, rfl, rfl, hF⟩
  · exact ⟨0, 0, 0, 1, false, 1, [], 1, 0, 1, [], 1, 0, 1, by simp, by simp,
      fun w _ => (type_nope w _ (.inl rfl) x).mono fun e w' h => same_only h, fun w _ => (gtype_nil w x).mono fun e w' h => exact_only h,
      fun w _ => (isRef_nope w _ (.inl rfl) x s).mono fun e w' h => exact_only h, fun w _ => (gisRef_nil w x s).mono fun e w' h => exact_only h,
      fun w _ => refs_nope w _ (.inl rfl) x, fun w _ => (grefs_nil w x).mono fun e w' h => exact_two h,
      fun w _ => (forward_nope w _ (.inl rfl) x).mono fun e w' h => exact_only h, fun w _ => (gforward_nil w x).mono fun e w' h => exact_only h,
      fun w _ => blocks_nope w _ (.inl rfl) x, fun w _ => (gblocks_nil w x).mono fun e w' h => exact_two h,
      fun w _ => (get_nope w _ (.inl rfl) x s).mono fun e w' h => same_only h, fun w _ => (gget_nil w x s).mono fun e w' h => exact_only h⟩
  · obtain ⟨hk, L, X, hp⟩ := hF.ph 0 rfl
    obtain ⟨_, L2, X2, hq⟩ := hF.gh 1 rfl
    exact ⟨_, _, _, _, _, _, _, _, _, _, _, _, _, _, Nat.le_trans (Hp.refs_len hk x) (by decide), Nat.le_trans (Hp.blocks_len hk x) (by decide),
      fun w ho => (type_rep w (hp.only0 ho) x wx).mono fun e w' h => same_only h, fun w ho => gtype_rep w (hq.only0 ho) hk x,
      fun w ho => (isRef_rep w (hp.only0 ho) hk x s wx).mono fun e w' h => exact_only h, fun w ho => (gisRef_rep w (hq.only0 ho) hk x s).mono fun e w' h => exact_only h,
      fun w ho => refs_rep w (hp.only0 ho) hk x wx, fun w ho => grefs_rep w (hq.only0 ho) hk x,
      fun w ho => (forward_rep w (hp.only0 ho) hk x wx).mono fun e w' h => exact_only h, fun w ho => (gforward_rep w (hq.only0 ho) hk x).mono fun e w' h => exact_only h,
      fun w ho => blocks_rep w (hp.only0 ho) hk x wx, fun w ho => gblocks_rep w (hq.only0 ho) hk x,
      fun w ho => (get_rep w (hp.only0 ho) hk x s wx).mono fun e w' h => same_only h, fun w ho => (gget_rep w (hq.only0 ho) hk x s).mono fun e w' h => exact_only h⟩
theorem OPlayed.only {w1 w2 : World} {vp vq : Value} (h : OPlayed w1 w2 vp vq) : Only [] w1 w2 := by
  rcases h with ⟨_, _, h⟩ | ⟨p, q, M, _, _, h⟩
  · exact h.only
  · exact h.only
theorem Ops.only {w w' : World} {b : Option Addr} {n : Nat} {f : Nat → OpR} (h : Ops w b n f) (ho : Only [] w w') : Ops w' b n f :=
  ⟨h.1, h.2.imp id fun ⟨bb, o, e, hc⟩ => ⟨bb, o, e, fun i hi => (hc i hi).only ho⟩⟩
theorem walk_ObjectTells (pages : Int) (b : Option Addr) (n cap : Nat) (f : Nat → OpR) (x s : Int) (w : World) (wp : (Lit.int .i64 pages).wf = true) (hd : Ops w b n f) (wx : (Lit.int .i64 x).wf = true) (ws : (Lit.int .i64 s).wf = true) :
    Calls Try.prog 3 #[.int .i64 pages, .slice b n cap, .agg #[.int .i64 x, .int .i64 s]] w fun e w' => e = .returned (.bool true) ∧ Below w.heap.size w w' := by
  refine calls_abs fun R hR => ?_
  have HRa : Hid (Row (w.alloc (.cells #[.int .i64 x, .int .i64 s] 23)) w.heap.size 23 [.int .i64 x, .int .i64 s]) := Row.new w 23 [.int .i64 x, .int .i64 s]
  have HO : Hid (Only [] w (w.alloc (.cells #[.int .i64 x, .int .i64 s] 23))) := (Only.refl [] w).alloc _
  have c := oplay_any (w.alloc (.cells #[.int .i64 x, .int .i64 s] 23)) pages b n cap f (hd.only HO.out)
  have WX := Lib.hid wx
  clear hd wp wx ws
  go_enter Try.func3, Try.ntmps3
  go_wp2_with fail
  refine c.mono ?_
  rintro e w2 ⟨vp, vq, rfl, hpl⟩
  obtain ⟨t1, t2, t3, t4, bb, be, rl, re, fw, fe, kl, ke, gv, ge, T⟩ := tells_of (s := s) hpl WX.out
  have HT := Lib.hid T
  have HO2 : Hid (Only [] (w.alloc (.cells #[.int .i64 x, .int .i64 s] 23)) w2) := hpl.only
  clear T hpl c
  generalize w.alloc (.cells #[.int .i64 x, .int .i64 s] 23) = w1 at *
  obtain ⟨y, hy⟩ : ∃ z, z = w.heap.size := ⟨_, rfl⟩
  rw [← hy] at HRa ⊢
  have HY := Lib.hid hy
  clear hy
  have HRb : Hid (Row w2 y 23 [.int .i64 x, .int .i64 s]) := HO2.out.row HRa.out (by simp)
  have d0 := HRb.out.cell 0 rfl
  have d1 := HRb.out.cell 1 rfl
  have HW : Hid (Only [] w2 w2) := Only.refl _ _
  have c := HT.out.a1 w2 HW.out
  go_wp2_with fail
  refine c.mono ?_
  rintro e w3 ⟨rfl, ho⟩
  have HW3 : Hid (Only [] w2 w3) := HW.out.trans ho (by simp)
  clear HW
  clear ho c d0 d1
  have d0 := (HW3.out.row HRb.out (by simp)).cell 0 rfl
  have d1 := (HW3.out.row HRb.out (by simp)).cell 1 rfl
  have c := HT.out.a2 w3 HW3.out
  go_wp2_with fail
  refine c.mono ?_
  rintro e w4 ⟨rfl, ho⟩
  have HW4 : Hid (Only [] w2 w4) := HW3.out.trans ho (by simp)
  clear HW3
  clear ho c d0 d1
  have d0 := (HW4.out.row HRb.out (by simp)).cell 0 rfl
  have d1 := (HW4.out.row HRb.out (by simp)).cell 1 rfl
  have c := HT.out.b1 w4 HW4.out
  go_wp2_with fail
  refine c.mono ?_
  rintro e w5 ⟨rfl, ho⟩
  have HW5 : Hid (Only [] w2 w5) := HW4.out.trans ho (by simp)
  clear HW4
  clear ho c d0 d1
  have d0 := (HW5.out.row HRb.out (by simp)).cell 0 rfl
  have d1 := (HW5.out.row HRb.out (by simp)).cell 1 rfl
  have c := HT.out.b2 w5 HW5.out
  go_wp2_with fail
  refine c.mono ?_
  rintro e w6 ⟨rfl, ho⟩
  have HW6 : Hid (Only [] w2 w6) := HW5.out.trans ho (by simp)
  clear HW5
  clear ho c d0 d1
  have d0 := (HW6.out.row HRb.out (by simp)).cell 0 rfl
  have d1 := (HW6.out.row HRb.out (by simp)).cell 1 rfl
  have c := HT.out.c1 w6 HW6.out
  go_wp2_with fail
  refine c.mono ?_
  rintro e w7 ⟨v, rfl, hi, ho⟩
  obtain ⟨va7, vc7, rfl⟩ := hi.len
  have HW7 : Hid (Only [] w2 w7) := HW6.out.trans ho (by simp)
  clear HW6
  have IR1 : Hid (Ints w7 0 _ _) := hi.base (Nat.zero_le _)
  clear hi
  clear ho c d0 d1
  have d0 := (HW7.out.row HRb.out (by simp)).cell 0 rfl
  have d1 := (HW7.out.row HRb.out (by simp)).cell 1 rfl
  have c := HT.out.c2 w7 HW7.out
  go_wp2_with fail
  refine c.mono ?_
  rintro e w8 ⟨v, rfl, hi, ho⟩
  obtain ⟨va8, vc8, rfl⟩ := hi.len
  have HW8 : Hid (Only [] w2 w8) := HW7.out.trans ho (by simp)
  have IR1_8 := Lib.hid (IR1.out.only ho (by simp))
  clear IR1
  clear HW7
  have IR2 : Hid (Ints w8 0 _ _) := hi.base (Nat.zero_le _)
  clear hi
  clear ho c d0 d1
  have d0 := (HW8.out.row HRb.out (by simp)).cell 0 rfl
  have d1 := (HW8.out.row HRb.out (by simp)).cell 1 rfl
  have c := HT.out.d1 w8 HW8.out
  go_wp2_with fail
  refine c.mono ?_
  rintro e w9 ⟨rfl, ho⟩
  have HW9 : Hid (Only [] w2 w9) := HW8.out.trans ho (by simp)
  have IR1_9 := Lib.hid (IR1_8.out.only ho (by simp))
  clear IR1_8
  have IR2_9 := Lib.hid (IR2.out.only ho (by simp))
  clear IR2
  clear HW8
  clear ho c d0 d1
  have d0 := (HW9.out.row HRb.out (by simp)).cell 0 rfl
  have d1 := (HW9.out.row HRb.out (by simp)).cell 1 rfl
  have c := HT.out.d2 w9 HW9.out
  go_wp2_with fail
  refine c.mono ?_
  rintro e w10 ⟨rfl, ho⟩
  have HW10 : Hid (Only [] w2 w10) := HW9.out.trans ho (by simp)
  have IR1_10 := Lib.hid (IR1_9.out.only ho (by simp))
  clear IR1_9
  have IR2_10 := Lib.hid (IR2_9.out.only ho (by simp))
  clear IR2_9
  clear HW9
  clear ho c d0 d1
  have d0 := (HW10.out.row HRb.out (by simp)).cell 0 rfl
  have d1 := (HW10.out.row HRb.out (by simp)).cell 1 rfl
  have c := HT.out.e1 w10 HW10.out
  go_wp2_with fail
  refine c.mono ?_
  rintro e w11 ⟨v, rfl, hi, ho⟩
  obtain ⟨va11, vc11, rfl⟩ := hi.len
  have HW11 : Hid (Only [] w2 w11) := HW10.out.trans ho (by simp)
  have IR1_11 := Lib.hid (IR1_10.out.only ho (by simp))
  clear IR1_10
  have IR2_11 := Lib.hid (IR2_10.out.only ho (by simp))
  clear IR2_10
  clear HW10
  have IK1 : Hid (Ints w11 0 _ _) := hi.base (Nat.zero_le _)
  clear hi
  clear ho c d0 d1
  have d0 := (HW11.out.row HRb.out (by simp)).cell 0 rfl
  have d1 := (HW11.out.row HRb.out (by simp)).cell 1 rfl
  have c := HT.out.e2 w11 HW11.out
  go_wp2_with fail
  refine c.mono ?_
  rintro e w12 ⟨v, rfl, hi, ho⟩
  obtain ⟨va12, vc12, rfl⟩ := hi.len
  have HW12 : Hid (Only [] w2 w12) := HW11.out.trans ho (by simp)
  have IR1_12 := Lib.hid (IR1_11.out.only ho (by simp))
  clear IR1_11
  have IR2_12 := Lib.hid (IR2_11.out.only ho (by simp))
  clear IR2_11
  have IK1_12 := Lib.hid (IK1.out.only ho (by simp))
  clear IK1
  clear HW11
  have IK2 : Hid (Ints w12 0 _ _) := hi.base (Nat.zero_le _)
  clear hi
  clear ho c d0 d1
  have d0 := (HW12.out.row HRb.out (by simp)).cell 0 rfl
  have d1 := (HW12.out.row HRb.out (by simp)).cell 1 rfl
  go_wp2_with fail
  refine (ints_same _ _ _ rl (IR1_12.out.read) (IR2_12.out.read) HT.out.hrl).mono ?_
  rintro e w13 ⟨rfl, hdr⟩
  have HW13 : Hid (Only [] w2 w13) := HW12.out.trans (hdr.only []) (by simp)
  have IR1_13 := Lib.hid (IR1_12.out.only (hdr.only []) (by simp))
  clear IR1_12
  have IR2_13 := Lib.hid (IR2_12.out.only (hdr.only []) (by simp))
  clear IR2_12
  have IK1_13 := Lib.hid (IK1_12.out.only (hdr.only []) (by simp))
  clear IK1_12
  have IK2_13 := Lib.hid (IK2.out.only (hdr.only []) (by simp))
  clear IK2
  clear HW12
  clear hdr d0 d1
  have d0 := (HW13.out.row HRb.out (by simp)).cell 0 rfl
  have d1 := (HW13.out.row HRb.out (by simp)).cell 1 rfl
  go_wp2_with fail
  refine (ints_same _ _ _ kl (IK1_13.out.read) (IK2_13.out.read) HT.out.hkl).mono ?_
  rintro e w14 ⟨rfl, hdr⟩
  have HW14 : Hid (Only [] w2 w14) := HW13.out.trans (hdr.only []) (by simp)
  have IR1_14 := Lib.hid (IR1_13.out.only (hdr.only []) (by simp))
  clear IR1_13
  have IR2_14 := Lib.hid (IR2_13.out.only (hdr.only []) (by simp))
  clear IR2_13
  have IK1_14 := Lib.hid (IK1_13.out.only (hdr.only []) (by simp))
  clear IK1_13
  have IK2_14 := Lib.hid (IK2_13.out.only (hdr.only []) (by simp))
  clear IK2_13
  clear HW13
  clear hdr d0 d1
  have d0 := (HW14.out.row HRb.out (by simp)).cell 0 rfl
  have d1 := (HW14.out.row HRb.out (by simp)).cell 1 rfl
  have c := HT.out.f1 w14 HW14.out
  go_wp2_with fail
  refine c.mono ?_
  rintro e w15 ⟨rfl, ho⟩
  have HW15 : Hid (Only [] w2 w15) := HW14.out.trans ho (by simp)
  have IR1_15 := Lib.hid (IR1_14.out.only ho (by simp))
  clear IR1_14
  have IR2_15 := Lib.hid (IR2_14.out.only ho (by simp))
  clear IR2_14
  have IK1_15 := Lib.hid (IK1_14.out.only ho (by simp))
  clear IK1_14
  have IK2_15 := Lib.hid (IK2_14.out.only ho (by simp))
  clear IK2_14
  clear HW14
  clear ho c d0 d1
  have d0 := (HW15.out.row HRb.out (by simp)).cell 0 rfl
  have d1 := (HW15.out.row HRb.out (by simp)).cell 1 rfl
  have c := HT.out.f2 w15 HW15.out
  go_wp2_with fail
  refine c.mono ?_
  rintro e w16 ⟨rfl, ho⟩
  have HW16 : Hid (Only [] w2 w16) := HW15.out.trans ho (by simp)
  have IR1_16 := Lib.hid (IR1_15.out.only ho (by simp))
  clear IR1_15
  have IR2_16 := Lib.hid (IR2_15.out.only ho (by simp))
  clear IR2_15
  have IK1_16 := Lib.hid (IK1_15.out.only ho (by simp))
  clear IK1_15
  have IK2_16 := Lib.hid (IK2_15.out.only ho (by simp))
  clear IK2_15
  clear HW15
  clear ho c d0 d1
  have d0 := (HW16.out.row HRb.out (by simp)).cell 0 rfl
  have d1 := (HW16.out.row HRb.out (by simp)).cell 1 rfl
  go_wp2_with fail
  refine (osane_any _).mono ?_
  rintro e w99 ⟨rfl, ho⟩
  have HE : Hid (Below w.heap.size w w99) := ((HO.out.trans HO2.out (by simp)).trans (HW16.out.trans ho (by simp)) (by simp)).bel
  clear ho
  go_wp2_with fail
  exact hR.out _ _ ⟨rfl, HE.out⟩
end Go.Proofs.Ytcdeikbehpepjaa
