/- Law ScopeAsks: an array of two numbers opened, and the walk (printed by wip/gen/slawj.py). -/
import Derived.Test.YtbjmgbbggbbidaaSLawF
import Derived.OpenShut
namespace Go.Proofs.Ytbjmgbbggbbidaa
open Go.ChangeShapes Go.WideShapes Go.Deep
open Go.RowKit Go.Maps
set_option maxHeartbeats 3200000
set_option maxRecDepth 100000
set_option linter.unusedVariables false
section
variable {H : Type} {enc : TypeId × Value → H} {P : Program} {w : World} {base : Nat} {spare : Nat → Bool} {held : Bool}
theorem okWide_array {r : Reach} {b0 n : Nat} {t e : TypeId} {v : Value} (ht : P.underlying t = some (.array n e)) (h : Value.okWide P w r b0 t v) : ∃ cs, v = .agg cs ∧ cs.size = P.cellsOf t := by
  simp only [Value.okWide, ht] at h
  obtain ⟨cs, h1, h2, _⟩ := h
  exact ⟨cs, h1, h2⟩
theorem open_arr2 {r : Reach} {b0 : Nat} {t e : TypeId} {v : Value} {d : DataW H} {p : List MemPlace} (ht : P.underlying t = some (.array 2 e)) (he : P.underlying e = some (.int .i64)) (hce : P.cellsOf e = 1) (hC : P.cellsOf t = 2)
    (hv : Value.okWide P w r b0 t v) (h : DataW.Trod enc P w base spare held t v d p) : ∃ x y : Int, v = .agg #[.int .i64 x, .int .i64 y] ∧ (Lit.int .i64 x).wf = true ∧ (Lit.int .i64 y).wf = true := by
  obtain ⟨cs, rfl, hsz⟩ := okWide_array ht hv
  rw [hC] at hsz
  obtain ⟨l⟩ := cs
  match l, hsz with
  | [c0, c1], _ =>
    obtain ⟨fuel, hf⟩ := h
    obtain ⟨xs, m, _, _, hl, hxl, hi⟩ := DataW.trod_array ht hf
    have h0 := hi 0 (by omega)
    have h1 := hi 1 (by omega)
    rw [hce, List.getElem?_eq_getElem (by omega)] at h0 h1
    obtain ⟨x, e0, _, w0⟩ := DataW.trod_int he h0
    obtain ⟨y, e1, _, w1⟩ := DataW.trod_int he h1
    simp [Value.cells] at e0 e1
    subst e0 e1
    exact ⟨x, y, rfl, w0, w1⟩
end
theorem Recs.only0 {k : Nat} {w w' : World} {a : Option Addr} {len : Nat} {f : Nat → Nat → Int} (h : Recs k w a len f) (ho : Only [] w w') : Recs k w' a len f := by
  obtain ⟨h1, h2⟩ := h
  refine ⟨h1, ?_⟩
  rcases h2 with h2 | ⟨b, o, h3, h4⟩
  · exact .inl h2
  · exact .inr ⟨b, o, h3, fun i hi j hj => ⟨ho.cell (h4 i hi j hj).1 (by simp), (h4 i hi j hj).2⟩⟩
theorem Numk.only0 {w w' : World} {a : Option Addr} {len cap : Nat} {f : Nat → Int} (h : Numk w a len cap f) (ho : Only [] w w') : Numk w' a len cap f := by
  obtain ⟨⟨h1, h2⟩, h3⟩ := h
  refine ⟨⟨h1, ?_⟩, h3⟩
  rcases h2 with h2 | ⟨b, o, h4, h5⟩
  · exact .inl h2
  · exact .inr ⟨b, o, h4, fun i hi => ⟨ho.cell (h5 i hi).1 (by simp), (h5 i hi).2⟩⟩
/-- What both answer to Outer and May. -/
def AskO (w : World) (vp vq : Value) (x y : Int) (o m : Bool × Int) : Prop := ∀ wr, Only [] w wr →
  Calls Try.prog 25 #[vp, .int .i64 x, .int .i64 y] wr (TwoB wr o) ∧ Calls Try.prog 26 #[vq, .int .i64 x, .int .i64 y] wr (TwoB wr o) ∧
  Calls Try.prog 27 #[vp, .int .i64 x, .int .i64 y] wr (TwoB wr m) ∧ Calls Try.prog 28 #[vq, .int .i64 x, .int .i64 y] wr (TwoB wr m)
theorem twoB_of {w : World} {F : FuncId} {args : Array Value} {a : Bool} {b : Int} (h : Calls Try.prog F args w (Exact w (.tuple #[.bool a, .int .i64 b]))) : Calls Try.prog F args w (TwoB w (a, b)) := h.mono (by rintro e _ ⟨rfl, rfl⟩; exact ⟨rfl, Drew.refl _⟩)
/-- What both do at SetPortal. -/
def SetO (w : World) (base : Nat) (vp vq : Value) (x y : Int) : Prop := ∃ (r : Int) (Mid Fin : World → Prop),
  (∀ wr, Only [] w wr → Calls Try.prog 31 #[vp, .int .i64 x, .int .i64 y] wr (fun e w' => e = .returned (.int .i64 r) ∧ Mid w' ∧ OnlyP (fun k => base ≤ k) wr w')) ∧
  (∀ w3, base ≤ w3.heap.size → Mid w3 → Calls Try.prog 32 #[vq, .int .i64 x, .int .i64 y] w3 (fun e w' => e = .returned (.int .i64 r) ∧ Fin w' ∧ OnlyP (fun k => base ≤ k) w3 w')) ∧
  (∀ w4, Fin w4 → ∃ V, AgreeO w4 vp vq V)
theorem Played.asks {w : World} {base : Nat} {vp vq : Value} (h : Played w base vp vq) (hb : base ≤ w.heap.size) {x y : Int} (wx : wfI x) (wy : wfI y) : (∃ V, AgreeO w vp vq V) ∧ (∃ o m, AskO w vp vq x y o m) ∧ SetO w base vp vq x y := by
  refine ⟨h.agree, ?_⟩
  rcases h with ⟨rfl, rfl⟩ | ⟨p, q, M, rfl, rfl, h⟩
  · refine ⟨⟨(false, 1), (false, 1), fun wr _ => ⟨outerQ_nope wr _ (.inl rfl) x y, twoB_of (routerQ_nil wr x y), may_nope wr _ (.inl rfl) x y, twoB_of (rmay_nil wr x y)⟩⟩, 1, fun _ => True, fun _ => True, fun wr _ => ?_, fun w3 _ _ => ?_, fun w4 _ => ⟨_, agreeO_none w4⟩⟩
    · refine (setPortal_nope wr _ (.inl rfl) x y).mono ?_
      rintro e _ ⟨rfl, rfl⟩
      exact ⟨rfl, trivial, OnlyP.refl _ _⟩
    · refine (rsetPortal_nil w3 x y).mono ?_
      rintro e _ ⟨rfl, rfl⟩
      exact ⟨rfl, trivial, OnlyP.refl _ _⟩
  · refine ⟨⟨M.outer x y, M.may x y, fun wr ho => ?_⟩, (M.setPortal x y).1, fun w' => Half w' base p q (M.setPortal x y).2 M, fun w' => Half w' base p q (M.setPortal x y).2 (M.setPortal x y).2, fun wr ho => ?_, fun w3 hb3 h3 => ?_, fun w4 h4 => ⟨_, agreeO_half h4⟩⟩
    · have h' := h.only0 ho
      refine ⟨h'.outer x y, ?_⟩
      obtain ⟨L, K, X, Y, h'⟩ := h'
      refine ⟨twoB_of (routerQ_rep wr h'.hq h'.okr x y), ?_, rmay_rep wr h'.hq h'.okr x y⟩
      have := may_rep wr h'.hp h'.okp.toP x y wx wy
      rwa [h'.okp.toP_may] at this
    · have h' := h.only0 ho
      exact h'.pstep (Nat.le_trans hb ho.size) (h'.okp.setPortal x y) (fun L X hp => by
        have := setPortal_rep wr hp h'.okp.toP x y wy
        rw [h'.okp.toP_setPortal] at this
        exact this)
    · exact h3.rstep hb3 (h.okp.setPortal x y) (fun K Y hq => rsetPortal_rep w3 hq h.okp x y)
theorem walk_ScopeAsks (a0 : Option Addr) (len0 cap0 : Nat) (f0 : Nat → Int) (a1 : Option Addr) (len1 cap1 : Nat) (f1 : Nat → Nat → Int) (x y : Int) (w : World) (w0 : Numk w a0 len0 cap0 f0) (w1 : Recs 3 w a1 len1 f1) (wx : (Lit.int .i64 x).wf = true) (wy : (Lit.int .i64 y).wf = true) :
    Calls Try.prog 7 #[.slice a0 len0 cap0, .slice a1 len1 cap1, .agg #[.int .i64 x, .int .i64 y]] w fun e w' => e = .returned (.bool true) ∧ Below w.heap.size w w' := by
  refine calls_abs fun R hR => ?_
  have hrw : Row (w.alloc (.cells #[.int .i64 x, .int .i64 y] 45)) w.heap.size 45 [.int .i64 x, .int .i64 y] := Row.new w _ [_, _]
  have hoz : Only [] w (w.alloc (.cells #[.int .i64 x, .int .i64 y] 45)) := (Only.refl _ w).alloc _
  have c := play_any (w.alloc (.cells #[.int .i64 x, .int .i64 y] 45)) f0 a0 len0 cap0 (w0.only0 hoz) a1 len1 cap1 f1 (w1.only0 hoz)
  have HC0 : Hid ((w.alloc (.cells #[.int .i64 x, .int .i64 y] 45)).cell? ⟨w.heap.size, 0, none⟩ = some (.int .i64 x)) := hrw.cell 0 rfl
  have HC1 : Hid ((w.alloc (.cells #[.int .i64 x, .int .i64 y] 45)).cell? ⟨w.heap.size, 1, none⟩ = some (.int .i64 y)) := hrw.cell 1 rfl
  have HGB : Hid ((w.alloc (.cells #[.int .i64 x, .int .i64 y] 45)).heap.size = w.heap.size + 1) := by show _ = _; simp
  have HOZ := Lib.hid hoz
  have WX := Lib.hid wx
  have WY := Lib.hid wy
  clear w0 w1 hrw hoz wx wy
  go_enter Try.func7, Try.ntmps7
  go_wp2_with fail
  obtain ⟨wz, hwz⟩ : ∃ z, z = w.alloc (.cells #[.int .i64 x, .int .i64 y] 45) := ⟨_, rfl⟩
  rw [← hwz] at c HC0 HC1 HGB HOZ ⊢
  obtain ⟨G, hG⟩ : ∃ G, G = w.heap.size := ⟨_, rfl⟩
  rw [← hG] at HC0 HC1 HGB ⊢
  clear hwz hG
  refine c.mono ?_
  rintro e w10 ⟨vp, vq, rfl, hP, ho⟩
  obtain ⟨⟨V, hV⟩, ⟨o, m, hA⟩, rs, Mid, Fin, hS1, hS2, hS3⟩ := hP.asks ho.size WX.out WY.out
  have O10 := Lib.hid ho
  have H : Hid (∀ wr, Only [] w10 wr → Agree wr vp vq V) := hV
  have HA : Hid (AskO w10 vp vq x y o m) := hA
  have S1 := Lib.hid hS1
  have S2 := Lib.hid hS2
  have S3 := Lib.hid hS3
  have P10 : Hid (Only [] w10 w10) := Only.refl _ _
  have c0 := O10.out.cell HC0.out (by simp)
  have c1 := O10.out.cell HC1.out (by simp)
  clear c hP ho hV hA hS1 hS2 hS3
  have c := (HA.out w10 P10.out).1
  go_wp2_with fail
  refine c.mono ?_
  rintro e w11 ⟨rfl, hd⟩
  have O11 := Lib.hid (O10.out.trans (hd.only []) (by simp))
  have P11 := Lib.hid (P10.out.trans (hd.only []) (by simp))
  clear c hd c0 c1
  have c0 := O11.out.cell HC0.out (by simp)
  have c1 := O11.out.cell HC1.out (by simp)
  have c := (HA.out w11 P11.out).2.1
  go_wp2_with fail
  refine c.mono ?_
  rintro e w12 ⟨rfl, hd⟩
  have O12 := Lib.hid (O11.out.trans (hd.only []) (by simp))
  have P12 := Lib.hid (P11.out.trans (hd.only []) (by simp))
  clear c hd c0 c1
  have c0 := O12.out.cell HC0.out (by simp)
  have c1 := O12.out.cell HC1.out (by simp)
  have c := (HA.out w12 P12.out).2.2.1
  go_wp2_with fail
  refine c.mono ?_
  rintro e w13 ⟨rfl, hd⟩
  have O13 := Lib.hid (O12.out.trans (hd.only []) (by simp))
  have P13 := Lib.hid (P12.out.trans (hd.only []) (by simp))
  clear c hd c0 c1
  have c0 := O13.out.cell HC0.out (by simp)
  have c1 := O13.out.cell HC1.out (by simp)
  have c := (HA.out w13 P13.out).2.2.2
  go_wp2_with fail
  refine c.mono ?_
  rintro e w14 ⟨rfl, hd⟩
  have O14 := Lib.hid (O13.out.trans (hd.only []) (by simp))
  have P14 := Lib.hid (P13.out.trans (hd.only []) (by simp))
  clear c hd c0 c1
  have c0 := O14.out.cell HC0.out (by simp)
  have c1 := O14.out.cell HC1.out (by simp)
  obtain ⟨r1, hr1⟩ : ∃ z, z = V.are x := ⟨_, rfl⟩
  have HR1 := Lib.hid hr1
  clear hr1
  have c := ((H.out w14 P14.out).are x WX.out).1
  rw [← HR1.out] at c
  go_wp2_with fail
  refine c.mono ?_
  rintro e w15 ⟨rfl, hd⟩
  have O15 := Lib.hid (O14.out.trans (hd.only []) (by simp))
  have P15 := Lib.hid (P14.out.trans (hd.only []) (by simp))
  clear c hd c0 c1
  have c0 := O15.out.cell HC0.out (by simp)
  have c1 := O15.out.cell HC1.out (by simp)
  have c := ((H.out w15 P15.out).are x WX.out).2
  rw [← HR1.out] at c
  go_wp2_with fail
  refine c.mono ?_
  rintro e w16 ⟨rfl, hd⟩
  have O16 := Lib.hid (O15.out.trans (hd.only []) (by simp))
  have P16 := Lib.hid (P15.out.trans (hd.only []) (by simp))
  clear c hd c0 c1
  have c0 := O16.out.cell HC0.out (by simp)
  have c1 := O16.out.cell HC1.out (by simp)
  obtain ⟨r2, hr2⟩ : ∃ z, z = V.ref x := ⟨_, rfl⟩
  have HR2 := Lib.hid hr2
  clear hr2
  have HL := Lib.hid ((H.out w16 P16.out).ref x WX.out).2.2
  have c := ((H.out w16 P16.out).ref x WX.out).1
  rw [← HR2.out] at c
  go_wp2_with fail
  refine c.mono ?_
  rintro e w17 ⟨v4, rfl, hi, ho⟩
  have O17 := Lib.hid (O16.out.trans ho (by simp))
  have P17 := Lib.hid (P16.out.trans ho (by simp))
  have I4 := Lib.hid hi.read
  clear c hi ho c0 c1
  have c0 := O17.out.cell HC0.out (by simp)
  have c1 := O17.out.cell HC1.out (by simp)
  have c := ((H.out w17 P17.out).ref x WX.out).2.1
  rw [← HR2.out] at c
  go_wp2_with fail
  refine c.mono ?_
  rintro e w18 ⟨v5, rfl, hi, ho⟩
  have O18 := Lib.hid (O17.out.trans ho (by simp))
  have P18 := Lib.hid (P17.out.trans ho (by simp))
  have I5 := Lib.hid hi.read
  have I4b := Lib.hid (I4.out.only ho (by simp))
  clear c hi ho c0 c1
  have c0 := O18.out.cell HC0.out (by simp)
  have c1 := O18.out.cell HC1.out (by simp)
  have c := ints_same w18 v4 v5 r2.1 I4b.out I5.out (by rw [HR2.out]; exact HL.out)
  go_wp2_with fail
  refine c.mono ?_
  rintro e w19 ⟨rfl, hd⟩
  have O19 := Lib.hid (O18.out.trans (hd.only []) (by simp))
  have P19 := Lib.hid (P18.out.trans (hd.only []) (by simp))
  clear c hd c0 c1
  have c0 := O19.out.cell HC0.out (by simp)
  have c1 := O19.out.cell HC1.out (by simp)
  go_wp2_with fail
  have hPd : Only [] w10 w19.drew := P19.out.drew
  have hbs : wz.heap.size ≤ w19.drew.heap.size := O19.out.size
  have hd0 : w19.drew.cell? ⟨G, 0, none⟩ = some (.int .i64 x) := c0
  have hd1 : w19.drew.cell? ⟨G, 1, none⟩ = some (.int .i64 y) := c1
  have hnG : ¬ wz.heap.size ≤ G := by have := HGB.out; omega
  clear c0 c1
  go_region_held3 (fun w' => w'.cell? ⟨G, 0, none⟩ = some (.int .i64 x) ∧ w'.cell? ⟨G, 1, none⟩ = some (.int .i64 y))
    (first
      | (exact ⟨hd0, hd1⟩)
      | (exact ⟨ho4.cell (ho3.cell hd0 hnG) hnG, ho4.cell (ho3.cell hd1 hnG) hnG⟩)
      | (exact ⟨ho3.cell hd0 hnG, ho3.cell hd1 hnG⟩))
    (first
      | (go_at_call 31; refine (S1.out _ hPd).mono ?_; rintro e w3 ⟨rfl, hm3, ho3⟩)
      | (go_at_call 32; refine (S2.out _ (Nat.le_trans hbs ho3.size) hm3).mono ?_; rintro e w4 ⟨rfl, hf4, ho4⟩))
  obtain ⟨V2, hV2⟩ := S3.out _ hf4
  have H2 : Hid (∀ wr, Only [] w4 wr → Agree wr vp vq V2) := hV2
  have hO4 : Only [] wz w4 := Only.past (Only.past (O19.out.drew) ho3) ho4
  have O40 := Lib.hid hO4
  have P40 : Hid (Only [] w4 w4) := Only.refl _ _
  have c0 := O40.out.cell HC0.out (by simp)
  have c1 := O40.out.cell HC1.out (by simp)
  clear hV2 hf4 hm3 ho3 ho4 hO4 hPd hbs hd0 hd1
  obtain ⟨r3, hr3⟩ : ∃ z, z = V2.por x := ⟨_, rfl⟩
  have HR3 := Lib.hid hr3
  clear hr3
  obtain ⟨w40, hw40⟩ : ∃ z, z = w4 := ⟨_, rfl⟩
  rw [← hw40] at H2 O40 P40 c0 c1 ⊢
  clear hw40
  have c := ((H2.out w40 P40.out).por x).1
  rw [← HR3.out] at c
  go_wp2_with fail
  refine c.mono ?_
  rintro e w41 ⟨rfl, hd⟩
  have O41 := Lib.hid (O40.out.trans (hd.only []) (by simp))
  have P41 := Lib.hid (P40.out.trans (hd.only []) (by simp))
  clear c hd c0 c1
  have c0 := O41.out.cell HC0.out (by simp)
  have c1 := O41.out.cell HC1.out (by simp)
  have c := ((H2.out w41 P41.out).por x).2
  rw [← HR3.out] at c
  go_wp2_with fail
  refine c.mono ?_
  rintro e w42 ⟨rfl, hd⟩
  have O42 := Lib.hid (O41.out.trans (hd.only []) (by simp))
  have P42 := Lib.hid (P41.out.trans (hd.only []) (by simp))
  clear c hd c0 c1
  have c0 := O42.out.cell HC0.out (by simp)
  have c1 := O42.out.cell HC1.out (by simp)
  have c3 := sane_any w42
  go_wp2_with fail
  refine c3.mono ?_
  rintro e w5 ⟨rfl, ho⟩
  have HO5 := Lib.hid ((HOZ.out.trans O42.out (by simp)).trans ho (by simp))
  clear c3 ho
  go_wp2_with fail
  exact hR.out _ _ ⟨rfl, HO5.out.bel⟩
end Go.Proofs.Ytbjmgbbggbbidaa
