/- Layer 15's laws: play. -/
import Derived.Test.YtbjmgbbggbbidaaSLawC
import Derived.OwnWalk
namespace Go.Proofs.Ytbjmgbbggbbidaa
open Go.ChangeShapes Go.WideShapes Go.Deep
open Go.RowKit Go.Maps
set_option maxHeartbeats 3200000
set_option maxRecDepth 100000
set_option linter.unusedVariables false
/-- A slice of numbers with its room. -/
def Numk (w : World) (a : Option Addr) (len cap : Nat) (f : Nat → Int) : Prop := Nums w a len f ∧ len ≤ cap
theorem numk_of {H : Type} {enc : TypeId × Value → H} {P : Program} {w : World} {base : Nat} {spare : Nat → Bool} {held : Bool} {t e : TypeId} {fuel len cap : Nat} {a : Option Addr} {x : DataW H × List MemPlace} (ht : P.underlying t = some (.slice e)) (he : P.underlying e = some (.int .i64)) (hc : P.cellsOf e = 1)
    (h : DataW.trod enc P w base spare held fuel t [.slice a len cap] = some x) : ∃ f, Numk w a len cap f := by
  obtain ⟨f, hf⟩ := nums_of ht he hc h
  refine ⟨f, hf, ?_⟩
  rcases open_ints ht he hc h with ⟨h1, _⟩ | ⟨a', len', cap', zs, hcs, hb, hl, hm, hz, hx, hcell, hwz⟩
  · simp at h1; omega
  · simp at hcs; omega
def listOf (len : Nat) (f : Nat → Int) : List Int := (List.range len).map f
theorem listOf_len (len : Nat) (f : Nat → Int) : (listOf len f).length = len := by simp [listOf]
theorem listOf_at {len : Nat} {f : Nat → Int} {i : Nat} (h : i < len) : gI (listOf len f) i = f i := by simp [listOf, gI, h]
theorem Nums.read {w : World} {a : Option Addr} {len cap m : Nat} {f : Nat → Int} (h : Nums w a len f) (hm : m ≤ len) : Read w (.slice a m cap) (listOf m f) := by
  obtain ⟨_, h0 | ⟨b, o, rfl, hc⟩⟩ := h
  · have : m = 0 := by omega
    subst this
    exact .inr ⟨a, cap, rfl, rfl⟩
  · refine .inl ⟨b, o, cap, by rw [listOf_len], fun i hi => ?_⟩
    rw [listOf_len] at hi
    rw [(hc i (by omega)).1, listOf_at hi]
/-- What play yields. -/
def Played (w : World) (base : Nat) (vp vq : Value) : Prop := (vp = .pointer none ∧ vq = .pointer none) ∨ ∃ p q M, vp = .pointer (some ⟨p, 0, none⟩) ∧ vq = .pointer (some ⟨q, 0, none⟩) ∧ Half w base p q M M
theorem play_bad (w : World) (l : List Int) (a : Option Addr) (len cap : Nat) (hr : Read w (.slice a len cap) l) (h20 : len ≤ 20) (hb : goodSizes l = false) (b : Option Addr) (n cap2 : Nat) :
    Calls Try.prog 12 #[.slice a len cap, .slice b n cap2] w (Exact w (.tuple #[.pointer none, .pointer none, .bool true])) := by
  refine calls_abs fun R hR => ?_
  have hl : l.length = len := by obtain ⟨a', c', e⟩ := hr.len; cases e; rfl
  have c1 := new_bad w _ l hr (by omega) hb
  have c2 := rnew_bad w _ l hr (by omega) hb
  clear hr hb hl
  go_enter Try.func12, Try.ntmps12
  go_wp2_with fail
  refine c1.mono ?_
  rintro e _ ⟨rfl, rfl⟩
  go_wp2_with fail
  refine c2.mono ?_
  rintro e _ ⟨rfl, rfl⟩
  go_wp2_with fail
  go_loop [11] (fun iv => iv = .int .i64 0) (fun _ => 0)
  case atStart => rfl
  case round =>
    subst hrel
    by_cases hn : 0 < n
    · have hn1 : (0 : Int) < n := by omega
      go_wp2_with fail
      refine bodyPost_ret (results_tmp3 rfl _ _ _) rfl ?_
      exact hR.out _ _ ⟨rfl, rfl⟩
    · obtain rfl : n = 0 := by omega
      go_wp2_with fail
      refine bodyPost_ret (results_tmp3 rfl _ _ _) rfl ?_
      exact hR.out _ _ ⟨rfl, rfl⟩
theorem play_cut (w : World) (f : Nat → Int) (a : Option Addr) (len cap : Nat) (hf : Numk w a len cap f) (h20 : 20 < len) (b : Option Addr) (n cap2 : Nat) :
    Calls Try.prog 12 #[.slice a len cap, .slice b n cap2] w (Exact w (.tuple #[.pointer none, .pointer none, .bool true])) := by
  refine calls_abs fun R hR => ?_
  have hcap := hf.2
  have hr : Read w (.slice a 20 cap) (listOf 20 f) := hf.1.read (by omega)
  have hb : goodSizes (listOf 20 f) = false := by unfold goodSizes; rw [listOf_len]; simp
  obtain ⟨bb, oo, rfl⟩ : ∃ bb oo, a = some ⟨bb, oo, none⟩ := by
    rcases hf.1.2 with h | ⟨b, o, e, _⟩
    · omega
    · exact ⟨b, o, e⟩
  have c1 := new_bad w _ _ hr (by rw [listOf_len]; omega) hb
  have c2 := rnew_bad w _ _ hr (by rw [listOf_len]; omega) hb
  have h21 : (20 : Int) < len := by omega
  have h22 : (20 : Int) ≤ cap := by omega
  clear hr hb hf
  go_enter Try.func12, Try.ntmps12
  go_wp2_with fail
  refine c1.mono ?_
  rintro e _ ⟨rfl, rfl⟩
  go_wp2_with fail
  refine c2.mono ?_
  rintro e _ ⟨rfl, rfl⟩
  go_wp2_with fail
  go_loop [11] (fun iv => iv = .int .i64 0) (fun _ => 0)
  case atStart => rfl
  case round =>
    subst hrel
    by_cases hn : 0 < n
    · have hn1 : (0 : Int) < n := by omega
      go_wp2_with fail
      refine bodyPost_ret (results_tmp3 rfl _ _ _) rfl ?_
      exact hR.out _ _ ⟨rfl, rfl⟩
    · obtain rfl : n = 0 := by omega
      go_wp2_with fail
      refine bodyPost_ret (results_tmp3 rfl _ _ _) rfl ?_
      exact hR.out _ _ ⟨rfl, rfl⟩
theorem play_good (w : World) (l : List Int) (a : Option Addr) (len cap : Nat) (hr : Read w (.slice a len cap) l) (h20 : len ≤ 20) (hb : goodSizes l = true) (b : Option Addr) (n cap2 : Nat) (f : Nat → Nat → Int) (hd : Recs 3 w b n f) :
    Calls Try.prog 12 #[.slice a len cap, .slice b n cap2] w (fun e w' => ∃ p q M, e = .returned (.tuple #[.pointer (some ⟨p, 0, none⟩), .pointer (some ⟨q, 0, none⟩), .bool true]) ∧ Half w' w.heap.size p q M M ∧ Only [] w w') := by
  refine calls_abs fun R hR => ?_
  have c1 := new_good w _ l hr hb
  have HRD := Lib.hid hr
  have HD := Lib.hid hd
  have HGS := Lib.hid hb
  clear hr hb hd
  go_enter Try.func12, Try.ntmps12
  go_wp2_with fail
  refine c1.mono ?_
  rintro e w1 ⟨p, L, X, rfl, hp, hL, ho⟩
  have O1 := Lib.hid ho
  have HP := Lib.hid hp
  have HL := Lib.hid hL
  clear hp hL ho c1
  have c2 := rnew_good w1 _ l (HRD.out.only O1.out (by simp)) HGS.out
  go_wp2_with fail
  refine c2.mono ?_
  rintro e w2 ⟨q, K, Y, rfl, hq, hK, ho⟩
  have O2 := Lib.hid (O1.out.trans ho (by simp))
  have HB : Hid (Half w2 w.heap.size p q (Sc.new l) (Sc.new l)) := by
    refine ⟨L, K, X, Y, HP.out.only0 ho, hq, Sc.Ok.new HGS.out, Sc.Ok.new HGS.out, fun k hk => ?_, HL.out, fun k hk => Nat.le_trans O1.out.size (hK k hk)⟩
    cases e : K k with
    | none => rfl
    | some ℓ => have := hK k (by rw [e]; simp); have := HP.out.lt k hk; omega
  clear hq hK ho c2 HP HL
  go_wp2_with fail
  go_loopw [11] (fun iv wr => ∃ (x : Nat) (M : Sc), x ≤ n ∧ x ≤ 80 ∧ iv = .int .i64 x ∧ Half wr w.heap.size p q M M ∧ Only [] w wr) (fun iv _ => n - (intOf iv).toNat)
  case atStart => exact ⟨0, Sc.new l, by omega, by omega, rfl, HB.out, O2.out⟩
  case round =>
    obtain ⟨x, M, hx, hx80, rfl, hB, hO⟩ := hrel
    have HB := Lib.hid hB
    have HO := Lib.hid hO
    clear hB hO
    by_cases hlt : x < n ∧ x < 80
    · obtain ⟨hlt, hl8⟩ := hlt
      have hlt1 : (x : Int) < n := by omega
      have hl81 : (x : Int) < 80 := by omega
      rcases HD.out.2 with h0 | ⟨bb, oo, rfl, hc⟩
      · omega
      have c0 := HO.out.cell (hc x (by omega) 0 (by omega)).1 (by simp)
      have c1 := HO.out.cell (hc x (by omega) 1 (by omega)).1 (by simp)
      have c2 := HO.out.cell (hc x (by omega) 2 (by omega)).1 (by simp)
      rw [Nat.add_zero] at c0
      rw [← Nat.add_assoc] at c1 c2
      have wa := (hc x (by omega) 1 (by omega)).2
      have wb := (hc x (by omega) 2 (by omega)).2
      obtain ⟨d0, hd0⟩ : ∃ z, z = f x 0 := ⟨_, rfl⟩
      obtain ⟨d1, hd1⟩ : ∃ z, z = f x 1 := ⟨_, rfl⟩
      obtain ⟨d2, hd2⟩ : ∃ z, z = f x 2 := ⟨_, rfl⟩
      rw [← hd0] at c0
      rw [← hd1] at c1 wa
      rw [← hd2] at c2 wb
      have hbase : w.heap.size ≤ wr.heap.size := HO.out.size
      have hc1 : Calls Try.prog _ _ wr _ := HB.out.pstep (M' := (M.do d0 d1 d2).2.2) (F := 38) (args := #[.pointer (some ⟨p, 0, none⟩), .agg #[.int .i64 d0, .int .i64 d1, .int .i64 d2]]) (r := .tuple #[.int .i64 (M.do d0 d1 d2).1, .int .i64 (M.do d0 d1 d2).2.1]) hbase (HB.out.okp.do _ _ _) (fun L X hp => by
        have := do_rep wr hp HB.out.okp.toP d0 d1 d2 wa wb
        rw [HB.out.okp.toP_do] at this
        exact this)
      have hc2 : Hid (∀ w3, w.heap.size ≤ w3.heap.size → Half w3 w.heap.size p q (M.do d0 d1 d2).2.2 M → Calls Try.prog 45 #[.pointer (some ⟨q, 0, none⟩), .agg #[.int .i64 d0, .int .i64 d1, .int .i64 d2]] w3 (fun e w4 => e = .returned (.tuple #[.int .i64 (M.do d0 d1 d2).1, .int .i64 (M.do d0 d1 d2).2.1]) ∧ Half w4 w.heap.size p q (M.do d0 d1 d2).2.2 (M.do d0 d1 d2).2.2 ∧ OnlyP (fun k => w.heap.size ≤ k) w3 w4)) := fun w3 hb3 h3 =>
        h3.rstep hb3 (HB.out.okp.do _ _ _) (fun K Y hq => rdo_rep w3 hq HB.out.okr d0 d1 d2)
      generalize M.do d0 d1 d2 = res at *
      obtain ⟨r0, r1, M'⟩ := res
      have CC0 : Hid (w.cell? ⟨bb, oo + x * 3, none⟩ = some (.int .i64 d0)) := by
        have := (hc x (by omega) 0 (by omega)).1; rw [Nat.add_zero, ← hd0] at this; exact this
      have CC1 : Hid (w.cell? ⟨bb, oo + x * 3 + 1, none⟩ = some (.int .i64 d1)) := by
        have := (hc x (by omega) 1 (by omega)).1; rw [← Nat.add_assoc, ← hd1] at this; exact this
      have CC2 : Hid (w.cell? ⟨bb, oo + x * 3 + 2, none⟩ = some (.int .i64 d2)) := by
        have := (hc x (by omega) 2 (by omega)).1; rw [← Nat.add_assoc, ← hd2] at this; exact this
      clear hc hd0 hd1 hd2 wa wb
      go_wp2_with fail
      refine hc1.mono ?_
      rintro e w3 ⟨rfl, hB3, ho3⟩
      have HO3 := Lib.hid (HO.out.past ho3)
      have hc2 := hc2.out w3 HO3.out.size hB3
      clear hB3 ho3 hc1 c0 c1 c2
      have c0 := HO3.out.cell CC0.out (by simp)
      have c1 := HO3.out.cell CC1.out (by simp)
      have c2 := HO3.out.cell CC2.out (by simp)
      go_wp2_with fail
      refine hc2.mono ?_
      rintro e w4 ⟨rfl, hB4, ho4⟩
      have HO4 := Lib.hid (HO3.out.past ho4)
      have HB4 := Lib.hid hB4
      clear hB4 ho4 hc2 c0 c1 c2
      go_wp2_with fail
      exact ⟨⟨x + 1, M', by omega, by omega, by go_num, HB4.out, HO4.out⟩, by simp [intOf]; omega⟩
    · by_cases h1 : x < n
      · have hl81 : (80 : Int) ≤ x := by omega
        have hlt1 : (x : Int) < n := by omega
        go_wp2_with fail
        refine bodyPost_ret (results_tmp3 rfl _ _ _) rfl ?_
        exact hR.out _ _ ⟨p, q, M, rfl, HB.out, HO.out⟩
      · obtain rfl : x = n := by omega
        go_wp2_with fail
        refine bodyPost_ret (results_tmp3 rfl _ _ _) rfl ?_
        exact hR.out _ _ ⟨p, q, M, rfl, HB.out, HO.out⟩
theorem play_any (w : World) (f : Nat → Int) (a : Option Addr) (len cap : Nat) (hf : Numk w a len cap f) (b : Option Addr) (n cap2 : Nat) (g : Nat → Nat → Int) (hd : Recs 3 w b n g) :
    Calls Try.prog 12 #[.slice a len cap, .slice b n cap2] w (fun e w' => ∃ vp vq, e = .returned (.tuple #[vp, vq, .bool true]) ∧ Played w' w.heap.size vp vq ∧ Only [] w w') := by
  by_cases h20 : len ≤ 20
  · have hr : Read w (.slice a len cap) (listOf len f) := hf.1.read (Nat.le_refl _)
    cases hb : goodSizes (listOf len f)
    · refine (play_bad w _ a len cap hr h20 hb b n cap2).mono ?_
      rintro e _ ⟨rfl, rfl⟩
      exact ⟨_, _, rfl, .inl ⟨rfl, rfl⟩, Only.refl _ _⟩
    · refine (play_good w _ a len cap hr h20 hb b n cap2 g hd).mono ?_
      rintro e w' ⟨p, q, M, rfl, h1, h2⟩
      exact ⟨_, _, rfl, .inr ⟨p, q, M, rfl, rfl, h1⟩, h2⟩
  · refine (play_cut w f a len cap hf (by omega) b n cap2).mono ?_
    rintro e _ ⟨rfl, rfl⟩
    exact ⟨_, _, rfl, .inl ⟨rfl, rfl⟩, Only.refl _ _⟩
end Go.Proofs.Ytbjmgbbggbbidaa
