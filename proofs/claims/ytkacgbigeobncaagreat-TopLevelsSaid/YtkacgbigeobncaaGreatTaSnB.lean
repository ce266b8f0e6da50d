/- Lemmas of this claim. -/
import Derived.Test.YtkacgbigeobncaaGreatTaSnA
import Derived.Test.YtkacgbigeobncaaGreatTaVfD
import Derived.Deep.Upon
namespace Go.Proofs.YtkacgbigeobncaaGreat
open Go.RowKit Go.Maps
set_option maxHeartbeats 3200000
set_option maxRecDepth 100000
set_option linter.unusedVariables false
set_option linter.unusedSimpArgs false
def ckR (vc vs vm : Value) (sel : Int) (lv sv : Value) : List Value := [vc, vs, vm, .int .i64 sel, lv, sv, .slice none 0 0, .int .i64 0]
section
variable (w : World) (cb : Nat) (vc vs vm : Value) (sel : Int) (lv : Value)
theorem wantTrue (v : Value) : Calls Tryz.prog 104 #[v, .bool true] w (Exact w (.tuple #[])) := by
  refine calls_abs fun R hR => ?_
  go_enter Tryz.func104, Tryz.ntmps104
  go_wp2_with fail
  go_end0
  exact hR.out _ _ ⟨rfl, rfl⟩
theorem counts01 (hr : Row w cb 181 (ckR vc vs vm sel lv (.slice none 0 0))) : Calls Tryz.prog 111 #[.pointer (some ⟨cb, 0, none⟩), .int .i64 0, .int .i64 1] w (Ret w (.bool true)) := by
  refine calls_abs fun R hR => ?_
  have cf := floor0 w cb (hr.cell 6 rfl)
  have p5 := hr.cell 5 rfl
  clear hr
  go_enter Tryz.func111, Tryz.ntmps111
  go_wp2_with fail
  refine cf.mono ?_
  rintro e w2 ⟨rfl, ho⟩
  have HO := Lib.hid ho
  clear cf ho
  go_wp2_with fail
  exact hR.out _ _ ⟨rfl, HO.out⟩
theorem counts10 (a : Option Addr) (c : Nat) (hr : Row w cb 181 (ckR vc vs vm sel lv (.slice a 1 c))) : Calls Tryz.prog 111 #[.pointer (some ⟨cb, 0, none⟩), .int .i64 1, .int .i64 0] w (Ret w (.bool true)) := by
  refine calls_abs fun R hR => ?_
  have cf := floor0 w cb (hr.cell 6 rfl)
  have p5 := hr.cell 5 rfl
  clear hr
  go_enter Tryz.func111, Tryz.ntmps111
  go_wp2_with fail
  refine cf.mono ?_
  rintro e w2 ⟨rfl, ho⟩
  have HO := Lib.hid ho
  clear cf ho
  go_wp2_with fail
  exact hR.out _ _ ⟨rfl, HO.out⟩
def One (w w' : World) (k c : Int) (e : Ending) : Prop := ∃ b, e = .returned (.slice (some ⟨b, 0, none⟩) 1 1) ∧ w.heap.size ≤ b ∧ Blk w' b [.int .i64 k, .int .i64 c] ∧ Only [] w w'
theorem push1_any (tb : Nat) (v : Value) (k c : Int) (h : Blk w tb [.int .i64 k, .int .i64 c]) : Calls Tryz.prog 157 #[v, .pointer (some ⟨tb, 0, none⟩)] w fun e w' => One w w' k c e := by
  refine calls_abs fun R hR => ?_
  have t0 := h.at_ 0 _ rfl
  have t1 := h.at_ 1 _ rfl
  clear h
  go_enter Tryz.func157, Tryz.ntmps157
  go_wp2_with fail
  exact hR.out _ _ ⟨w.heap.size, rfl, Nat.le_refl _, Blk.new w _ [.int .i64 k, .int .i64 c], (Only.refl _ _).alloc _⟩
def Pushed (w : World) (cb : Nat) (vc vs vm : Value) (sel : Int) (lv : Value) (k c : Int) (e : Ending) (w' : World) : Prop := e = .returned (.tuple #[]) ∧ ∃ b cap, Row w' cb 181 (ckR vc vs vm sel lv (.slice (some ⟨b, 0, none⟩) 1 cap)) ∧ Blk w' b [.int .i64 k, .int .i64 c] ∧ (1 ≤ cap ∧ cap ≤ 9223372036854775807) ∧ w.heap.size ≤ b ∧ Only [cb] w w'
theorem doPush (tb : Nat) (k c : Int) (hr : Row w cb 181 (ckR vc vs vm sel lv (.slice none 0 0))) (ht : Blk w tb [.int .i64 k, .int .i64 c]) :
    Calls Tryz.prog 102 #[.pointer (some ⟨cb, 0, none⟩), .int .i64 0, .int .i64 1, .func (.func 157) #[] #[.pointer (some ⟨tb, 0, none⟩)]] w (Pushed w cb vc vs vm sel lv k c) := by
  refine calls_abs fun R hR => ?_
  have HR := Lib.hid hr
  have HT := Lib.hid ht
  have cc := counts01 w cb vc vs vm sel lv hr
  clear hr ht
  go_enter Tryz.func102, Tryz.ntmps102
  go_wp2_with fail
  refine cc.mono ?_
  rintro e w2 ⟨rfl, ho⟩
  have HO2 := Lib.hid ho
  have hr2 := ho.row HR.out (by simp)
  have HR2 := Lib.hid hr2
  have p5 := hr2.cell 5 rfl
  have HT2 := Lib.hid (HT.out.only0 ho)
  have cl := clone0Ty w2
  clear cc ho hr2
  go_wp2_with fail
  refine cl.mono ?_
  rintro e w3 ⟨rfl, rfl⟩
  have cp := push1_any w2 tb (.slice none 0 0) k c HT2.out
  clear cl
  go_wp2_with fail
  refine cp.mono ?_
  rintro e w4 ⟨b, rfl, hb, hB, ho4⟩
  have HB := Lib.hid hB
  have HO4 := Lib.hid (HO2.out.trans ho4 (by simp))
  have hr4 := ho4.row HR2.out (by simp)
  have HR4 := Lib.hid hr4
  have p5 := hr4.cell 5 rfl
  have HRD := Lib.hid (show RdT w4 (.slice (some ⟨b, 0, none⟩) 1 1) [⟨k, c⟩] from hB.rd (l := [⟨k, c⟩]) rowTy ⟨Nat.le_refl _, by simp⟩)
  clear cp hb hB ho4 hr4
  go_wp2_with (at_builtin; refine append_own tyTy rowTy rfl _ _ rfl 0 _ [] rfl Own.nil _ [⟨k, c⟩] rfl HRD.out ?c1 ?c2 ?c3 ?c4)
  case c1 => simp
  case c2 => simp
  case c3 => omega
  case c4 =>
    intro v w5 hv ho hbk
    have HOF := Lib.hid (HO4.out.trans ho (by simp [Value.ownBlock]))
    have HRF := Lib.hid (ho.row HR4.out (by simp [Value.ownBlock]))
    obtain ⟨g, cap, hve, -, hc1, hc2, hB⟩ := Own.blk rowTy (by decide) hv (by simp)
    have hge : w.heap.size ≤ g := by
      rcases hbk with h | h
      · rw [hve] at h; simp [Value.ownBlock] at h
      · rw [hve] at h; simp only [Value.ownBlock, Option.some.injEq] at h; have := HO4.out.size; omega
    have HB := Lib.hid hB
    have hne : g ≠ cb := by have := HR.out.lt; omega
    have HC := Lib.hid (show (1 ≤ cap ∧ cap ≤ 9223372036854775807) ∧ w.heap.size ≤ g ∧ g ≠ cb from ⟨⟨hc1, hc2⟩, hge, hne⟩)
    rw [hve]
    have p5 := HRF.out.cell 5 rfl
    have f5 := HRF.out.free 5
    clear hv ho hbk hve hc1 hc2 hB hge hne
    go_wp2_with fail
    go_end0
    exact hR.out _ _ ⟨rfl, g, cap, HRF.out.set 5 _, HB.out.other (by simpa using HC.out.2.2.symm) _, HC.out.1, HC.out.2.1, (HOF.out.mono (by simp)).set (.inl (by simp)) _⟩
theorem pushNum (hr : Row w cb 181 (ckR vc vs vm sel lv (.slice none 0 0))) (k c : Int) :
    Calls Tryz.prog 110 #[.pointer (some ⟨cb, 0, none⟩), .agg #[.int .i64 k, .int .i64 c]] w (Pushed w cb vc vs vm sel lv k c) := by
  refine calls_abs fun R hR => ?_
  have HO := Lib.hid ((Only.refl [] w).alloc (.cells #[.int .i64 k, .int .i64 c] 68))
  have cd := doPush _ cb vc vs vm sel lv w.heap.size k c (hr.alloc (.cells #[.int .i64 k, .int .i64 c] 68)) (Blk.new w 68 [.int .i64 k, .int .i64 c])
  clear hr
  go_enter Tryz.func110, Tryz.ntmps110
  go_wp2_with fail
  refine cd.mono ?_
  rintro e w2 ⟨rfl, b, cap, h1, h2, h3, h4, h5⟩
  have H := Lib.hid (show Pushed w cb vc vs vm sel lv k c (.returned (.tuple #[])) w2 from ⟨rfl, b, cap, h1, h2, h3, by have := HO.out.size; omega, (HO.out.mono (by simp)).trans h5 (fun x hx => .inl hx)⟩)
  clear cd h1 h2 h3 h4 h5
  go_wp2_with fail
  go_end0
  exact hR.out _ _ H.out
theorem simplePush (hr : Row w cb 181 (ckR vc vs vm sel lv (.slice none 0 0))) (a b : Int) :
    Calls Tryz.prog 80 #[.pointer (some ⟨cb, 0, none⟩), .agg #[.int .i64 1, .int .i64 a, .int .i64 b]] w (Pushed w cb vc vs vm sel lv 1 0) := by
  refine calls_abs fun R hR => ?_
  have HR := Lib.hid hr
  obtain ⟨w1, hw1⟩ : ∃ z, z = (w.alloc (.cells #[.pointer (some ⟨cb, 0, none⟩)] 178)).alloc (.cells #[.int .i64 1, .int .i64 a, .int .i64 b] 64) := ⟨_, rfl⟩
  have HW1 := Lib.hid hw1
  have HO := Lib.hid (show Only [] w w1 by rw [hw1]; exact ((Only.refl [] w).alloc _).alloc _)
  have q0 : w1.cell? ⟨w.heap.size, 0, none⟩ = some (.pointer (some ⟨cb, 0, none⟩)) := by rw [hw1]; exact ((Row.new w 178 [.pointer (some ⟨cb, 0, none⟩)]).alloc _).cell 0 rfl
  have q1 : w1.cell? ⟨w.heap.size + 1, 0, none⟩ = some (.int .i64 1) := by
    rw [hw1]
    have := (Row.new (w.alloc (.cells #[.pointer (some ⟨cb, 0, none⟩)] 178)) 64 [.int .i64 1, .int .i64 a, .int .i64 b]).cell 0 rfl
    rwa [World.size_alloc] at this
  have HNE := Lib.hid (show w.heap.size ≠ cb by have := hr.lt; omega)
  have cn := fun w => number_any w
  have cd := fun wx (ho : Only [] w1 wx) => pushNum wx cb vc vs vm sel lv ((HO.out.trans ho (by simp)).row hr (by simp)) 1 0
  clear hr
  go_enter Tryz.func80, Tryz.ntmps80
  go_upto_region 1 with fail
  rw [← hw1]
  clear hw1
  go_wp2_with fail
  go_region_held3 (fun wl => wl.cell? ⟨w.heap.size, 0, none⟩ = some (.pointer (some ⟨cb, 0, none⟩)))
    (first | exact q0 | exact hoA.cell q0 (by simp) | exact hB5.cell (hoA.cell q0 (by simp)) (by simpa using HNE.out))
    (first
      | (go_at_call 105; refine (cn _).mono ?_; rintro e wA ⟨rfl, hoA⟩)
      | (go_at_call 110; refine (cd _ (((Only.refl [] w1).drew).trans hoA (by simp))).mono ?_; rintro e wB ⟨rfl, b5, cap5, hB1, hB2, hB3, hB4, hB5⟩))
  have HW := Lib.hid (show Pushed w cb vc vs vm sel lv 1 0 (.returned (.tuple #[])) wB from ⟨rfl, b5, cap5, hB1, hB2, hB3, by have h1 := hoA.size; have h2 := HO.out.size; have h3 : w1.drew.heap.size = w1.heap.size := rfl; omega, ((HO.out.mono (G := [cb]) (by simp)).drew.trans hoA (by simp)).trans hB5 (fun x hx => .inl hx)⟩)
  go_wp2_with fail
  go_end0
  exact hR.out _ _ HW.out
theorem appTy0 (b : Option Addr) (n c : Nat) (hn : n ≤ c) : (Builtin.append_ #[66, 66] 66 #[.slice b n c, .slice none 0 0]).run Tryz.prog w = .ok (.slice b n c) w := by
  obtain ⟨i0, hi0, hz0, hz1, hz2⟩ := info_parts tyTy.hinfo
  exact run_append_nothing (P := Tryz.prog) w 66 66 66 68 i0 Tryz.underlying66 hi0 b n c hn (.slice none 0 0) (Src.ofNil w Tryz.underlying66 0)
theorem emit1 (b xb c : Nat) (hb : Blk w b [.int .i64 1, .int .i64 0]) (hx : w.cell? ⟨xb, 0, none⟩ = some (.pointer (some ⟨cb, 0, none⟩))) :
    Calls Tryz.prog 117 #[.slice (some ⟨b, 0, none⟩) 1 c, .pointer (some ⟨xb, 0, none⟩)] w (Ret w (.slice none 0 0)) := by
  refine calls_abs fun R hR => ?_
  have hq : ∀ wx : World, (binOp .eql 68 (.agg #[.int .i64 1, .int .i64 0]) (.agg #[.int .i64 1, .int .i64 0])).run Tryz.prog wx = .ok (.bool true) wx := fun wx => eqTy 1 0 1 0 wx
  have b0 := hb.at_ 0 _ rfl
  have b1 := hb.at_ 1 _ rfl
  have cn := fun w => number_any w
  have ct := fun w v => wantTrue w v
  clear hb
  go_enter Tryz.func117, Tryz.ntmps117
  go_upto_region 1 with fail
  go_region_held3 (fun wl => wl.cell? ⟨xb, 0, none⟩ = some (.pointer (some ⟨cb, 0, none⟩)) ∧ wl.cell? ⟨b, 0, none⟩ = some (.int .i64 1) ∧ wl.cell? ⟨b, 1, none⟩ = some (.int .i64 0))
    (first | exact ⟨hx, b0, b1⟩ | exact ⟨hoA.cell hx (by simp), hoA.cell b0 (by simp), hoA.cell b1 (by simp)⟩)
    (first
      | (go_at_call 105; refine (cn _).mono ?_; rintro e wA ⟨rfl, hoA⟩)
      | (go_at_call 104; refine (ct _ _).mono ?_; rintro e wB ⟨rfl, rfl⟩))
  go_wp2_with fail
  exact hR.out _ _ ⟨rfl, (Only.refl [] w).drew.trans hoA (by simp)⟩
theorem doEmit (b xb cap : Nat) (hr : Row w cb 181 (ckR vc vs vm sel lv (.slice (some ⟨b, 0, none⟩) 1 cap))) (hb : Blk w b [.int .i64 1, .int .i64 0]) (hc : 1 ≤ cap ∧ cap ≤ 9223372036854775807) (hx : w.cell? ⟨xb, 0, none⟩ = some (.pointer (some ⟨cb, 0, none⟩))) :
    Calls Tryz.prog 102 #[.pointer (some ⟨cb, 0, none⟩), .int .i64 1, .int .i64 0, .func (.func 117) #[] #[.pointer (some ⟨xb, 0, none⟩)]] w
      fun e w' => e = .returned (.tuple #[]) ∧ Row w' cb 181 (ckR vc vs vm sel lv (.slice (some ⟨b, 0, none⟩) 0 0)) ∧ Only [cb] w w' := by
  refine calls_abs fun R hR => ?_
  have HR := Lib.hid hr
  have HB := Lib.hid hb
  have HX := Lib.hid hx
  have HCP := Lib.hid hc
  have hc1 := hc.1
  have cc := counts10 w cb vc vs vm sel lv (some ⟨b, 0, none⟩) cap hr
  have ha := fun wx => appTy0 wx (some ⟨b, 0, none⟩) 0 0 (Nat.le_refl _)
  clear hr hb hx hc
  go_enter Tryz.func102, Tryz.ntmps102
  go_wp2_with fail
  refine cc.mono ?_
  rintro e w2 ⟨rfl, ho⟩
  have HO2 := Lib.hid ho
  have hr2 := ho.row HR.out (by simp)
  have HR2 := Lib.hid hr2
  have p5 := hr2.cell 5 rfl
  have cl := clone1Ty rowTy w2 ⟨b, 0, none⟩ 1 cap [⟨1, 0⟩] rfl ((HB.out.only0 ho).rd (l := [(⟨1, 0⟩ : Ty)]) rowTy HCP.out) (by decide)
  clear cc ho hr2
  go_wp2_with fail
  refine cl.mono ?_
  rintro e w3 ⟨v, rfl, hv, ho3⟩
  obtain ⟨g, cap2, rfl, -, hc3, hc4, hB3⟩ := Own.blk rowTy (by decide) hv (by simp)
  have HO3 := Lib.hid (HO2.out.trans ho3 (by simp))
  have hr3 := ho3.row HR2.out (by simp)
  have HR3 := Lib.hid hr3
  have ce := emit1 w3 cb g xb cap2 hB3 (HO3.out.cell HX.out (by simp))
  clear cl hv hc3 hc4 hB3 ho3 hr3 p5
  simp only [List.length_cons, List.length_nil, Nat.zero_add]
  go_wp2_with fail
  refine ce.mono ?_
  rintro e w4 ⟨rfl, ho4⟩
  have HO4 := Lib.hid (HO3.out.trans ho4 (by simp))
  have hr4 := ho4.row HR3.out (by simp)
  have HR4 := Lib.hid hr4
  have p5 := hr4.cell 5 rfl
  have f5 := hr4.free 5
  clear ce ho4 hr4
  go_wp2_with fail
  go_end0
  exact hR.out _ _ ⟨rfl, HR4.out.set 5 _, (HO4.out.mono (by simp)).set (.inl (by simp)) _⟩
theorem simpleEmit (b cap : Nat) (a i : Int) (hr : Row w cb 181 (ckR vc vs vm sel lv (.slice (some ⟨b, 0, none⟩) 1 cap))) (hb : Blk w b [.int .i64 1, .int .i64 0]) (hc : 1 ≤ cap ∧ cap ≤ 9223372036854775807) :
    Calls Tryz.prog 80 #[.pointer (some ⟨cb, 0, none⟩), .agg #[.int .i64 27, .int .i64 a, .int .i64 i]] w
      fun e w' => e = .returned (.tuple #[]) ∧ Row w' cb 181 (ckR vc vs vm sel lv (.slice (some ⟨b, 0, none⟩) 0 0)) ∧ Only [cb] w w' := by
  refine calls_abs fun R hR => ?_
  obtain ⟨w1, hw1⟩ : ∃ z, z = (w.alloc (.cells #[.pointer (some ⟨cb, 0, none⟩)] 178)).alloc (.cells #[.int .i64 27, .int .i64 a, .int .i64 i] 64) := ⟨_, rfl⟩
  have HO := Lib.hid (show Only [] w w1 by rw [hw1]; exact ((Only.refl [] w).alloc _).alloc _)
  have q0 : w1.cell? ⟨w.heap.size, 0, none⟩ = some (.pointer (some ⟨cb, 0, none⟩)) := by rw [hw1]; exact ((Row.new w 178 [.pointer (some ⟨cb, 0, none⟩)]).alloc _).cell 0 rfl
  have q1 : w1.cell? ⟨w.heap.size + 1, 0, none⟩ = some (.int .i64 27) := by
    rw [hw1]
    have := (Row.new (w.alloc (.cells #[.pointer (some ⟨cb, 0, none⟩)] 178)) 64 [.int .i64 27, .int .i64 a, .int .i64 i]).cell 0 rfl
    rwa [World.size_alloc] at this
  have cd := doEmit w1 cb vc vs vm sel lv b w.heap.size cap (HO.out.row hr (by simp)) (hb.only0 HO.out) hc q0
  clear hr hb
  go_enter Tryz.func80, Tryz.ntmps80
  go_upto_region 1 with fail
  rw [← hw1]
  clear hw1
  go_wp2_with fail
  refine cd.mono ?_
  rintro e w2 ⟨rfl, h1, h2⟩
  have H1 := Lib.hid h1
  have H2 := Lib.hid ((HO.out.mono (G := [cb]) (by simp)).trans h2 (fun x hx => .inl hx))
  clear cd h1 h2
  go_wp2_with fail
  go_end0
  exact hR.out _ _ ⟨rfl, H1.out, H2.out⟩
end
end Go.Proofs.YtkacgbigeobncaaGreat
