/- Lemmas of this claim. -/
import Derived.Test.YthflghdaejbdkaaGreatVRObjL
import Derived.Test.YthflghdaejbdkaaGreatVLib
import Derived.Test.YthflghdaejbdkaaGreatVInts
import Derived.Test.YthflghdaejbdkaaGreatVOFull
import Derived.Test.YthflghdaejbdkaaGreatVArgs
import Derived.Test.YthflghdaejbdkaaGreatVOMaps
import Derived.Lib.SmallJoins
namespace Go.Proofs.YthflghdaejbdkaaGreat
open Go.RowKit Go.Maps
set_option maxHeartbeats 6400000
set_option maxRecDepth 100000
set_option linter.unusedVariables false
section
variable {L : Nat → Option Gb} {hb : Nat} {M : Hp} {X : GX}
theorem Hp.refs_len {M : Hp} (hk : M.Ok) (k : Int) : (M.refs k).1.length ≤ 48 := by
  unfold Hp.refs
  cases ho : M.ob k with
  | none => simp
  | some o => have := o.refsN_len o.slots.length; have := (hk.th k o ho).le; simp only [Th.refsL]; omega
end
end Go.Proofs.YthflghdaejbdkaaGreat
namespace Go.Proofs.YthflghdaejbdkaaGreat
open Go.RowKit Go.Maps
set_option maxHeartbeats 6400000
set_option maxRecDepth 100000
set_option linter.unusedVariables false
section
variable {L : Nat → Option Gb} {hb : Nat} {M : Hp} {X : GX}
theorem gset_lay (w : World) (h : GRep w L hb M X) (hk : M.Ok) {i : Nat} (hi : i < 193) {o : Th} (ho : M.ob (i : Int) = some o) {s : Nat} (hs : s < o.slots.length) {y : Int} (hf : M.fits (gB o.refs s) y = true) {g n cap : Nat} (hv : X.sv i = .slice (some ⟨g, 0, none⟩) n cap) :
    Calls Tryz.prog 214 #[.pointer (some ⟨hb, 0, none⟩), .int .i64 i] (w.setCell ⟨g, s, none⟩ (.int .i64 y)) (fun e w' => e = .returned (.tuple #[]) ∧
      ∀ r, GDid w L hb r ⟨(M.P.setCell (o.addr s) y).2, setT M.ob i (some (o.put s y))⟩ (.returned r) w') := by
  have hk2 := hk.put ho hs hf
  have ho2 : setT M.ob (i : Int) (some (o.put s y)) (i : Int) = some (o.put s y) := setT_same _ _ _
  have hg := GRep.setSlot (P := M.P) (ob := M.ob) h ho hv s y
  have hLg : L g = some (.sl i) := (h.th i o ho).Ls g (by rw [hv]; rfl)
  refine (glay_any _ hg hk.p hi ho2 (hk2.layOk ho2)).mono ?_
  rintro e w' ⟨rfl, hg2, ho9⟩
  rw [hk.lay_set ho hs hf] at hg2
  exact ⟨rfl, fun r => ⟨rfl, L, X, hg2, fun k hk => .inl hk, ((OnlyP.refl _ w).set (p := ⟨g, s, none⟩) (.inl (by rw [hLg]; simp)) _).trans ho9 (fun x hx => .inl (fun e => by rw [e] at hx; rcases hx with h | h | h | h <;> cases h))⟩⟩
theorem gset_rep (w : World) (h : GRep w L hb M X) (hk : M.Ok) (x s y : Int) : Calls Tryz.prog 144 #[.pointer (some ⟨hb, 0, none⟩), .int .i64 x, .int .i64 s, .int .i64 y] w (GDid w L hb (.int .i64 (M.set x s y).1) (M.set x s y).2) := by
  refine calls_abs fun R hR => ?_
  have HD : Hid (∀ r, GDid w L hb r M (.returned r) w) := fun r => GDid.none0 h (Only.refl _ _)
  cases ho : M.ob x with
  | none =>
    have hr : M.set x s y = (3, M) := by unfold Hp.set; rw [ho]
    rw [hr] at hR
    have h1 := gslot_none w h hk x s ho
    clear h hk ho hr
    go_enter Tryz.func144, Tryz.ntmps144
    go_wp2_with fail
    refine h1.mono ?_
    rintro e _ ⟨rfl, rfl⟩
    go_wp2_with fail
    exact hR.out _ _ (HD.out _)
  | some o =>
    by_cases hbad : s < 0 ∨ (o.slots.length : Int) ≤ s
    · have hr : M.set x s y = (1, M) := by unfold Hp.set; rw [ho]; exact if_pos hbad
      rw [hr] at hR
      have h1 := gslot_bad w h hk x s ho hbad
      clear h hk ho hr hbad
      go_enter Tryz.func144, Tryz.ntmps144
      go_wp2_with fail
      refine h1.mono ?_
      rintro e _ ⟨rfl, rfl⟩
      go_wp2_with fail
      exact hR.out _ _ (HD.out _)
    · have h1 := gslot_ok w h hk x s ho hbad
      obtain ⟨m, rfl⟩ : ∃ m : Nat, s = m := ⟨s.toNat, by omega⟩
      have hm : m < o.slots.length := by omega
      have hr : M.set x m y = if M.fits (gB o.refs m) y then (0, ⟨(M.P.setCell (o.addr m) y).2, setT M.ob x (some (o.put m y))⟩) else (1, M) := by
        unfold Hp.set
        rw [ho]
        show (if _ then _ else _) = _
        rw [if_neg hbad, Int.toNat_natCast]
      rw [hr] at hR
      obtain ⟨i, rfl, hi, x0, x1⟩ := hk.idx ho
      have c0 := h.cells.1
      obtain ⟨_, _, c2, c3, _⟩ := h.objSome hi ho
      have th := h.th (i : Int) o ho
      have hrl := (hk.th (i : Int) o ho).rl
      obtain ⟨rg, rc, re, hrc⟩ := th.rb.cellsOf (by omega)
      obtain ⟨sg, sc, se, hsc⟩ : ∃ g cap, X.sv i = .slice (some ⟨g, 0, none⟩) o.slots.length cap ∧ ∀ j, j < o.slots.length → w.cell? ⟨g, j, none⟩ = some (.int .i64 (gI o.slots j)) := by
        rcases th.sl.form with ⟨_, e⟩ | ⟨g, cap, e, _, _, _, hc⟩
        · rw [e] at hm; simp at hm
        · exact ⟨g, cap, e, hc⟩
      have hsfz : w.frozen? ⟨sg, m, none⟩ = false := by
        have := th.sl
        rw [se] at this
        obtain ⟨_, _, cs, hrow, _⟩ := this.row
        exact hrow.free m
      rw [re] at c2
      rw [se] at c3
      have cr := hrc m (by omega)
      have cs := hsc m hm
      have hn := fun (wx : World) => Lib.run_eql_slice_nil (P := Tryz.prog) wx 50 4 (some ⟨rg, 0, none⟩) o.refs.length rc 0 0 Tryz.underlying50
      have hin := gin_rep w h hk y
      have HLAY : Hid (M.fits (gB o.refs m) y = true → Calls Tryz.prog 214 #[.pointer (some ⟨hb, 0, none⟩), .int .i64 i] (w.setCell ⟨sg, m, none⟩ (.int .i64 y)) (fun e w' => e = .returned (.tuple #[]) ∧
          ∀ r, GDid w L hb r ⟨(M.P.setCell (o.addr m) y).2, setT M.ob i (some (o.put m y))⟩ (.returned r) w')) := fun hf => gset_lay w h hk hi ho hm hf se
      have hm0 : (0 : Int) ≤ (m : Int) := by omega
      have hmn : (m : Int) < (o.slots.length : Int) := by omega
      have hmr : (m : Int) < (o.refs.length : Int) := by omega
      obtain ⟨ri, hri⟩ : ∃ z, z = gB o.refs m := ⟨_, rfl⟩
      rw [← hri] at cr HLAY hR
      obtain ⟨og, hog⟩ : ∃ z, z = X.og := ⟨_, rfl⟩
      rw [← hog] at c0 c2 c3
      obtain ⟨rn, hrn⟩ : ∃ z, z = o.refs.length := ⟨_, rfl⟩
      obtain ⟨sn, hsn⟩ : ∃ z, z = o.slots.length := ⟨_, rfl⟩
      rw [← hrn] at c2 hmr hn
      rw [← hsn] at c3 hmn
      clear h hk ho hr hbad re se hrc hsc th hri hog hrn hsn hi hrl hm
      cases ri with
      | false =>
        have hfit : M.fits false y = isWordI y := rfl
        rw [hfit] at hR HLAY
        by_cases w1 : y < -2147483648
        · have HW : Hid (isWordI y = false) := by show _ = _; unfold isWordI; simp; omega
          clear hfit hin HLAY
          go_enter Tryz.func144, Tryz.ntmps144
          go_wp2_with fail
          refine h1.mono ?_
          rintro e _ ⟨rfl, rfl⟩
          go_wp2_with fail
          refine hR.out _ _ ?_
          rw [HW.out]
          exact HD.out _
        · by_cases w2 : 2147483647 < y
          · have HW : Hid (isWordI y = false) := by show _ = _; unfold isWordI; simp; omega
            clear hfit hin HLAY
            go_enter Tryz.func144, Tryz.ntmps144
            go_wp2_with fail
            refine h1.mono ?_
            rintro e _ ⟨rfl, rfl⟩
            go_wp2_with fail
            refine hR.out _ _ ?_
            rw [HW.out]
            exact HD.out _
          · have HW : Hid (isWordI y = true) := by show _ = _; unfold isWordI; simp; omega
            have HL := Lib.hid (HLAY.out HW.out)
            clear hfit hin HLAY
            go_enter Tryz.func144, Tryz.ntmps144
            go_wp2_with fail
            refine h1.mono ?_
            rintro e _ ⟨rfl, rfl⟩
            go_wp2_with fail
            refine HL.out.mono ?_
            rintro e w9 ⟨rfl, hd⟩
            have HDD := Lib.hid hd
            clear hd
            go_wp2_with fail
            refine hR.out _ _ ?_
            rw [HW.out]
            exact HDD.out _
      | true =>
        have hfit : M.fits true y = (decide (y = 0) || (M.ob y).isSome) := rfl
        rw [hfit] at hR HLAY
        by_cases y0 : y = 0
        · subst y0
          have HW : Hid ((decide ((0 : Int) = 0) || (M.ob 0).isSome) = true) := by show _ = _; simp
          have HL := Lib.hid (HLAY.out HW.out)
          clear hfit hin HLAY
          go_enter Tryz.func144, Tryz.ntmps144
          go_wp2_with fail
          refine h1.mono ?_
          rintro e _ ⟨rfl, rfl⟩
          go_wp2_with fail
          refine HL.out.mono ?_
          rintro e w9 ⟨rfl, hd⟩
          have HDD := Lib.hid hd
          clear hd
          go_wp2_with fail
          refine hR.out _ _ ?_
          rw [HW.out]
          exact HDD.out _
        · cases hsome : (M.ob y).isSome with
          | true =>
            rw [hsome] at hin
            have HW : Hid ((decide (y = 0) || (M.ob y).isSome) = true) := by show _ = _; rw [hsome]; simp
            have HL := Lib.hid (HLAY.out HW.out)
            clear hfit HLAY hsome
            go_enter Tryz.func144, Tryz.ntmps144
            go_wp2_with fail
            refine h1.mono ?_
            rintro e _ ⟨rfl, rfl⟩
            go_wp2_with fail
            refine hin.mono ?_
            rintro e _ ⟨rfl, rfl⟩
            go_wp2_with fail
            refine HL.out.mono ?_
            rintro e w9 ⟨rfl, hd⟩
            have HDD := Lib.hid hd
            clear hd
            go_wp2_with fail
            refine hR.out _ _ ?_
            rw [HW.out]
            exact HDD.out _
          | false =>
            rw [hsome] at hin
            have HW : Hid ((decide (y = 0) || (M.ob y).isSome) = false) := by show _ = _; rw [hsome]; simp [y0]
            clear hfit HLAY hsome
            go_enter Tryz.func144, Tryz.ntmps144
            go_wp2_with fail
            refine h1.mono ?_
            rintro e _ ⟨rfl, rfl⟩
            go_wp2_with fail
            refine hin.mono ?_
            rintro e _ ⟨rfl, rfl⟩
            go_wp2_with fail
            refine hR.out _ _ ?_
            rw [HW.out]
            exact HD.out _
end
end Go.Proofs.YthflghdaejbdkaaGreat
namespace Go.Proofs.YthflghdaejbdkaaGreat
open Go.RowKit Go.Maps
set_option maxHeartbeats 6400000
set_option maxRecDepth 100000
set_option linter.unusedVariables false
def obZero : Value := .agg #[.int .i64 0, .int .i64 0, .slice none 0 0, .slice none 0 0, .slice none 0 0]
theorem infoObj : (Tryz.prog.info? 217).map (fun i => (i.zero, i.size, i.bytes)) = some (some obZero, 5, 88) := by kernel_rfl
theorem made_obj {n i j : Nat} (hi : i < n) (hj : j < 5) : (madeCells obZero.cells (n * 5)).toList[i * 5 + j]? = some (gFld none (.slice none 0 0) (.slice none 0 0) (.slice none 0 0) j) := by
  have h1 : obZero.cells.size = 5 := rfl
  have hx : i * 5 + j < n * 5 := by omega
  have hm : (i * 5 + j) % 5 = j := by omega
  have h3 : obZero.cells[j]? = some (gFld none (.slice none 0 0) (.slice none 0 0) (.slice none 0 0) j) := by
    match j, hj with
    | 0, _ => rfl
    | 1, _ => rfl
    | 2, _ => rfl
    | 3, _ => rfl
    | 4, _ => rfl
    | j + 5, hj => omega
  rw [Array.getElem?_toList]
  unfold madeCells
  rw [Array.getElem?_map, show (Array.range (n * 5))[i * 5 + j]? = some (i * 5 + j) by simp [hx]]
  simp only [Option.map_some, h1]
  rw [getElem!_def, hm, h3]
theorem GRep.start {w' : World} {hb og q k c l v T T2 : Nat} {P : Pl} {cs : List Value} (hp : RRep w' q k c l P) (hr : Row w' hb T [.slice (some ⟨og, 0, none⟩) 193 193, .pointer (some ⟨q, 0, none⟩)]) (ho : Row w' og T2 cs)
    (hc : ∀ i : Nat, i < 193 → ∀ j, j < 5 → cs[i * 5 + j]? = some (gFld none (.slice none 0 0) (.slice none 0 0) (.slice none 0 0) j))
    (h1 : v ≤ q ∧ v ≤ k ∧ v ≤ c ∧ v ≤ l ∧ v ≤ og ∧ v ≤ hb) (d1 : q ≠ og ∧ k ≠ og ∧ c ≠ og ∧ l ≠ og ∧ q ≠ hb ∧ k ≠ hb ∧ c ≠ hb ∧ l ≠ hb ∧ og ≠ hb) :
    ∃ L' X', GRep w' L' hb ⟨P, fun _ => none⟩ X' ∧ (∀ k, L' k ≠ none → v ≤ k) := by
  obtain ⟨n1, n2, n3, n4, n5, n6⟩ := hp.ne
  obtain ⟨_, _, _, _, _, _, _, _, _, f1, f2, f3, f4⟩ := hp.facts
  obtain ⟨e1, e2, e3, e4, e5, e6, e7, e8, e9⟩ := d1
  have hl1 := hr.lt
  have hl2 := ho.lt
  obtain ⟨L', hL'⟩ : ∃ L' : Nat → Option Gb, L' = fun j => if j = hb then some .mem else if j = og then some .objs else if j = q then some .pq else if j = k then some .pk else if j = c then some .pc else if j = l then some .pl else none := ⟨_, rfl⟩
  have hin : ∀ j, L' j ≠ none → j = hb ∨ j = og ∨ j = q ∨ j = k ∨ j = c ∨ j = l := fun j hj => by
    rw [hL'] at hj
    simp only at hj
    by_cases a1 : j = hb
    · exact .inl a1
    · by_cases a2 : j = og
      · exact .inr (.inl a2)
      · by_cases a3 : j = q
        · exact .inr (.inr (.inl a3))
        · by_cases a4 : j = k
          · exact .inr (.inr (.inr (.inl a4)))
          · by_cases a5 : j = c
            · exact .inr (.inr (.inr (.inr (.inl a5))))
            · by_cases a6 : j = l
              · exact .inr (.inr (.inr (.inr (.inr a6))))
              · simp [a1, a2, a3, a4, a5, a6] at hj
  refine ⟨L', ⟨q, k, c, l, og, 193, fun _ => .slice none 0 0, fun _ => .slice none 0 0, fun _ => .slice none 0 0⟩, ⟨fun j hj => ?_, ⟨T, hr⟩, by rw [hL']; simp, hp, by rw [hL']; simp [*], by rw [hL']; simp [*, Ne.symm n1], by rw [hL']; simp [*, Ne.symm n2, Ne.symm n4], by rw [hL']; simp [*, Ne.symm n3, Ne.symm n5, Ne.symm n6], ⟨T2, cs, ho, hc⟩, by rw [hL']; simp [*], fun h o hk => by cases hk⟩, fun j hj => ?_⟩
  · rcases hin j hj with rfl | rfl | rfl | rfl | rfl | rfl <;> assumption
  · rcases hin j hj with rfl | rfl | rfl | rfl | rfl | rfl <;> omega
theorem gnew_good (w : World) (n : Nat) (h1 : 1 ≤ n) (h24 : n ≤ 24) : Calls Tryz.prog 89 #[.int .i64 n] w fun e w' =>
    ∃ hb L X, e = .returned (.tuple #[.pointer (some ⟨hb, 0, none⟩), .int .i64 0]) ∧ GRep w' L hb (Hp.new n) X ∧ (∀ k, L k ≠ none → w.heap.size ≤ k) ∧ Only [] w w' := by
  refine calls_abs fun R hR => ?_
  have h2 := rnew_yes w n h1 h24
  obtain ⟨i0, hi0, hz0, hz1, hz2⟩ := info_parts infoObj
  obtain ⟨C, hC⟩ : ∃ C : Array Value, C = madeCells obZero.cells (193 * 5) := ⟨_, rfl⟩
  have hmk : ∀ wx, (Instr.makeSlice 207 (.int .i64 193) (.int .i64 193)).run Tryz.prog wx = .ok (.slice (some ⟨wx.heap.size, 0, none⟩) 193 193) (wx.alloc (.cells C 217)) := fun wx => by
    rw [run_makeSlice (P := Tryz.prog) (w := wx) 207 217 i0 _ Tryz.underlying207 hi0 hz0 .i64 .i64 _ _ (by omega) (by omega) (by rw [hz1]; omega) (by rw [hz2]; omega) (by omega), hz1]
    rw [hC]
    rfl
  have HC : Hid (∀ i : Nat, i < 193 → ∀ j, j < 5 → C.toList[i * 5 + j]? = some (gFld none (.slice none 0 0) (.slice none 0 0) (.slice none 0 0) j)) := fun i hi j hj => by rw [hC]; exact made_obj hi hj
  clear hC h1 h24 hi0 hz0 hz1 hz2
  go_enter Tryz.func89, Tryz.ntmps89
  go_wp2_with fail
  refine h2.mono ?_
  rintro e w3 ⟨q, k, c, l, rfl, hp, ho, u1, u2, u3, u4⟩
  obtain ⟨_, _, _, _, _, _, _, _, _, f1, f2, f3, f4⟩ := hp.facts
  have hp5 := hp.only (((Only.refl [] w3).alloc (.cells C 217)).alloc (.cells #[.slice (some ⟨w3.heap.size, 0, none⟩) 193 193, .pointer (some ⟨q, 0, none⟩)] 209)) (by simp) (by simp) (by simp) (by simp)
  have hrow : Row ((w3.alloc (.cells C 217)).alloc (.cells #[.slice (some ⟨w3.heap.size, 0, none⟩) 193 193, .pointer (some ⟨q, 0, none⟩)] 209)) (w3.heap.size + 1) 209 [.slice (some ⟨w3.heap.size, 0, none⟩) 193 193, .pointer (some ⟨q, 0, none⟩)] := by
    have := Row.new (w3.alloc (.cells C 217)) 209 [.slice (some ⟨w3.heap.size, 0, none⟩) 193 193, .pointer (some ⟨q, 0, none⟩)]
    rwa [World.size_alloc] at this
  have hobj : Row ((w3.alloc (.cells C 217)).alloc (.cells #[.slice (some ⟨w3.heap.size, 0, none⟩) 193 193, .pointer (some ⟨q, 0, none⟩)] 209)) w3.heap.size 217 C.toList := (Row.new w3 217 C.toList).alloc _
  have hO : Only [] w ((w3.alloc (.cells C 217)).alloc (.cells #[.slice (some ⟨w3.heap.size, 0, none⟩) 193 193, .pointer (some ⟨q, 0, none⟩)] 209)) := (ho.alloc _).alloc _
  have hsz := ho.size
  obtain ⟨L1, X1, q1, q2⟩ := GRep.start (v := w.heap.size) hp5 hrow hobj HC.out ⟨u1, u2, u3, u4, hsz, by omega⟩ ⟨by omega, by omega, by omega, by omega, by omega, by omega, by omega, by omega, by omega⟩
  have Q1 := Lib.hid q1
  have Q2 := Lib.hid q2
  have QO := Lib.hid hO
  clear h2 hp hp5 hrow hobj hO q1 q2 u1 u2 u3 u4 f1 f2 f3 f4 hsz ho
  go_wp2_with fail
  exact hR.out _ _ ⟨_, L1, X1, rfl, Q1.out, Q2.out, QO.out⟩
end Go.Proofs.YthflghdaejbdkaaGreat
namespace Go.Proofs.YthflghdaejbdkaaGreat
open Go.RowKit Go.Maps
set_option maxHeartbeats 3200000
set_option maxRecDepth 100000
set_option linter.unusedVariables false
theorem Only.bel {w w' : World} (h : Only [] w w') : Below w.heap.size w w' := h.below (Nat.le_refl _) (by simp)
end Go.Proofs.YthflghdaejbdkaaGreat
namespace Go.Proofs.YthflghdaejbdkaaGreat
open Go.Joins Go.ChangeShapes Go.WideShapes Go.Deep Go.RowKit
set_option linter.unusedVariables false
structure OpR where
  d : Int
  a : Int
  b : Int
  c : Int
  g : Option Addr
  n : Nat
  k : Nat
  l : List Bool
structure BCap (w : World) (g : Option Addr) (n k : Nat) (l : List Bool) : Prop where
  len : l.length = n
  cap : n ≤ k
  max : n ≤ 9223372036854775807
  rd : n = 0 ∨ ∃ b o, g = some ⟨b, o, none⟩ ∧ ∀ i, i < n → w.cell? ⟨b, o + i, none⟩ = some (.bool (gB l i))
  nl : g = none → n = 0 ∧ k = 0
structure OpAt (w : World) (b o : Nat) (r : OpR) : Prop where
  c0 : w.cell? ⟨b, o, none⟩ = some (.int .i64 r.d)
  c1 : w.cell? ⟨b, o + 1, none⟩ = some (.int .i64 r.a)
  c2 : w.cell? ⟨b, o + 2, none⟩ = some (.int .i64 r.b)
  c3 : w.cell? ⟨b, o + 3, none⟩ = some (.int .i64 r.c)
  c4 : w.cell? ⟨b, o + 4, none⟩ = some (.slice r.g r.n r.k)
  wa : (Lit.int .i64 r.a).wf = true
  wb : (Lit.int .i64 r.b).wf = true
  wc : (Lit.int .i64 r.c).wf = true
  ba : BCap w r.g r.n r.k r.l
def Ops (w : World) (a : Option Addr) (len : Nat) (f : Nat → OpR) : Prop :=
  len ≤ 9223372036854775807 ∧ (len = 0 ∨ ∃ b o, a = some ⟨b, o, none⟩ ∧ ∀ i, i < len → OpAt w b (o + i * 5) (f i))
theorem BCap.only {w w' : World} {g : Option Addr} {n k : Nat} {l : List Bool} (h : BCap w g n k l) (ho : Only [] w w') : BCap w' g n k l :=
  ⟨h.len, h.cap, h.max, h.rd.imp id fun ⟨b, o, e, hc⟩ => ⟨b, o, e, fun i hi => ho.cell (hc i hi) (by simp)⟩, h.nl⟩
theorem OpAt.only {w w' : World} {b o : Nat} {r : OpR} (h : OpAt w b o r) (ho : Only [] w w') : OpAt w' b o r :=
  ⟨ho.cell h.c0 (by simp), ho.cell h.c1 (by simp), ho.cell h.c2 (by simp), ho.cell h.c3 (by simp), ho.cell h.c4 (by simp), h.wa, h.wb, h.wc, h.ba.only ho⟩
theorem BCap.read {w : World} {g : Option Addr} {n k : Nat} {l : List Bool} (h : BCap w g n k l) : BRead w (.slice g n k) l := by
  rcases h.rd with h0 | ⟨b, o, rfl, hc⟩
  · subst h0; exact .inr ⟨g, k, rfl, List.eq_nil_of_length_eq_zero h.len⟩
  · exact .inl ⟨b, o, k, by rw [h.len], fun i hi => hc i (by rw [← h.len]; exact hi)⟩
section
variable {H : Type} {enc : TypeId × Value → H} {P : Program} {w : World} {base : Nat} {spare : Nat → Bool} {held : Bool}
end
end Go.Proofs.YthflghdaejbdkaaGreat
