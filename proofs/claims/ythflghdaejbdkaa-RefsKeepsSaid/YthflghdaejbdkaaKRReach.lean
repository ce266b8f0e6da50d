/- Lemmas of this claim. -/
import Derived.Test.YthflghdaejbdkaaKReach
namespace Go.Proofs.Ythflghdaejbdkaa
open Go.RowKit Go.Maps
set_option maxHeartbeats 12800000
set_option maxRecDepth 100000
set_option linter.unusedVariables false
def boolAt (v : Option Value) : Bool := match v with | some (.bool b) => b | _ => false
def unmW (w : World) (sg : Nat) : Nat := cnt (fun k => !boolAt (w.cell? ⟨sg, k, none⟩)) 193
theorem unmW_row {w : World} {sg T : Nat} {bits : List Bool} (h : Row w sg T (bits.map Value.bool)) (hl : bits.length = 193) : unmW w sg = unm bits := by
  refine cnt_congr fun k hk => ?_
  rw [h.cell k (bits_cell (by rw [hl]; exact hk))]
  rfl
def RootB (M : Hp) (roots : List Int) (bits : List Bool) (i : Nat) : Prop := ∀ j, j < i → gI roots j ≠ 0 → (M.ob (gI roots j)).isSome = true ∧ gB bits (gI roots j).toNat = true
theorem RootB.notBad {M : Hp} {roots : List Int} {bits : List Bool} (h : RootB M roots bits roots.length) : ¬ M.badRoot roots := by
  rintro ⟨x, hx, h0, hn⟩
  obtain ⟨i, hi, rfl⟩ := mem_gI.1 hx
  have := (h i hi h0).1
  rw [hn] at this
  simp at this
theorem RootB.roots {M : Hp} {roots : List Int} {bits : List Bool} (h : RootB M roots bits roots.length) : ∀ x, x ∈ roots → x ≠ 0 → gB bits x.toNat = true := by
  intro x hx h0
  obtain ⟨i, hi, rfl⟩ := mem_gI.1 hx
  exact (h i hi h0).2
theorem greach_nil (w : World) (v : Value) : Calls Try.prog 5 #[.pointer none, v] w (Exact w (.tuple #[.slice none 0 0, .int .i64 1])) := by
  refine calls_abs fun R hR => ?_
  have h1 := gthere_nil w
  go_enter Try.func5, Try.ntmps5
  go_wp2_with fail
  refine h1.mono ?_
  rintro e _ ⟨rfl, rfl⟩
  go_wp2_with fail
  exact hR.out _ _ ⟨rfl, rfl⟩
section
variable {L : Nat → Option Gb} {hb : Nat} {M : Hp} {X : GX}
theorem greach_rep (w : World) (h : GRep w L hb M X) (hk : M.Ok) (ra : Option Addr) (rn rc : Nat) (roots : List Int) (hlen : roots.length = rn) (hr : Read w (.slice ra rn rc) roots) (hrn : rn ≤ 1000) :
    Calls Try.prog 5 #[.pointer (some ⟨hb, 0, none⟩), .slice ra rn rc] w (TwoL w (M.reach roots)) := by
  refine calls_abs fun R hR => ?_
  obtain ⟨C, hC, hmk'⟩ := mk_bools 193 (by omega)
  have hmk : ∀ wx : World, (Instr.makeSlice 63 (.int .i64 193) (.int .i64 193)).run Try.prog wx = .ok (.slice (some ⟨wx.heap.size, 0, none⟩) 193 193) (wx.alloc (.cells C 4)) := hmk'
  have h1 := gthere_rep w h
  have c0 := h.cells.1
  have HK := Lib.hid hk
  have HLEN := Lib.hid hlen
  have HO1 : Hid (Only [] w (w.alloc (.cells C 4))) := (Only.refl [] w).alloc _
  have HR1 : Hid (Row (w.alloc (.cells C 4)) w.heap.size 4 ((List.replicate 193 false).map Value.bool)) := by
    show Row _ _ _ _
    rw [← hC]
    exact Row.new w 4 C.toList
  have HSG : Hid (L w.heap.size = none) := by
    show _ = _
    cases e : L w.heap.size with
    | none => rfl
    | some ℓ => exact absurd (h.lt _ (by rw [e]; simp)) (by omega)
  have HGX : Hid (∀ wx, Only [w.heap.size] (w.alloc (.cells C 4)) wx → GRep wx L hb M X) := fun wx hwx => (h.only0 HO1.out).only (hwx.toP (S := fun k => k = w.heap.size) (fun x hx => .inl (by simpa using hx))) (fun k hk => by rw [hk]; exact HSG.out)
  have HRC : Hid (∀ wx, Only [w.heap.size] (w.alloc (.cells C 4)) wx → ∀ i, i < rn → ∃ b o, ra = some ⟨b, o, none⟩ ∧ wx.cell? ⟨b, o + i, none⟩ = some (.int .i64 (gI roots i))) := fun wx hwx i hi => by
    rcases hr with ⟨b, o, c, e, hc⟩ | ⟨oa, c, e, h0⟩
    · cases e
      have h2 := hc i (by omega)
      have hb2 : b < w.heap.size := World.block_lt_of_cell? w _ h2
      exact ⟨b, o, rfl, hwx.cell (HO1.out.cellN h2) (by simp; omega)⟩
    · rw [h0] at hlen; simp at hlen; omega
  have HSZ : Hid (w.heap.size < (w.alloc (.cells C 4)).heap.size) := by show _ < _; simp
  clear hC hmk' h hk hr hlen
  go_enter Try.func5, Try.ntmps5
  go_wp2_with fail
  refine h1.mono ?_
  rintro e _ ⟨rfl, rfl⟩
  go_wp2_with fail
  obtain ⟨sg, hsg⟩ : ∃ z, z = w.heap.size := ⟨_, rfl⟩
  have HSE := Lib.hid hsg
  rw [← hsg] at HR1 HSG HGX HRC HSZ ⊢
  generalize w.alloc (.cells C 4) = w1 at *
  clear hmk c0 h1 hsg
  go_loopw [7] (fun iv wr => ∃ (i : Nat) (bits : List Bool), i ≤ rn ∧ iv = .int .i64 i ∧ MkB M roots bits ∧ RootB M roots bits i ∧ Row wr sg 4 (bits.map Value.bool) ∧ Only [sg] w1 wr) (fun iv _ => rn - (intOf iv).toNat)
  case atStart => exact ⟨0, _, by omega, rfl, MkB.start, fun j hj => by omega, HR1.out, Only.refl _ _⟩
  case round =>
    clear HR1
    obtain ⟨i, bits, hi, rfl, hmb, hrb, hrow, ho⟩ := hrel
    have HO := Lib.hid ho
    have HMB := Lib.hid hmb
    have HRB := Lib.hid hrb
    have HRW := Lib.hid hrow
    clear hmb hrb hrow ho
    by_cases hlt : i < rn
    · have hlt1 : (i : Int) < rn := by omega
      have hi0 : (0 : Int) ≤ i := by omega
      obtain ⟨b, o, rfl, hc⟩ := HRC.out wr HO.out i hlt
      obtain ⟨x, hxe⟩ : ∃ z, z = gI roots i := ⟨_, rfl⟩
      have HXE := Lib.hid hxe
      rw [← hxe] at hc
      clear hxe
      by_cases hx0 : x = 0
      · have HRN : Hid (RootB M roots bits (i + 1)) := fun j hj hne => by
          by_cases e : j = i
          · rw [e, ← HXE.out] at hne; exact absurd hx0 hne
          · exact HRB.out j (by omega) hne
        clear HXE
        subst hx0
        go_wp2_with fail
        exact ⟨⟨i + 1, bits, by omega, by go_num, HMB.out, HRN.out, HRW.out, HO.out⟩, by simp [intOf]; omega⟩
      · have hxb : (x != 0) = true := by simpa using hx0
        have hin := gin_rep wr (HGX.out wr HO.out) HK.out x
        cases hob : M.ob x with
        | none =>
          have HBAD : Hid (M.badRoot roots) := ⟨x, mem_gI.2 ⟨i, by rw [HLEN.out]; exact hlt, HXE.out.symm⟩, hx0, hob⟩
          rw [hob] at hin
          have hin2 : Calls Try.prog 7 #[.pointer (some ⟨hb, 0, none⟩), .int .i64 x] wr (Exact wr (.bool false)) := hin
          have HE : Hid (Only [] w wr) := HO1.out.trans HO.out (fun y hy => .inr (by simp at hy; rw [hy, HSE.out]; exact Nat.le_refl _))
          clear hin hob
          go_wp2_with fail
          refine hin2.mono ?_
          rintro e _ ⟨rfl, rfl⟩
          go_wp2_with fail
          refine hR.out _ _ ⟨.slice none 0 0, ?_, ?_, HE.out⟩
          · unfold Hp.reach; rw [if_pos HBAD.out]; rfl
          · unfold Hp.reach; rw [if_pos HBAD.out]; exact Ints.nil _ _
        | some o2 =>
          have hrg := HK.out.hr x o2 hob
          rw [hob] at hin
          have hin2 : Calls Try.prog 7 #[.pointer (some ⟨hb, 0, none⟩), .int .i64 x] wr (Exact wr (.bool true)) := hin
          obtain ⟨y, rfl⟩ : ∃ y : Nat, x = y := ⟨x.toNat, by omega⟩
          have hy1 : 1 ≤ y := by omega
          have hy2 : y < 193 := by omega
          have hy3 : (y : Int) < 193 := by omega
          have hy4 : (0 : Int) ≤ y := by omega
          have z := HRW.out.cell y (bits_cell (by rw [HMB.out.len]; exact hy2))
          have zf := HRW.out.free y
          have HMN : Hid (MkB M roots (bits.set y true)) := HMB.out.set hy1 hy2 (.root (mem_gI.2 ⟨i, by rw [HLEN.out]; exact hlt, HXE.out.symm⟩) hx0)
          have HRN : Hid (RootB M roots (bits.set y true) (i + 1)) := fun j hj hne => by
            rw [gB_set (by rw [HMB.out.len]; exact hy2)]
            by_cases e : j = i
            · rw [e, ← HXE.out, hob]; simp
            · have h7 := HRB.out j (by omega) hne
              refine ⟨h7.1, ?_⟩
              split
              · rfl
              · exact h7.2
          have HRWN : Hid (Row (wr.setCell ⟨sg, y, none⟩ (.bool true)) sg 4 ((bits.set y true).map Value.bool)) := by
            show Row _ _ _ _
            rw [List.map_set]
            exact HRW.out.set y _
          have HON : Hid (Only [sg] w1 (wr.setCell ⟨sg, y, none⟩ (.bool true))) := HO.out.set (.inl (by simp)) _
          clear hin hob hrg HMB HRB HRW HO
          go_wp2_with fail
          refine hin2.mono ?_
          rintro e _ ⟨rfl, rfl⟩
          go_wp2_with fail
          exact ⟨⟨i + 1, _, by omega, by go_num, HMN.out, HRN.out, HRWN.out, HON.out⟩, by simp [intOf]; omega⟩
    · obtain rfl : i = rn := by omega
      have hlt1 : ¬ (i : Int) < (i : Int) := by omega
      have HRB2 : Hid (RootB M roots bits roots.length) := by show RootB _ _ _ _; rw [HLEN.out]; exact HRB.out
      have HNB : Hid (¬ M.badRoot roots) := HRB2.out.notBad
      have HRL := Lib.hid HRB2.out.roots
      clear HRB HRB2 HRC hlt
      go_wp2_with fail
      go_loopw [8] (fun mv wr => ∃ (m : Bool) (bits : List Bool), mv = .bool m ∧ MkB M roots bits ∧ (∀ x, x ∈ roots → x ≠ 0 → gB bits x.toNat = true) ∧ (m = false → ∀ j : Nat, 1 ≤ j → j ≤ 192 → gB bits j = true → ∀ y ∈ (M.refs (j : Int)).1, gB bits y.toNat = true) ∧ Row wr sg 4 (bits.map Value.bool) ∧ Only [sg] w1 wr) (fun mv wr => unmW wr sg + if boolAt (some mv) then 1 else 0)
      case atStart => exact ⟨true, bits, rfl, HMB.out, HRL.out, fun e => (by cases e), HRW.out, HO.out⟩
      case round =>
        clear HMB HRL HRW HO bits
        obtain ⟨m, b0, rfl, hmb, hrl, hcl, hrow, ho⟩ := hrel
        have HO := Lib.hid ho
        have HMB := Lib.hid hmb
        have HRL := Lib.hid hrl
        have HRW := Lib.hid hrow
        have hmw := unmW_row hrow hmb.len
        clear hmb hrl hrow ho
        cases m with
        | true =>
          clear hcl
          have HMW := Lib.hid hmw
          clear hmw
          go_wp2_with fail
          go_loopw [8, 9] (fun mv kv wr => ∃ (m : Bool) (k : Nat) (bits : List Bool), k ≤ 192 ∧ mv = .bool m ∧ kv = .int .i64 ((k + 1 : Nat) : Int) ∧ PassB M roots b0 bits k [] 0 m ∧ Row wr sg 4 (bits.map Value.bool) ∧ Only [sg] w1 wr) (fun mv kv _ => 193 - (intOf kv).toNat)
          case atStart => exact ⟨false, 0, b0, by omega, rfl, rfl, PassB.start HMB.out, HRW.out, HO.out⟩
          case round =>
            clear HRW HO HMB
            obtain ⟨m, k, bits, hk, rfl, rfl, hpb, hrow, ho⟩ := hrel
            have HO := Lib.hid ho
            have HPB := Lib.hid hpb
            have HRW := Lib.hid hrow
            clear hpb hrow ho
            by_cases hlt : k < 192
            · have hlt1 : (((k + 1 : Nat)) : Int) < 193 := by omega
              have hk0 : (0 : Int) ≤ ((k + 1 : Nat) : Int) := by omega
              have z := HRW.out.cell (k + 1) (bits_cell (by rw [HPB.out.mkb.len]; omega))
              cases hg : gB bits (k + 1) with
              | false =>
                rw [hg] at z
                have HPN := Lib.hid (HPB.out.skip hg)
                clear hg HPB
                go_wp2_with fail
                exact ⟨⟨m, k + 1, bits, by omega, rfl, by go_num, HPN.out, HRW.out, HO.out⟩, by simp [intOf]; omega⟩
              | true =>
                rw [hg] at z
                have HRK := Lib.hid (HPB.out.mkb.sound (k + 1) (by omega) hg)
                have c1 := grefs_rep wr (HGX.out wr HO.out) HK.out ((k + 1 : Nat) : Int)
                have hl48 := Hp.refs_len HK.out ((k + 1 : Nat) : Int)
                have HIN : Hid (∀ y, y ∈ (M.refs ((k + 1 : Nat) : Int)).1 → M.Rch roots y ∧ 1 ≤ y ∧ y ≤ 192) := fun y hy => by
                  unfold Hp.refs at hy
                  cases ho : M.ob ((k + 1 : Nat) : Int) with
                  | none => rw [ho] at hy; simp at hy
                  | some o =>
                    rw [ho] at hy
                    exact ⟨.step HRK.out ho hy, (HK.out.refTo ho hy).2⟩
                have HPI := Lib.hid (HPB.out.into (M.refs ((k + 1 : Nat) : Int)).1)
                have HPO : Hid (∀ b2 m2, PassB M roots b0 b2 k (M.refs ((k + 1 : Nat) : Int)).1 (M.refs ((k + 1 : Nat) : Int)).1.length m2 → PassB M roots b0 b2 (k + 1) [] 0 m2) := fun b2 m2 h => h.out
                generalize M.refs ((k + 1 : Nat) : Int) = rr at *
                obtain ⟨rl, re⟩ := rr
                replace hl48 : rl.length ≤ 48 := hl48
                clear hg HPB
                go_wp2_with fail
                refine c1.mono ?_
                rintro e w5 ⟨rv, rfl, hri, ho⟩
                replace hri : Ints w5 wr.heap.size rv rl := hri
                obtain ⟨ra2, rc2, rfl⟩ := hri.len
                have HO5 : Hid (Only [sg] w1 w5) := HO.out.trans ho (by simp)
                have HRW5 := Lib.hid (ho.row HRW.out (by simp))
                have hsl := HRW.out.lt
                have HRI : Hid (∀ wx, Only [sg] w5 wx → ∀ i, i < rl.length → ∃ g, ra2 = some ⟨g, 0, none⟩ ∧ wx.cell? ⟨g, i, none⟩ = some (.int .i64 (gI rl i))) := fun wx hwx i hi => by
                  rcases hri.form with ⟨_, e⟩ | ⟨g, cap, e, hg, _, _, hc⟩
                  · rw [e] at hi; simp at hi
                  · cases e; exact ⟨g, rfl, hwx.cell (hc i hi) (by simp; omega)⟩
                obtain ⟨ln, hln⟩ : ∃ z, z = rl.length := ⟨_, rfl⟩
                have HLN := Lib.hid hln
                rw [← hln] at hl48 ⊢
                clear hri ho hsl HRW HO c1 hln z
                go_wp2_with fail
                go_loopw [8, 12] (fun mv iv wr => ∃ (m : Bool) (i : Nat) (b2 : List Bool), i ≤ ln ∧ mv = .bool m ∧ iv = .int .i64 i ∧ PassB M roots b0 b2 k rl i m ∧ Row wr sg 4 (b2.map Value.bool) ∧ Only [sg] w5 wr) (fun mv iv _ => ln - (intOf iv).toNat)
                case atStart => exact ⟨m, 0, bits, by omega, rfl, rfl, HPI.out, HRW5.out, Only.refl _ _⟩
                case round =>
                  clear HPI HRW5
                  obtain ⟨m, i, b2, hi, rfl, rfl, hpb, hrow, ho⟩ := hrel
                  have HO := Lib.hid ho
                  have HPB := Lib.hid hpb
                  have HRW := Lib.hid hrow
                  clear hpb hrow ho
                  by_cases hil : i < ln
                  · have hil1 : (i : Int) < ln := by omega
                    have hi0 : (0 : Int) ≤ i := by omega
                    obtain ⟨g, rfl, hc⟩ := HRI.out wr HO.out i (by have := HLN.out; omega)
                    obtain ⟨hrch, hy1, hy2⟩ := HIN.out (gI rl i) (mem_gI.2 ⟨i, by have := HLN.out; omega, rfl⟩)
                    obtain ⟨y, hy⟩ : ∃ y : Nat, gI rl i = y := ⟨(gI rl i).toNat, by omega⟩
                    have HY := Lib.hid hy
                    rw [hy] at hc hrch hy1 hy2
                    have hy3 : (y : Int) < 193 := by omega
                    have hy4 : (0 : Int) ≤ y := by omega
                    have hy5 : 1 ≤ y := by omega
                    have hy6 : y < 193 := by omega
                    have z := HRW.out.cell y (bits_cell (by rw [HPB.out.mkb.len]; exact hy6))
                    have zf := HRW.out.free y
                    have HRWN : Hid (Row (wr.setCell ⟨sg, y, none⟩ (.bool true)) sg 4 ((b2.set y true).map Value.bool)) := by
                      show Row _ _ _ _
                      rw [List.map_set]
                      exact HRW.out.set y _
                    have HON : Hid (Only [sg] w5 (wr.setCell ⟨sg, y, none⟩ (.bool true))) := HO.out.set (.inl (by simp)) _
                    have HPN : Hid (PassB M roots b0 (b2.set y true) k rl (i + 1) (m || !gB b2 y)) := by
                      show PassB _ _ _ _ _ _ _ _
                      cases hg : gB b2 y with
                      | true =>
                        rw [gB_same hg]
                        have := HPB.out.marked hy hg
                        simpa using this
                      | false =>
                        have := HPB.out.mark (i := i) hy5 hy6 hrch hg
                        simpa using this
                    clear hy hrch HPB HRW HO
                    generalize gB b2 y = g2 at *
                    cases m <;> cases g2
                    · go_wp2_with fail
                      exact ⟨⟨true, i + 1, _, by omega, rfl, by go_num, HPN.out, HRWN.out, HON.out⟩, by simp [intOf]; omega⟩
                    · go_wp2_with fail
                      exact ⟨⟨false, i + 1, _, by omega, rfl, by go_num, HPN.out, HRWN.out, HON.out⟩, by simp [intOf]; omega⟩
                    · go_wp2_with fail
                      exact ⟨⟨true, i + 1, _, by omega, rfl, by go_num, HPN.out, HRWN.out, HON.out⟩, by simp [intOf]; omega⟩
                    · go_wp2_with fail
                      exact ⟨⟨true, i + 1, _, by omega, rfl, by go_num, HPN.out, HRWN.out, HON.out⟩, by simp [intOf]; omega⟩
                  · obtain rfl : i = ln := by omega
                    have hil1 : ¬ (i : Int) < (i : Int) := by omega
                    have HPN := Lib.hid (HPO.out b2 m (by rw [← HLN.out]; exact HPB.out))
                    have HON : Hid (Only [sg] w1 wr) := HO5.out.trans HO.out (fun x hx => .inl hx)
                    clear HPB HPO
                    go_wp2_with fail
                    exact ⟨⟨m, k + 1, b2, by omega, rfl, by go_num, HPN.out, HRW.out, HON.out⟩, by simp [intOf]; omega⟩
            · obtain rfl : k = 192 := by omega
              have hmw2 := unmW_row HRW.out HPB.out.mkb.len
              have HEND : Hid ((MkB M roots bits ∧ (∀ x, x ∈ roots → x ≠ 0 → gB bits x.toNat = true) ∧ (m = false → ∀ j : Nat, 1 ≤ j → j ≤ 192 → gB bits j = true → ∀ y ∈ (M.refs (j : Int)).1, gB bits y.toNat = true)) ∧ unm bits + (if boolAt (some (.bool m)) then 1 else 0) < unm b0 + 1) := by
                refine ⟨⟨HPB.out.mkb, fun x hx h0 => HPB.out.sub _ (HRL.out x hx h0), fun e j h1 h2 h3 y hy => ?_⟩, ?_⟩
                · have h7 := HPB.out.no e
                  rw [h7.1] at h3 ⊢
                  exact h7.2.1 j h1 h2 h3 y hy
                · cases m
                  · have h7 := (HPB.out.no rfl).1
                    rw [h7]; simp [boolAt]
                  · have h7 := HPB.out.yes rfl
                    simp [boolAt]; omega
              have HM2 := Lib.hid hmw2
              clear HPB hmw2
              go_wp2_with fail
              exact ⟨⟨m, bits, rfl, HEND.out.1.1, HEND.out.1.2.1, HEND.out.1.2.2, HRW.out, HO.out⟩, by have h7 := HEND.out.2; rw [HM2.out, HMW.out]; simpa [boolAt] using h7⟩
        | false =>
          have HALL : Hid (∀ k : Nat, k < 192 → (gB b0 (k + 1) = true ↔ M.Rch roots ((k : Int) + 1))) := fun k hk => by
            constructor
            · intro h7
              exact HMB.out.sound (k + 1) (by omega) h7
            · intro h7
              have h8 := MkB.all HK.out HNB.out HRL.out (hcl rfl) h7
              rwa [show ((k : Int) + 1).toNat = k + 1 by omega] at h8
          have HLN0 := Lib.hid HMB.out.len
          have HW6 : Hid (Only [] w wr) := HO1.out.trans HO.out (fun y hy => .inr (by simp at hy; rw [hy, HSE.out]; exact Nat.le_refl _))
          clear hcl hmw HMB HRL HO
          obtain ⟨w6, hw6⟩ : ∃ z, z = wr := ⟨_, rfl⟩
          rw [← hw6] at HRW HW6 ⊢
          clear hw6
          go_wp2_with fail
          go_loopw [13, 14] (fun v kv wr => ∃ k : Nat, k ≤ 192 ∧ kv = .int .i64 ((k + 1 : Nat) : Int) ∧ Ints wr w6.heap.size v (M.reachN roots k) ∧ Only [] w6 wr) (fun _ kv _ => 193 - (intOf kv).toNat)
          case atStart => exact ⟨0, by omega, rfl, Ints.nil _ _, Only.refl _ _⟩
          case round =>
            obtain ⟨k, hk, rfl, hi, ho⟩ := hrel
            obtain ⟨va, vc, hv⟩ := hi.len
            have HRLEN := Lib.hid (Hp.reachN_len M roots k)
            obtain ⟨vn, hvn⟩ : ∃ z, z = (M.reachN roots k).length := ⟨_, rfl⟩
            rw [← hvn] at hv
            subst hv
            have HI := Lib.hid hi
            have HO := Lib.hid ho
            clear hi ho hvn
            by_cases hlt : k < 192
            · have hlt1 : (((k + 1 : Nat)) : Int) < 193 := by omega
              have hk0 : (0 : Int) ≤ ((k + 1 : Nat) : Int) := by omega
              have z := (HO.out.row HRW.out (by simp)).cell (k + 1) (bits_cell (by rw [HLN0.out]; omega))
              have hstep : Hid (M.reachN roots (k + 1) = M.reachN roots k ++ if gB b0 (k + 1) = true then [((k + 1 : Nat) : Int)] else []) := by
                show M.reachN roots k ++ _ = _
                congr 1
                by_cases e : M.Rch roots ((k : Int) + 1)
                · rw [if_pos e, if_pos ((HALL.out k hlt).2 e)]; rfl
                · rw [if_neg e, if_neg (fun h7 => e ((HALL.out k hlt).1 h7))]
              cases hg : gB b0 (k + 1) with
              | false =>
                rw [hg] at z hstep
                have hs2 : Hid (M.reachN roots (k + 1) = M.reachN roots k) := by show _ = _; rw [hstep.out]; simp
                clear hstep hg
                go_wp2_with fail
                exact ⟨⟨k + 1, by omega, by go_num, by rw [hs2.out]; exact HI.out, HO.out⟩, by simp [intOf]; omega⟩
              | true =>
                rw [hg] at z hstep
                have hs2 : Hid (M.reachN roots (k + 1) = M.reachN roots k ++ [((k + 1 : Nat) : Int)]) := by show _ = _; rw [hstep.out]; simp
                clear hstep hg
                go_wp2_with (at_builtin; refine append_int1 rfl _ _ rfl w6.heap.size _ _ rfl (HI.out.alloc (.cells #[.int .i64 ((k + 1 : Nat) : Int)] 3)) wr.heap.size ((k + 1 : Nat) : Int) rfl ?c1 ?c2 ?c3 ?c4)
                case c1 => exact (Row.new wr _ [_]).cell 0 rfl
                case c2 => have := HRLEN.out; omega
                case c3 => have := HO.out.size; simp; omega
                case c4 =>
                  intro v' w2 hi2 ho2 hb2
                  have HO4 := Lib.hid (own_past HO.out HI.out ho2)
                  have HI4 := Lib.hid hi2
                  clear hi2 ho2 hb2
                  go_wp2_with fail
                  exact ⟨⟨k + 1, by omega, by go_num, by rw [hs2.out]; exact HI4.out, HO4.out⟩, by simp [intOf]; omega⟩
            · obtain rfl : k = 192 := by omega
              have HE : Hid (Only [] w wr) := HW6.out.trans HO.out (by simp)
              have HEQ : Hid (M.reach roots = (M.reachN roots 192, 0)) := by show _ = _; unfold Hp.reach; rw [if_neg HNB.out]; rfl
              have HI2 : Hid (Ints wr w.heap.size (.slice va vn vc) (M.reachN roots 192)) := HI.out.base HW6.out.size
              clear hlt HI
              go_wp2_with fail
              refine hR.out _ _ ⟨.slice va vn vc, ?_, ?_, HE.out⟩
              · rw [HEQ.out]; rfl
              · rw [HEQ.out]; exact HI2.out
end
end Go.Proofs.Ythflghdaejbdkaa
