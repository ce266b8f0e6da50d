/- Lemmas of this claim. -/
import Derived.Test.YthflghdaejbdkaaKRObj
namespace Go.Proofs.Ythflghdaejbdkaa
open Go.RowKit Go.Maps
set_option maxHeartbeats 3200000
set_option maxRecDepth 100000
set_option linter.unusedVariables false
section
variable {L : Nat → Option Gb} {hb : Nat} {X : GX} {P : Pl} {ob : Int → Option Th}
theorem glay_any (w : World) (h : GRep w L hb ⟨P, ob⟩ X) (hok : P.ok) {i : Nat} (hi : i < 193) {o : Th} (ho : ob (i : Int) = some o) (lo : LayOk o) :
    Calls Try.prog 48 #[.pointer (some ⟨hb, 0, none⟩), .int .i64 i] w fun e w' => e = .returned (.tuple #[]) ∧ GRep w' L hb ⟨o.lay P i, ob⟩ X ∧ OnlyP (fun k => PoolL (L k)) w w' := by
  refine calls_abs fun R hR => ?_
  have h2 := h.cells.1
  obtain ⟨c0, c1, c2, c3, c4⟩ := h.objSome (M := ⟨P, ob⟩) hi ho
  have x0 : (0 : Int) ≤ i := by omega
  have x1 : (i : Int) < 193 := by omega
  have th := h.th (i : Int) o ho
  obtain ⟨a2, b2, e2⟩ := th.rb.len
  obtain ⟨a3, b3, e3⟩ := th.sl.len
  obtain ⟨bg, b4, e4, hbc⟩ := th.bl.cellsOf lo.b1
  have HLB : Hid (L bg = some (.bl i)) := th.Lb bg (by rw [e4]; rfl)
  have hsl := th.sl
  have hls := th.Ls
  rw [e2] at c2
  rw [e3] at c3 hsl hls
  rw [e4] at c4
  obtain ⟨bn, hbn⟩ : ∃ z, z = o.blocks.length := ⟨_, rfl⟩
  obtain ⟨n, hn⟩ : ∃ z, z = o.slots.length := ⟨_, rfl⟩
  rw [← hbn] at c4 hbc
  rw [← hn] at c3 hsl hls
  have HSL := Lib.hid hsl
  have HLS := Lib.hid hls
  have HBC := Lib.hid hbc
  have HBN := Lib.hid hbn
  have HN := Lib.hid hn
  have LO := Lib.hid lo
  have H := Lib.hid h
  have HOK := Lib.hid hok
  have HOB := Lib.hid ho
  generalize o.kind = kd at *
  generalize o.cls = cl at *
  generalize o.refs.length = rn at *
  obtain ⟨og, hog⟩ : ∃ z, z = X.og := ⟨_, rfl⟩
  rw [← hog] at h2 c0 c1 c2 c3 c4
  have HRow : Hid (Row (w.alloc (.cells #[.int .i64 kd, .int .i64 cl, .slice a2 rn b2, .slice a3 n b3, .slice (some ⟨bg, 0, none⟩) bn b4] 73)) w.heap.size 73 [.int .i64 kd, .int .i64 cl, .slice a2 rn b2, .slice a3 n b3, .slice (some ⟨bg, 0, none⟩) bn b4]) := Row.new w _ [_, _, _, _, _]
  have HO6 : Hid (Only [] w (w.alloc (.cells #[.int .i64 kd, .int .i64 cl, .slice a2 rn b2, .slice a3 n b3, .slice (some ⟨bg, 0, none⟩) bn b4] 73))) := (Only.refl [] w).alloc _
  clear th h hok ho lo e2 e3 e4 hsl hls hbc hbn hn hi hog
  go_enter Try.func48, Try.ntmps48
  go_wp2_with fail
  generalize (w.alloc (.cells #[.int .i64 kd, .int .i64 cl, .slice a2 rn b2, .slice a3 n b3, .slice (some ⟨bg, 0, none⟩) bn b4] 73)) = w6 at *
  obtain ⟨y, hy⟩ : ∃ y, y = w.heap.size := ⟨_, rfl⟩
  rw [← hy] at HRow ⊢
  have HLY : Hid (L y = none) := by
    show _ = _
    cases e : L y with
    | none => rfl
    | some ℓ => have := H.out.lt y (by rw [e]; simp); omega
  clear h2 c0 c1 c2 c3 c4 hy
  have HG6 := Lib.hid (H.out.only0 HO6.out)
  have hb0 : 0 < bn := by have := HBN.out; have := LO.out.b1; omega
  have hb7 : bn ≤ 7 := by have := HBN.out; have := LO.out.b7; omega
  have hb0i : (0 : Int) < (bn : Int) := by omega
  have d1 : w6.drew.cell? ⟨hb, 1, none⟩ = some (.pointer (some ⟨X.q, 0, none⟩)) := HG6.out.cells.2.1
  have d4 : w6.drew.cell? ⟨y, 4, none⟩ = some (.slice (some ⟨bg, 0, none⟩) bn b4) := HRow.out.cell 4 rfl
  have db : w6.drew.cell? ⟨bg, 0, none⟩ = some (.int .i64 (gI o.blocks 0)) := HO6.out.cellN (HBC.out 0 (by have := LO.out.b1; omega))
  have n1 : hb ∉ [X.k, X.c, X.l] := H.out.notP H.out.Lm (by simp) (by simp) (by simp) (by simp)
  have nb : bg ∉ [X.k, X.c, X.l] := H.out.notP HLB.out (by simp) (by simp) (by simp) (by simp)
  have ny : y ∉ [X.k, X.c, X.l] := by
    have := HLY.out
    simp
    refine ⟨?_, ?_, ?_⟩ <;> (rintro rfl; first | (rw [H.out.Lk] at this; cases this) | (rw [H.out.Lc] at this; cases this) | (rw [H.out.Ll] at this; cases this))
  have HST := Lib.hid (rsetCell_rep w6.drew X.q X.k X.c X.l P HG6.out.drew.pool HOK.out (gI o.blocks 0) i)
  obtain ⟨a0, ha0⟩ : ∃ z, z = gI o.blocks 0 := ⟨_, rfl⟩
  rw [← ha0] at HST db
  have HA0 := Lib.hid ha0
  clear ha0
  have N1 := Lib.hid n1
  have NB := Lib.hid nb
  have NY := Lib.hid ny
  go_region_held3 (fun w' => w'.cell? ⟨hb, 1, none⟩ = some (.pointer (some ⟨X.q, 0, none⟩)) ∧ w'.cell? ⟨y, 4, none⟩ = some (.slice (some ⟨bg, 0, none⟩) bn b4) ∧ w'.cell? ⟨bg, 0, none⟩ = some (.int .i64 a0))
    (first | (exact ⟨d1, d4, db⟩) | (exact ⟨ho7.cell d1 n1, ho7.cell d4 ny, ho7.cell db nb⟩))
    (first
      | (go_at_call 71; refine HST.out.mono ?_; rintro e w7 ⟨rfl, hp7, ho7⟩))
  have HG7 : Hid (GRep w7 L hb ⟨layA P i o, ob⟩ X) := by
    show GRep _ _ _ _ _
    have := HG6.out.drew.poolTurn ho7 hp7
    unfold layA
    rw [← HA0.out]
    exact this
  have HO7 : Hid (OnlyP (fun k => PoolL (L k)) w6 w7) := (OnlyP.refl _ w6).drew.trans (HG6.out.drew.only4 ho7) (fun x hx => .inl hx)
  clear HST hp7 ho7 d1 d4 db n1 nb ny
  go_wp2_with fail
  go_loopw [5] (fun iv wr => ∃ k : Nat, k + 1 ≤ bn ∧ iv = .int .i64 ((k + 1 : Nat) : Int) ∧ GRep wr L hb ⟨layB (layA P i o) o k, ob⟩ X ∧ OnlyP (fun k => PoolL (L k)) w6 wr) (fun iv _ => 8 - (intOf iv).toNat)
  case atStart => exact ⟨0, by omega, rfl, HG7.out, HO7.out⟩
  case round =>
    clear HG7 HO7
    obtain ⟨k, hk, rfl, hg, ho⟩ := hrel
    have HG := Lib.hid hg
    have HO := Lib.hid ho
    have hyn : ¬ PoolL (L y) := by rw [HLY.out]; rintro (h | h | h | h) <;> cases h
    have hrow := ho.row HRow.out hyn
    have d4 : wr.cell? ⟨y, 4, none⟩ = some (.slice (some ⟨bg, 0, none⟩) bn b4) := hrow.cell 4 rfl
    by_cases hlt : k + 1 < bn
    · have hlt1 : (((k + 1 : Nat) : Int)) < (bn : Int) := by omega
      have hk00 : (0 : Int) ≤ ((k + 1 : Nat) : Int) := by omega
      have hk7 : ((k + 1 : Nat) : Int) ≤ 7 := by omega
      obtain ⟨ha1, ha2⟩ := LO.out.rng 0 LO.out.b1
      rw [← HA0.out] at ha1 ha2
      have e1 : wr.drew.cell? ⟨hb, 1, none⟩ = some (.pointer (some ⟨X.q, 0, none⟩)) := hg.cells.2.1
      have e4 : wr.drew.cell? ⟨y, 4, none⟩ = some (.slice (some ⟨bg, 0, none⟩) bn b4) := d4
      have hnb : ¬ PoolL (L bg) := by rw [HLB.out]; rintro (h | h | h | h) <;> cases h
      have eb : wr.drew.cell? ⟨bg, 0, none⟩ = some (.int .i64 a0) := by rw [HA0.out]; exact ho.cell (HO6.out.cellN (HBC.out 0 (by omega))) hnb
      have ek : wr.drew.cell? ⟨bg, k + 1, none⟩ = some (.int .i64 (gI o.blocks (k + 1))) := ho.cell (HO6.out.cellN (HBC.out (k + 1) hlt)) hnb
      have hokk : (layB (layA P i o) o k).ok := (lay_keep HOK.out i o k 0).1
      have HST := Lib.hid (rsetCell_rep wr.drew X.q X.k X.c X.l _ hg.drew.pool hokk (a0 + ((k + 1 : Nat) : Int)) (gI o.blocks (k + 1)))
      have HSTEP : Hid (True → layB (layA P i o) o (k + 1) = ((layB (layA P i o) o k).setCell (a0 + ((k + 1 : Nat) : Int)) (gI o.blocks (k + 1))).2) := fun _ => by rw [HA0.out]; rfl
      have hwrap : IntKind.i64.wrap (a0 + ((k + 1 : Nat) : Int)) = a0 + ((k + 1 : Nat) : Int) := IntWalk.i64_in _ (by omega)
      obtain ⟨kn, hkn⟩ : ∃ z, z = k + 1 := ⟨_, rfl⟩
      rw [← hkn] at hlt hlt1 hk00 hk7 ek HST HSTEP hwrap ⊢
      generalize gI o.blocks kn = z at *
      generalize (layB (layA P i o) o k).setCell (a0 + (kn : Int)) z = r at *
      obtain ⟨r1, r2⟩ := r
      have HKN := Lib.hid hkn
      have n1 := N1.out
      have nb := NB.out
      have ny := NY.out
      clear hg ho hrow hokk hkn hyn hnb
      go_wp2_with fail
      clear d4
      go_region_held3 (fun w' => w'.cell? ⟨hb, 1, none⟩ = some (.pointer (some ⟨X.q, 0, none⟩)) ∧ w'.cell? ⟨y, 4, none⟩ = some (.slice (some ⟨bg, 0, none⟩) bn b4) ∧ w'.cell? ⟨bg, 0, none⟩ = some (.int .i64 a0) ∧ w'.cell? ⟨bg, kn, none⟩ = some (.int .i64 z))
        (first | (exact ⟨e1, e4, eb, ek⟩) | (exact ⟨ho7.cell e1 n1, ho7.cell e4 ny, ho7.cell eb nb, ho7.cell ek nb⟩))
        (first
          | (go_at_call 71; refine HST.out.mono ?_; rintro e w8 ⟨rfl, hp7, ho7⟩))
      have HG8 : Hid (GRep w8 L hb ⟨layB (layA P i o) o kn, ob⟩ X) := by
        show GRep _ _ _ _ _
        have h1 := HSTEP.out trivial
        rw [h1]
        exact HG.out.drew.poolTurn ho7 hp7
      have HO8 : Hid (OnlyP (fun k => PoolL (L k)) w6 w8) := HO.out.drew.trans (HG.out.drew.only4 ho7) (fun x hx => .inl hx)
      clear HST hp7 ho7 e1 e4 eb ek n1 nb ny HSTEP
      go_wp2_with fail
      exact ⟨⟨kn, by omega, by go_num, HG8.out, HO8.out⟩, by simp [intOf]; omega⟩
    · have hlt1 : ¬ (((k + 1 : Nat) : Int)) < (bn : Int) := by omega
      have HKB : Hid (k = bn - 1) := by show k = bn - 1; omega
      have HGB : Hid (GRep wr L hb ⟨layB (layA P i o) o (o.blocks.length - 1), ob⟩ X) := by
        show GRep _ _ _ _ _
        rw [← HBN.out, ← HKB.out]; exact hg
      have HO1 := Lib.hid ho
      clear hg ho hrow hyn HG HO
      go_wp2_with fail
      clear d4
      go_loopw [6] (fun iv wr => ∃ j : Nat, j ≤ n ∧ iv = .int .i64 j ∧ GRep wr L hb ⟨layC (layB (layA P i o) o (o.blocks.length - 1)) o j, ob⟩ X ∧ OnlyP (fun k => PoolL (L k)) w6 wr) (fun iv _ => 49 - (intOf iv).toNat)
      case atStart => exact ⟨0, by omega, rfl, HGB.out, HO1.out⟩
      case round =>
        clear HGB HO1
        obtain ⟨j, hj, rfl, hg, ho⟩ := hrel
        have HG := Lib.hid hg
        have HO := Lib.hid ho
        have hyn : ¬ PoolL (L y) := by rw [HLY.out]; rintro (h | h | h | h) <;> cases h
        have hrow := ho.row HRow.out hyn
        have d3 : wr.cell? ⟨y, 3, none⟩ = some (.slice a3 n b3) := hrow.cell 3 rfl
        by_cases hjl : j < n
        · obtain ⟨sg, hsg⟩ : ∃ sg, a3 = some ⟨sg, 0, none⟩ ∧ wr.cell? ⟨sg, j, none⟩ = some (.int .i64 (gI o.slots j)) ∧ L sg = some (.sl i) := by
            rcases HSL.out.form with ⟨_, e⟩ | ⟨g, c, e, _, _, _, hc⟩
            · have e5 := HN.out; rw [e] at e5; simp at e5; omega
            · cases e
              have hLg := HLS.out g rfl
              exact ⟨g, rfl, ho.cell (HO6.out.cellN (hc j (by have := HN.out; omega))) (by show ¬ PoolL (L g); rw [hLg]; rintro (h | h | h | h) <;> cases h), hLg⟩
          obtain ⟨rfl, es, hLsg⟩ := hsg
          have hjl1 : (j : Int) < (n : Int) := by omega
          have hj0 : (0 : Int) ≤ j := by omega
          have hj48 : (j : Int) < 48 := by have := LO.out.s48; have := HN.out; omega
          obtain ⟨ha1, ha2⟩ := LO.out.rng 0 LO.out.b1
          rw [← HA0.out] at ha1 ha2
          have hnb : ¬ PoolL (L bg) := by rw [HLB.out]; rintro (h | h | h | h) <;> cases h
          have d4 : wr.cell? ⟨y, 4, none⟩ = some (.slice (some ⟨bg, 0, none⟩) bn b4) := hrow.cell 4 rfl
          have eb : wr.cell? ⟨bg, 0, none⟩ = some (.int .i64 a0) := by rw [HA0.out]; exact ho.cell (HO6.out.cellN (HBC.out 0 (by omega))) hnb
          have e1 : wr.drew.cell? ⟨hb, 1, none⟩ = some (.pointer (some ⟨X.q, 0, none⟩)) := hg.cells.2.1
          have e3 : wr.drew.cell? ⟨y, 3, none⟩ = some (.slice (some ⟨sg, 0, none⟩) n b3) := d3
          have ed : wr.drew.cell? ⟨sg, j, none⟩ = some (.int .i64 (gI o.slots j)) := es
          have hokk : (layC (layB (layA P i o) o (o.blocks.length - 1)) o j).ok := (lay_keep HOK.out i o _ j).1
          have HSTEP : Hid (layC (layB (layA P i o) o (o.blocks.length - 1)) o (j + 1) = ((layC (layB (layA P i o) o (o.blocks.length - 1)) o j).setCell (o.addr j) (gI o.slots j)).2) := rfl
          have HST0 := Lib.hid (fun z => rsetCell_rep wr.drew X.q X.k X.c X.l _ hg.drew.pool hokk z (gI o.slots j))
          have n1 := N1.out
          have ny := NY.out
          have nsg : sg ∉ [X.k, X.c, X.l] := H.out.notP hLsg (by simp) (by simp) (by simp) (by simp)
          obtain ⟨sj, hsj⟩ : ∃ z, z = gI o.slots j := ⟨_, rfl⟩
          rw [← hsj] at es ed HST0 HSTEP
          have HSJ := Lib.hid hsj
          by_cases h1b : 1 < bn
          · have h1bi : (1 : Int) < bn := by omega
            have hm := LO.out.leaf (by have := HBN.out; omega) j (by have := HN.out; omega)
            have hAd : o.addr j = gI o.blocks (1 + j / 8) + ((j % 8 : Nat) : Int) := by unfold Th.addr; rw [if_pos (by have := HBN.out; omega)]
            have hr := LO.out.rng _ hm
            have em : wr.cell? ⟨bg, 1 + j / 8, none⟩ = some (.int .i64 (gI o.blocks (1 + j / 8))) := ho.cell (HO6.out.cellN (HBC.out _ (by have := HBN.out; omega))) hnb
            obtain ⟨z, hz⟩ : ∃ z, z = gI o.blocks (1 + j / 8) := ⟨_, rfl⟩
            rw [← hz] at em hr hAd
            obtain ⟨q, hq⟩ : ∃ q, q = j / 8 := ⟨_, rfl⟩
            obtain ⟨r, hrr⟩ : ∃ r, r = j % 8 := ⟨_, rfl⟩
            rw [← hq] at em
            rw [← hrr] at hAd
            have hmi : (1 : Int) + q < bn := by have := HBN.out; omega
            have hqi : (j : Int) / 8 = (q : Int) := by omega
            have hri : (j : Int) % 8 = (r : Int) := by omega
            have hr8 : (r : Int) < 8 := by omega
            have hr00 : (0 : Int) ≤ r := by omega
            have hq00 : (0 : Int) ≤ q := by omega
            have hq1 : (q : Int) ≤ 6 := by omega
            obtain ⟨hz1, hz2⟩ := hr
            have HST := Lib.hid (HST0.out (z + (r : Int)))
            rw [hAd] at HSTEP
            generalize (layC (layB (layA P i o) o (o.blocks.length - 1)) o j).setCell (z + (r : Int)) sj = res at *
            obtain ⟨r1, r2⟩ := res
            clear hg ho hrow hokk hnb hyn hm hAd hz hq hrr HST0 hsj
            go_wp2_with fail
            clear d3 d4 eb em es
            go_region_held3 (fun w' => w'.cell? ⟨hb, 1, none⟩ = some (.pointer (some ⟨X.q, 0, none⟩)) ∧ w'.cell? ⟨y, 3, none⟩ = some (.slice (some ⟨sg, 0, none⟩) n b3) ∧ w'.cell? ⟨sg, j, none⟩ = some (.int .i64 sj))
              (first | (exact ⟨e1, e3, ed⟩) | (exact ⟨ho7.cell e1 n1, ho7.cell e3 ny, ho7.cell ed nsg⟩))
              (first
                | (go_at_call 71; refine HST.out.mono ?_; rintro e w8 ⟨rfl, hp7, ho7⟩))
            have HG8 : Hid (GRep w8 L hb ⟨layC (layB (layA P i o) o (o.blocks.length - 1)) o (j + 1), ob⟩ X) := by
              show GRep _ _ _ _ _
              rw [HSTEP.out]
              exact HG.out.drew.poolTurn ho7 hp7
            have HO8 : Hid (OnlyP (fun k => PoolL (L k)) w6 w8) := HO.out.drew.trans (HG.out.drew.only4 ho7) (fun x hx => .inl hx)
            clear HST hp7 ho7 e1 e3 ed n1 nsg ny HSTEP
            go_wp2_with fail
            exact ⟨⟨j + 1, by omega, by go_num, HG8.out, HO8.out⟩, by simp [intOf]; omega⟩
          · have h1bi : ¬ (1 : Int) < bn := by omega
            have hAd : o.addr j = a0 + 1 + (j : Int) := by rw [HA0.out]; unfold Th.addr; rw [if_neg (by have := HBN.out; omega)]
            have HST := Lib.hid (HST0.out (a0 + 1 + (j : Int)))
            rw [hAd] at HSTEP
            generalize (layC (layB (layA P i o) o (o.blocks.length - 1)) o j).setCell (a0 + 1 + (j : Int)) sj = res at *
            obtain ⟨r1, r2⟩ := res
            clear hg ho hrow hokk hnb hyn hAd HST0 hsj
            go_wp2_with fail
            clear d3 d4 eb es
            go_region_held3 (fun w' => w'.cell? ⟨hb, 1, none⟩ = some (.pointer (some ⟨X.q, 0, none⟩)) ∧ w'.cell? ⟨y, 3, none⟩ = some (.slice (some ⟨sg, 0, none⟩) n b3) ∧ w'.cell? ⟨sg, j, none⟩ = some (.int .i64 sj))
              (first | (exact ⟨e1, e3, ed⟩) | (exact ⟨ho7.cell e1 n1, ho7.cell e3 ny, ho7.cell ed nsg⟩))
              (first
                | (go_at_call 71; refine HST.out.mono ?_; rintro e w8 ⟨rfl, hp7, ho7⟩))
            have HG8 : Hid (GRep w8 L hb ⟨layC (layB (layA P i o) o (o.blocks.length - 1)) o (j + 1), ob⟩ X) := by
              show GRep _ _ _ _ _
              rw [HSTEP.out]
              exact HG.out.drew.poolTurn ho7 hp7
            have HO8 : Hid (OnlyP (fun k => PoolL (L k)) w6 w8) := HO.out.drew.trans (HG.out.drew.only4 ho7) (fun x hx => .inl hx)
            clear HST hp7 ho7 e1 e3 ed n1 nsg ny HSTEP
            go_wp2_with fail
            exact ⟨⟨j + 1, by omega, by go_num, HG8.out, HO8.out⟩, by simp [intOf]; omega⟩
        · obtain rfl : j = n := by omega
          have hjl1 : ¬ (j : Int) < (j : Int) := by omega
          have HG9 : Hid (GRep wr L hb ⟨o.lay P i, ob⟩ X) := by
            show GRep _ _ _ _ _
            unfold Th.lay
            rw [← HN.out]
            exact hg
          have HO9 : Hid (OnlyP (fun k => PoolL (L k)) w wr) := (HO6.out.toP0).trans ho (fun x hx => .inl hx)
          clear hg ho hrow hyn
          go_wp2_with fail
          go_end0
          exact hR.out _ _ ⟨rfl, HG9.out, HO9.out⟩
end
end Go.Proofs.Ythflghdaejbdkaa
namespace Go.Proofs.Ythflghdaejbdkaa
open Go.RowKit Go.Maps
set_option maxHeartbeats 1600000
set_option maxRecDepth 100000
set_option linter.unusedVariables false
def GDid (w : World) (L : Nat → Option Gb) (hb : Nat) (r : Value) (M' : Hp) (e : Ending) (w' : World) : Prop :=
  e = .returned r ∧ ∃ L' X', GRep w' L' hb M' X' ∧ (∀ k, L' k ≠ none → L k ≠ none ∨ w.heap.size ≤ k) ∧ OnlyP (fun k => L k ≠ none) w w'
theorem Hp.Ok.layOk {M : Hp} (hk : M.Ok) {h : Int} {o : Th} (ho : M.ob h = some o) : LayOk o := by
  obtain ⟨h1, h2, h3, h4⟩ := hk.blen ho
  exact ⟨h1, h2, (hk.th h o ho).le, fun m hm => hk.blkRange ho hm, fun hb s hs => by have := h4 (h3.1 hb); omega⟩
def gRow5 (cs : List Value) (i : Nat) (f : Nat → Value) : List Value := ((((cs.set (i * 5) (f 0)).set (i * 5 + 1) (f 1)).set (i * 5 + 2) (f 2)).set (i * 5 + 3) (f 3)).set (i * 5 + 4) (f 4)
theorem gRow5_at {cs : List Value} {i : Nat} {f : Nat → Value} (hl : i * 5 + 4 < cs.length) {i' j : Nat} (hj : j < 5) : (gRow5 cs i f)[i' * 5 + j]? = if i' = i then some (f j) else cs[i' * 5 + j]? := by
  unfold gRow5
  simp only [List.getElem?_set, List.length_set]
  by_cases e : i' = i
  · subst e
    rw [if_pos rfl]
    match j, hj with
    | 0, _ => rw [if_neg (by omega), if_neg (by omega), if_neg (by omega), if_neg (by omega), if_pos (by omega), if_pos (by omega)]
    | 1, _ => rw [if_neg (by omega), if_neg (by omega), if_neg (by omega), if_pos rfl, if_pos (by omega)]
    | 2, _ => rw [if_neg (by omega), if_neg (by omega), if_pos rfl, if_pos (by omega)]
    | 3, _ => rw [if_neg (by omega), if_pos rfl, if_pos (by omega)]
    | 4, _ => rw [if_pos rfl, if_pos (by omega)]
    | j + 5, hj => omega
  · rw [if_neg e, if_neg (by omega), if_neg (by omega), if_neg (by omega), if_neg (by omega), if_neg (by omega)]
section
variable {w w' : World} {L L' : Nat → Option Gb} {hb : Nat} {M : Hp} {X X' : GX} {P : Pl} {ob ob' : Int → Option Th}
theorem GDid.none0 {r : Value} (h : GRep w L hb M X) (ho : Only [] w w') : GDid w L hb r M (.returned r) w' :=
  ⟨rfl, L, X, h.only0 ho, fun k hk => .inl hk, ho.toP0⟩
theorem GDid.of {w0 : World} {r : Value} (ho : OnlyP (fun k => L k ≠ none) w0 w') (h : GRep w' L' hb M X) (hL : ∀ k, L' k ≠ none → L k ≠ none ∨ w0.heap.size ≤ k) : GDid w0 L hb r M (.returned r) w' := ⟨rfl, L', X, h, hL, ho⟩
theorem GRep.turnObj (h : GRep w L hb ⟨P, ob⟩ X) (hP : OnlyP (fun k => L k = some .objs) w w') (hX : X'.q = X.q ∧ X'.k = X.k ∧ X'.c = X.c ∧ X'.l = X.l ∧ X'.og = X.og ∧ X'.oc = X.oc) (hlab : ∀ k, L k ≠ none → L' k = L k) (hlt : ∀ k, L' k ≠ none → k < w'.heap.size)
    (hrow : ∃ T cs, Row w' X.og T cs ∧ ∀ i : Nat, i < 193 → ∀ j, j < 5 → cs[i * 5 + j]? = some (gFld (ob' i) (X'.rv i) (X'.sv i) (X'.bv i) j)) (hth : ∀ k o, ob' k = some o → GTh w' L' k (X'.rv k) (X'.sv k) (X'.bv k) o) : GRep w' L' hb ⟨P, ob'⟩ X' := by
  obtain ⟨e1, e2, e3, e4, e5, e6⟩ := hX
  have hne : ∀ k ℓ, ℓ ≠ Gb.objs → L k = some .objs → L k ≠ some ℓ := fun k ℓ h1 hk e => by rw [hk] at e; cases e; exact h1 rfl
  obtain ⟨T1, m1⟩ := h.mem
  refine ⟨hlt, ⟨T1, ?_⟩, glab_of hlab h.Lm, ?_, ?_, ?_, ?_, ?_, ?_, ?_, hth⟩
  · rw [e5, e6, e1]; exact hP.row m1 (fun x => hne _ .mem (by simp) x h.Lm)
  · rw [e1, e2, e3, e4]; exact h.pool.onlyP hP (fun x => hne _ .pq (by simp) x h.Lq) (fun x => hne _ .pk (by simp) x h.Lk) (fun x => hne _ .pc (by simp) x h.Lc) (fun x => hne _ .pl (by simp) x h.Ll)
  · rw [e1]; exact glab_of hlab h.Lq
  · rw [e2]; exact glab_of hlab h.Lk
  · rw [e3]; exact glab_of hlab h.Lc
  · rw [e4]; exact glab_of hlab h.Ll
  · rw [e5]; exact hrow
  · rw [e5]; exact glab_of hlab h.Lo
theorem GRep.onlyObjs (h : GRep w L hb ⟨P, ob⟩ X) (vs : List Value) (o : Nat) : OnlyP (fun k => L k = some .objs) w (w.setCells X.og o vs) := (OnlyP.refl _ w).setCells (.inl h.Lo) vs o
theorem GRep.objRow (h : GRep w L hb ⟨P, ob⟩ X) {i : Nat} (hi : i < 193) (f : Nat → Value) : ∃ T cs, Row (w.setCells X.og (i * 5) [f 0, f 1, f 2, f 3, f 4]) X.og T cs ∧ ∀ i' : Nat, i' < 193 → ∀ j, j < 5 → cs[i' * 5 + j]? = some (if i' = i then f j else gFld (ob i') (X.rv i') (X.sv i') (X.bv i') j) := by
  obtain ⟨T, cs, hr, hc⟩ := h.ob
  have hl : i * 5 + 4 < cs.length := (List.getElem?_eq_some_iff.1 (hc i hi 4 (by omega))).1
  refine ⟨T, gRow5 cs i f, ((((hr.set (i * 5) (f 0)).set (i * 5 + 1) (f 1)).set (i * 5 + 2) (f 2)).set (i * 5 + 3) (f 3)).set (i * 5 + 4) (f 4), fun i' hi' j hj => ?_⟩
  rw [gRow5_at hl hj, hc i' hi' j hj]
  split <;> rfl
theorem GRep.setObj (h : GRep w L hb ⟨P, ob⟩ X) {i : Nat} (hi : i < 193) (t : Th) {rv sv bv : Value} {v : Nat} (h1 : Bls w v rv t.refs) (h2 : Ints w v sv t.slots) (h3 : Ints w v bv t.blocks) (hn : ∀ k, v ≤ k → L k = none)
    (d1 : ∀ g, rv.ownBlock = some g → sv.ownBlock ≠ some g ∧ bv.ownBlock ≠ some g) (d2 : ∀ g, sv.ownBlock = some g → bv.ownBlock ≠ some g) :
    ∃ L' X', GRep (w.setCells X.og (i * 5) [.int .i64 t.kind, .int .i64 t.cls, rv, sv, bv]) L' hb ⟨P, setT ob i (some t)⟩ X' ∧ (X'.q = X.q ∧ X'.k = X.k ∧ X'.c = X.c ∧ X'.l = X.l ∧ X'.og = X.og ∧ X'.oc = X.oc) ∧ (∀ k, L k ≠ none → L' k = L k) ∧ (∀ k, L' k ≠ none → L k ≠ none ∨ v ≤ k) := by
  obtain ⟨L', hL'⟩ : ∃ L' : Nat → Option Gb, L' = fun k => if rv.ownBlock = some k then some (.rb i) else if sv.ownBlock = some k then some (.sl i) else if bv.ownBlock = some k then some (.bl i) else L k := ⟨_, rfl⟩
  have hno : ∀ k, L k ≠ none → ¬ v ≤ k := fun k hk e => hk (hn k e)
  have hlab : ∀ k, L k ≠ none → L' k = L k := fun k hk => by
    have := hno k hk
    rw [hL']
    simp only
    rw [if_neg (fun e => by have := (h1.own k e).1; omega), if_neg (fun e => by have := (h2.own k e).1; omega), if_neg (fun e => by have := (h3.own k e).1; omega)]
  have hO := h.onlyObjs [.int .i64 t.kind, .int .i64 t.cls, rv, sv, bv] (i * 5)
  have hnew : ∀ k, L' k ≠ none → L k ≠ none ∨ (v ≤ k ∧ k < w.heap.size) := fun k hk => by
    rw [hL'] at hk
    simp only at hk
    by_cases e1 : rv.ownBlock = some k
    · exact .inr (h1.own k e1)
    · rw [if_neg e1] at hk
      by_cases e2 : sv.ownBlock = some k
      · exact .inr (h2.own k e2)
      · rw [if_neg e2] at hk
        by_cases e3 : bv.ownBlock = some k
        · exact .inr (h3.own k e3)
        · rw [if_neg e3] at hk; exact .inl hk
  have hob : ∀ k, v ≤ k → L k ≠ some .objs := fun k hk e => by rw [hn k hk] at e; cases e
  refine ⟨L', { X with rv := fun k => if k = i then rv else X.rv k, sv := fun k => if k = i then sv else X.sv k, bv := fun k => if k = i then bv else X.bv k }, h.turnObj hO ⟨rfl, rfl, rfl, rfl, rfl, rfl⟩ hlab (fun k hk => ?_) ?_ (fun k u hk => ?_), ⟨rfl, rfl, rfl, rfl, rfl, rfl⟩, hlab, fun k hk => (hnew k hk).imp id (fun e => e.1)⟩
  · rcases hnew k hk with e | e
    · exact Nat.lt_of_lt_of_le (h.lt k e) hO.size
    · exact Nat.lt_of_lt_of_le e.2 hO.size
  · obtain ⟨T, cs, hr, hc⟩ := h.objRow hi (gFld (some t) rv sv bv)
    refine ⟨T, cs, hr, fun i' hi' j hj => ?_⟩
    rw [hc i' hi' j hj]
    by_cases e : i' = i
    · subst e; rw [if_pos rfl, setT_same]; simp only [if_true]
    · have : (i' : Int) ≠ (i : Int) := by omega
      rw [if_neg e, setT_other _ _ this]
      simp only [if_neg this]
  · show GTh _ L' k (if k = i then rv else X.rv k) (if k = i then sv else X.sv k) (if k = i then bv else X.bv k) u
    rcases setT_some hk with ⟨rfl, rfl⟩ | ⟨e, hk'⟩
    · rw [if_pos rfl, if_pos rfl, if_pos rfl]
      refine ⟨(h1.base (Nat.zero_le _)).onlyP hO (fun g hg => hob g (h1.own g hg).1), fun g hg => ?_, (h2.base (Nat.zero_le _)).onlyP hO (fun g hg => hob g (h2.own g hg).1), fun g hg => ?_, (h3.base (Nat.zero_le _)).onlyP hO (fun g hg => hob g (h3.own g hg).1), fun g hg => ?_⟩
      · rw [hL']; simp [hg]
      · rw [hL']; simp only; rw [if_neg (fun e => (d1 g e).1 hg), if_pos hg]
      · rw [hL']; simp only; rw [if_neg (fun e => (d1 g e).2 hg), if_neg (fun e => d2 g e hg), if_pos hg]
    · rw [if_neg e, if_neg e, if_neg e]
      exact ((h.th k u hk').only hO (fun x hx => ⟨(fun e => by rw [hx] at e; cases e), (fun e => by rw [hx] at e; cases e), (fun e => by rw [hx] at e; cases e)⟩)).lab hlab
theorem GRep.turnOne (h : GRep w L hb ⟨P, ob⟩ X) {x : Int} {o o' : Th} (ho : ob x = some o) {ℓ : Gb} (hP : OnlyP (fun k => L k = some ℓ) w w') (hℓ : ℓ = .sl x ∨ ℓ = .bl x) (e1 : o'.kind = o.kind) (e2 : o'.cls = o.cls)
    (hth : GTh w' L x (X.rv x) (X.sv x) (X.bv x) o') : GRep w' L hb ⟨P, setT ob x (some o')⟩ X := by
  have hne : ∀ k ℓ', ℓ' ≠ ℓ → L k = some ℓ → L k ≠ some ℓ' := fun k ℓ' h1 hk e => by rw [hk] at e; cases e; exact h1 rfl
  have n0 : ∀ ℓ', (∀ y, ℓ' ≠ .sl y) → (∀ y, ℓ' ≠ .bl y) → ℓ' ≠ ℓ := fun ℓ' a b e => by rcases hℓ with h | h <;> rw [h] at e; exact a x e; exact b x e
  have n1 : ∀ ℓ', ℓ' = Gb.mem ∨ ℓ' = .pq ∨ ℓ' = .pk ∨ ℓ' = .pc ∨ ℓ' = .pl ∨ ℓ' = .objs → ℓ' ≠ ℓ := fun ℓ' hc => n0 ℓ' (fun y e => by rcases hc with h | h | h | h | h | h <;> rw [h] at e <;> cases e) (fun y e => by rcases hc with h | h | h | h | h | h <;> rw [h] at e <;> cases e)
  obtain ⟨T1, m1⟩ := h.mem
  obtain ⟨T2, cs, m2, n2⟩ := h.ob
  refine ⟨fun k hk => Nat.lt_of_lt_of_le (h.lt k hk) hP.size, ⟨T1, hP.row m1 (fun y => hne _ .mem (n1 _ (by simp)) y h.Lm)⟩, h.Lm, h.pool.onlyP hP (fun y => hne _ .pq (n1 _ (by simp)) y h.Lq) (fun y => hne _ .pk (n1 _ (by simp)) y h.Lk) (fun y => hne _ .pc (n1 _ (by simp)) y h.Lc) (fun y => hne _ .pl (n1 _ (by simp)) y h.Ll), h.Lq, h.Lk, h.Lc, h.Ll,
    ⟨T2, cs, hP.row m2 (fun y => hne _ .objs (n1 _ (by simp)) y h.Lo), fun i hi j hj => ?_⟩, h.Lo, fun k t hk => ?_⟩
  · rw [n2 i hi j hj]
    show some (gFld (ob (i : Int)) _ _ _ j) = some (gFld (setT ob x (some o') (i : Int)) _ _ _ j)
    by_cases e : (i : Int) = x
    · rw [e, setT_same, ho]
      match j, hj with
      | 0, _ => show some (Value.int .i64 o.kind) = some (Value.int .i64 o'.kind); rw [e1]
      | 1, _ => show some (Value.int .i64 o.cls) = some (Value.int .i64 o'.cls); rw [e2]
      | 2, _ => rfl
      | 3, _ => rfl
      | 4, _ => rfl
      | j + 5, hj => omega
    · rw [setT_other _ _ e]
  · rcases setT_some hk with ⟨rfl, rfl⟩ | ⟨e, hk'⟩
    · exact hth
    · exact (h.th k t hk').only hP (fun y hy => ⟨hne y _ (n0 _ (fun _ e => by cases e) (fun _ e => by cases e)) hy, hne y _ (fun e2 => by rcases hℓ with h | h <;> rw [h] at e2 <;> cases e2; exact e rfl) hy, hne y _ (fun e2 => by rcases hℓ with h | h <;> rw [h] at e2 <;> cases e2; exact e rfl) hy⟩)
theorem GRep.setSlot (h : GRep w L hb ⟨P, ob⟩ X) {x : Int} {o : Th} (ho : ob x = some o) {g n cap : Nat} (hv : X.sv x = .slice (some ⟨g, 0, none⟩) n cap) (s : Nat) (y : Int) : GRep (w.setCell ⟨g, s, none⟩ (.int .i64 y)) L hb ⟨P, setT ob x (some (o.put s y))⟩ X := by
  have k := h.th x o ho
  have hLg : L g = some (.sl x) := k.Ls g (by rw [hv]; rfl)
  have hP : OnlyP (fun j => L j = some (.sl x)) w (w.setCell ⟨g, s, none⟩ (.int .i64 y)) := (OnlyP.refl _ w).set (.inl hLg) _
  have hne : ∀ (g' : Nat) ℓ', ℓ' ≠ .sl x → L g' = some ℓ' → ¬ L g' = some (.sl x) := fun g' ℓ' h1 h2 h3 => by rw [h2] at h3; cases h3; exact h1 rfl
  refine h.turnOne (o' := o.put s y) ho hP (.inl rfl) rfl rfl ⟨k.rb.onlyP hP (fun g' hg' => hne g' _ (by simp) (k.Lr g' hg')), k.Lr, ?_, k.Ls, k.bl.onlyP hP (fun g' hg' => hne g' _ (by simp) (k.Lb g' hg')), k.Lb⟩
  have h2 := k.sl
  rw [hv] at h2 ⊢
  exact h2.setAt s y
theorem GRep.newPool (h : GRep w L hb ⟨P, ob⟩ X) {q k c l v : Nat} {P' : Pl} (hp : RRep w q k c l P') (hn : ∀ j, v ≤ j → L j = none) (v1 : v ≤ q) (v2 : v ≤ k) (v3 : v ≤ c) (v4 : v ≤ l) :
    ∃ L' X', GRep (w.setCell ⟨hb, 1, none⟩ (.pointer (some ⟨q, 0, none⟩))) L' hb ⟨P', ob⟩ X' ∧ (∀ j, L' j ≠ none → L j ≠ none ∨ v ≤ j) := by
  obtain ⟨n1, n2, n3, n4, n5, n6⟩ := hp.ne
  obtain ⟨_, _, _, _, _, _, _, _, _, f1, f2, f3, f4⟩ := hp.facts
  obtain ⟨L', hL'⟩ : ∃ L' : Nat → Option Gb, L' = fun j => if j = q then some .pq else if j = k then some .pk else if j = c then some .pc else if j = l then some .pl else L j := ⟨_, rfl⟩
  have hno : ∀ j, L j ≠ none → ¬ v ≤ j := fun j hj e => hj (hn j e)
  have hlab : ∀ j, L j ≠ none → L' j = L j := fun j hj => by
    have := hno j hj
    rw [hL']
    simp only
    rw [if_neg (by omega), if_neg (by omega), if_neg (by omega), if_neg (by omega)]
  have hnew : ∀ j, L' j ≠ none → L j ≠ none ∨ (v ≤ j ∧ j < w.heap.size) := fun j hj => by
    rw [hL'] at hj
    simp only at hj
    by_cases e1 : j = q
    · rw [e1]; exact .inr ⟨v1, f1⟩
    · rw [if_neg e1] at hj
      by_cases e2 : j = k
      · rw [e2]; exact .inr ⟨v2, f2⟩
      · rw [if_neg e2] at hj
        by_cases e3 : j = c
        · rw [e3]; exact .inr ⟨v3, f3⟩
        · rw [if_neg e3] at hj
          by_cases e4 : j = l
          · rw [e4]; exact .inr ⟨v4, f4⟩
          · rw [if_neg e4] at hj; exact .inl hj
  have hP : OnlyP (fun j => j = hb) w (w.setCell ⟨hb, 1, none⟩ (.pointer (some ⟨q, 0, none⟩))) := (OnlyP.refl (fun j => j = hb) w).set (p := ⟨hb, 1, none⟩) (.inl rfl) _
  have hhb := hno hb (by rw [h.Lm]; simp)
  have hne : ∀ g ℓ, ℓ ≠ Gb.mem → L g = some ℓ → ¬ g = hb := fun g ℓ h1 h2 e => by rw [e, h.Lm] at h2; cases h2; exact h1 rfl
  obtain ⟨T1, m1⟩ := h.mem
  obtain ⟨T2, cs, m2, c2⟩ := h.ob
  refine ⟨L', { X with q := q, k := k, c := c, l := l }, ⟨fun j hj => ?_, ⟨T1, m1.set 1 _⟩, glab_of hlab h.Lm, hp.onlyP hP (by omega) (by omega) (by omega) (by omega), ?_, ?_, ?_, ?_, ⟨T2, cs, hP.row m2 (hne _ _ (by simp) h.Lo), c2⟩, glab_of hlab h.Lo, fun j t hj => ?_⟩, fun j hj => (hnew j hj).imp id (fun e => e.1)⟩
  · rcases hnew j hj with e | e
    · exact Nat.lt_of_lt_of_le (h.lt j e) hP.size
    · exact Nat.lt_of_lt_of_le e.2 hP.size
  · rw [hL']; simp
  · rw [hL']; simp [Ne.symm n1]
  · rw [hL']; simp [Ne.symm n2, Ne.symm n4]
  · rw [hL']; simp [Ne.symm n3, Ne.symm n5, Ne.symm n6]
  · have kt := h.th j t hj
    exact (GTh.mk (kt.rb.onlyP hP (fun g hg => hne g _ (by simp) (kt.Lr g hg))) kt.Lr (kt.sl.onlyP hP (fun g hg => hne g _ (by simp) (kt.Ls g hg))) kt.Ls (kt.bl.onlyP hP (fun g hg => hne g _ (by simp) (kt.Lb g hg))) kt.Lb).lab hlab
end
end Go.Proofs.Ythflghdaejbdkaa
namespace Go.Proofs.Ythflghdaejbdkaa
open Go.RowKit Go.Maps
set_option maxHeartbeats 6400000
set_option maxRecDepth 100000
set_option linter.unusedVariables false
section
variable {w0 : World} {L : Nat → Option Gb} {hb : Nat} {M : Hp} {X : GX}
theorem gmadeLay {wr : World} (h : GRep w0 L hb M X) (hk : M.Ok) {o : Th} (ho1 : o.ok1) (hz : ∀ s, gI o.slots s = 0) {rv sv bv : Value} {bs : List Int} {Q : Pl} {i : Nat} (hi : (i : Int) = (M.least : Int) + 1) (hl : M.least < 192)
    (hs : allocN M.P (needs o.slots.length) (needs o.slots.length).length = some (bs, Q)) (hO : OnlyP (fun k => L k ≠ none) w0 wr) (hG : GRep wr L hb ⟨Q, M.ob⟩ X) (hrv : Bls wr w0.heap.size rv o.refs) (hsv : Ints wr w0.heap.size sv o.slots) (hbv : Ints wr w0.heap.size bv bs)
    (d1 : ∀ g, rv.ownBlock = some g → sv.ownBlock ≠ some g ∧ bv.ownBlock ≠ some g) (d2 : ∀ g, sv.ownBlock = some g → bv.ownBlock ≠ some g) :
    Calls Try.prog 48 #[.pointer (some ⟨hb, 0, none⟩), .int .i64 i] (wr.setCells X.og (i * 5) [.int .i64 o.kind, .int .i64 o.cls, rv, sv, bv]).drew (fun e w' => e = .returned (.tuple #[]) ∧
      GDid w0 L hb (.tuple #[.int .i64 (M.add o).1, .int .i64 (M.add o).2.1]) (M.add o).2.2 (.returned (.tuple #[.int .i64 i, .int .i64 0])) w') := by
  have hi193 : i < 193 := by omega
  have hn : ∀ k, w0.heap.size ≤ k → L k = none := fun k hk => by
    cases e : L k with
    | none => rfl
    | some ℓ => have := h.lt k (by rw [e]; simp); omega
  have hO9 := hG.onlyObjs [.int .i64 o.kind, .int .i64 o.cls, rv, sv, bv] (i * 5)
  obtain ⟨L', X', q1, _, q3, q4⟩ := hG.setObj hi193 { o with blocks := bs } hrv hsv hbv hn d1 d2
  have hk2 := hk.add ho1 hz
  have hadd := add_some (o := o) hl hs
  rw [hadd] at hk2
  have ho2 : setT M.ob ((M.least : Int) + 1) (some { o with blocks := bs }) ((M.least : Int) + 1) = some { o with blocks := bs } := setT_same _ _ _
  have hlay := hk2.lay_add (o := { o with blocks := bs }) (M := M)
  rw [← hi] at hk2 ho2 hlay
  have hlo := hk2.layOk ho2
  have hQ : Q.ok := (allocN_spec hk.p (l := needs o.slots.length) (fun m hm => needs_isC _ hm) _ (Nat.le_refl _) bs Q hs).ok
  refine (glay_any _ q1.drew hQ hi193 ho2 hlo).mono ?_
  rintro e w' ⟨rfl, hg, ho⟩
  refine ⟨rfl, ?_⟩
  rw [hadd, ← hi]
  rw [hlay] at hg
  refine ⟨rfl, L', X', hg, q4, ((hO.trans hO9 (fun x hx => .inl (by rw [hx]; simp))).drew).trans ho (fun x hx => ?_)⟩
  exact q4 x (fun e => by rw [e] at hx; rcases hx with h | h | h | h <;> cases h)
theorem gmade_rep (w : World) (h : GRep w0 L hb M X) (hk : M.Ok) (hw : Only [] w0 w) (o : Th) (ho : o.ok1) (hz : ∀ s, gI o.slots s = 0) (rv sv : Value) (hrv : Bls w w0.heap.size rv o.refs) (hsv : Ints w w0.heap.size sv o.slots)
    (hd : ∀ g, rv.ownBlock = some g → sv.ownBlock ≠ some g) (a : Bool) (ha : a = false → o.slots.length ≤ 7) :
    Calls Try.prog 42 #[.pointer (some ⟨hb, 0, none⟩), .agg #[.int .i64 o.kind, .int .i64 o.cls, rv, sv, .slice none 0 0], .bool a] w
      (GDid w0 L hb (.tuple #[.int .i64 (M.add o).1, .int .i64 (M.add o).2.1]) (M.add o).2.2) := by
  refine calls_abs fun R hR => ?_
  obtain ⟨ra, rc, hra⟩ := hrv.len
  obtain ⟨sa, sc, hsa⟩ := hsv.len
  have hn48 := ho.le
  obtain ⟨rn, hrn⟩ : ∃ b, b = o.refs.length := ⟨_, rfl⟩
  obtain ⟨n, hn⟩ : ∃ b, b = o.slots.length := ⟨_, rfl⟩
  obtain ⟨kd, hkd⟩ : ∃ b, b = o.kind := ⟨_, rfl⟩
  obtain ⟨cl, hcl⟩ : ∃ b, b = o.cls := ⟨_, rfl⟩
  rw [← hrn] at hra
  rw [← hn] at hsa
  subst hra hsa
  rw [← hkd, ← hcl]
  have HRV := Lib.hid hrv
  have HSV := Lib.hid hsv
  have HD := Lib.hid hd
  have H := Lib.hid h
  have OK := Lib.hid hk
  have HW := Lib.hid hw
  have HN := Lib.hid hn
  have HKD := Lib.hid hkd
  have HCL := Lib.hid hcl
  have HO1K := Lib.hid ho
  have HZ := Lib.hid hz
  rw [← hn] at hn48 ha
  have HA := Lib.hid ha
  have HO1 : Hid (Only [] w0 (w.alloc (.cells #[.int .i64 kd, .int .i64 cl, .slice ra rn rc, .slice sa n sc, .slice none 0 0] 73))) := hw.alloc _
  have HROW : Hid (Row (w.alloc (.cells #[.int .i64 kd, .int .i64 cl, .slice ra rn rc, .slice sa n sc, .slice none 0 0] 73)) w.heap.size 73 [.int .i64 kd, .int .i64 cl, .slice ra rn rc, .slice sa n sc, .slice none 0 0]) := Row.new w _ [_, _, _, _, _]
  have HRV1 : Hid (Bls (w.alloc (.cells #[.int .i64 kd, .int .i64 cl, .slice ra rn rc, .slice sa n sc, .slice none 0 0] 73)) w0.heap.size (.slice ra rn rc) o.refs) := HRV.out.alloc _
  have HSV1 : Hid (Ints (w.alloc (.cells #[.int .i64 kd, .int .i64 cl, .slice ra rn rc, .slice sa n sc, .slice none 0 0] 73)) w0.heap.size (.slice sa n sc) o.slots) := HSV.out.alloc _
  have HRB : Hid (∀ g, (Value.slice ra rn rc).ownBlock = some g → w0.heap.size ≤ g ∧ g < w.heap.size) := fun g hg => HRV.out.own g hg
  have HSB : Hid (∀ g, (Value.slice sa n sc).ownBlock = some g → w0.heap.size ≤ g ∧ g < w.heap.size) := fun g hg => HSV.out.own g hg
  have HX : Hid (w0.heap.size ≤ w.heap.size) := hw.size
  have hsz1 : w.heap.size < (w.alloc (.cells #[.int .i64 kd, .int .i64 cl, .slice ra rn rc, .slice sa n sc, .slice none 0 0] 73)).heap.size := by simp
  clear h hk hw hrv hsv hd ho hz ha hn hkd hcl hrn
  go_enter Try.func42, Try.ntmps42
  go_wp2_with fail
  generalize (w.alloc (.cells #[.int .i64 kd, .int .i64 cl, .slice ra rn rc, .slice sa n sc, .slice none 0 0] 73)) = w1 at *
  obtain ⟨y, hy⟩ : ∃ b, b = w.heap.size := ⟨_, rfl⟩
  rw [← hy] at HROW HRB HSB HX hsz1 ⊢
  clear hy HRV HSV HW
  have HSZ1 := Lib.hid hsz1
  clear hsz1
  have HG1 := Lib.hid (H.out.only0 HO1.out)
  have c0 := HG1.out.cells.1
  obtain ⟨og, hog⟩ : ∃ z, z = X.og := ⟨_, rfl⟩
  rw [← hog] at c0
  have HOG := Lib.hid hog
  clear hog
  go_loopw [8] (fun iv wr => ∃ k : Nat, k ≤ 192 ∧ iv = .int .i64 ((k : Int) + 1) ∧ w1 = wr ∧ Hid (∀ j : Nat, j < k → M.ob ((j : Int) + 1) ≠ none)) (fun iv _ => 193 - (intOf iv).toNat)
  case atStart => exact ⟨0, by omega, rfl, rfl, fun j hj => by omega⟩
  case round =>
    obtain ⟨k, hk, rfl, rfl, HF⟩ := hrel
    by_cases hk1 : k < 192
    · have hlt1 : (k : Int) + 1 < 193 := by omega
      have hin := gin_rep w1 HG1.out (M := M) OK.out ((k : Int) + 1)
      cases hob : M.ob ((k : Int) + 1) with
      | some o' =>
        rw [hob] at hin
        replace hin : Calls Try.prog _ _ w1 (Exact w1 (.bool true)) := hin
        have HOB := Lib.hid hob
        clear hob
        obtain ⟨z, hz⟩ : ∃ z : Int, z = (k : Int) + 1 := ⟨_, rfl⟩
        have HZ := Lib.hid hz
        rw [← hz] at hlt1 hin ⊢
        have hz0 : 0 ≤ z := by omega
        clear hz
        go_wp2_with fail
        refine hin.mono ?_
        rintro e _ ⟨rfl, rfl⟩
        go_wp2_with fail
        refine ⟨⟨k + 1, by omega, by have := HZ.out; go_num, by trivial, fun j hj => ?_⟩, by have := HZ.out; simp [intOf]; omega⟩
        by_cases e : j = k
        · rw [e, HOB.out]; simp
        · exact HF.out j (by omega)
      | none =>
        rw [hob] at hin
        replace hin : Calls Try.prog _ _ w1 (Exact w1 (.bool false)) := hin
        have HOB := Lib.hid hob
        have HLE : Hid (True → M.least = k) := fun _ => least_step hk1 HF.out HOB.out
        have hge : decide ((193 : Int) ≤ (k : Int) + 1) = false := by simp; omega
        have HCOPY := Lib.hid (rcopy_rep w1 X.q X.k X.c X.l M.P HG1.out.pool)
        have c1 := HG1.out.cells.2.1
        obtain ⟨i, hi⟩ : ∃ z, z = k + 1 := ⟨_, rfl⟩
        have hii : ((k : Int) + 1) = (i : Int) := by omega
        have HII : Hid (True → (i : Int) = (M.least : Int) + 1) := fun _ => by rw [HLE.out trivial]; exact hii.symm
        have HLT : Hid (True → M.least < 192) := fun _ => by rw [HLE.out trivial]; exact hk1
        have hi193 : (i : Int) < 193 := by omega
        have hi0 : (0 : Int) ≤ (i : Int) := by omega
        rw [hii] at hge hlt1 hin ⊢
        clear hob HF hii hi hk1 HLE HOB hk
        go_wp2_with fail
        refine hin.mono ?_
        rintro e _ ⟨rfl, rfl⟩
        clear hin hlt1
        go_wp2_with fail
        refine HCOPY.out.mono ?_
        rintro e w2 ⟨q', k', c', l', rfl, hp2, ho2, u1, u2, u3, u4⟩
        have HO2 : Hid (Only [] w0 w2) := HO1.out.trans ho2 (by simp)
        have HROW2 := Lib.hid (ho2.row HROW.out (by simp))
        have d3 : w2.cell? ⟨y, 3, none⟩ = some (.slice sa n sc) := HROW2.out.cell 3 rfl
        obtain ⟨_, _, _, _, _, _, _, _, _, v1, v2, v3, v4⟩ := hp2.facts
        have HPB : Hid (y < q' ∧ y < k' ∧ y < c' ∧ y < l' ∧ q' < w2.heap.size ∧ k' < w2.heap.size ∧ c' < w2.heap.size ∧ l' < w2.heap.size) := by
          have := HSZ1.out
          refine ⟨?_, ?_, ?_, ?_, ?_, ?_, ?_, ?_⟩ <;> omega
        have HP2 := Lib.hid hp2
        have HRV2 := Lib.hid (HRV1.out.only ho2 (by simp))
        have HSV2 := Lib.hid (HSV1.out.only ho2 (by simp))
        have HNEED := Lib.hid (gneeds_any w2 n hn48 a HA.out)
        clear HCOPY HO1 HROW HRV1 HSV1 hp2 ho2 u1 u2 u3 u4 v1 v2 v3 v4 c0 c1 HG1
        go_wp2_with fail
        refine HNEED.out.mono ?_
        rintro e w3 ⟨v7, rfl, hsz7, ho3⟩
        have HO3 : Hid (Only [] w0 w3) := HO2.out.trans ho3 (by simp)
        have HROW3 := Lib.hid (ho3.row HROW2.out (by simp))
        have HP3 := Lib.hid (HP2.out.only ho3 (by simp) (by simp) (by simp) (by simp))
        have HRV3 := Lib.hid (HRV2.out.only ho3 (by simp))
        have HSV3 := Lib.hid (HSV2.out.only ho3 (by simp))
        obtain ⟨g, gc, hv7, hg1, hg2⟩ : ∃ g gc, v7 = .slice (some ⟨g, 0, none⟩) (needs n).length gc ∧ w2.heap.size ≤ g ∧ g < w3.heap.size := by
          rcases hsz7.form with ⟨_, e⟩ | ⟨g, sc, e1, e2, e3, e4, _⟩
          · have := needs_pos n; rw [e] at this; simp at this
          · exact ⟨g, sc, e1, e2, e3⟩
        subst hv7
        have hs1 := needs_pos n
        have hs7 := needs_le n hn48
        obtain ⟨sn, hsn⟩ : ∃ z, z = (needs n).length := ⟨_, rfl⟩
        have HSZ7 := Lib.hid hsz7
        rw [← hsn] at hs1 hs7 HSZ7 ⊢
        have HSN := Lib.hid hsn
        have HGB : Hid (w2.heap.size ≤ g ∧ g < w3.heap.size ∧ w2.heap.size ≤ w3.heap.size) := ⟨hg1, hg2, ho3.size⟩
        obtain ⟨b3, hb3⟩ : ∃ z, z = w3.heap.size := ⟨_, rfl⟩
        have HB3 := Lib.hid hb3
        clear HNEED hsn hsz7 ho3 HO2 HROW2 HP2 HRV2 HSV2 d3 hg1 hg2 hb3
        have HQ3 := Lib.hid (H.out.only0 HO3.out).pool
        have HNW : Hid (∀ z, w0.heap.size ≤ z → z ≠ X.k ∧ z ≠ X.c ∧ z ≠ X.l ∧ z ≠ X.q) := fun z hz => by
          have a1 := H.out.lt X.k (by rw [H.out.Lk]; simp)
          have a2 := H.out.lt X.c (by rw [H.out.Lc]; simp)
          have a3 := H.out.lt X.l (by rw [H.out.Ll]; simp)
          have a4 := H.out.lt X.q (by rw [H.out.Lq]; simp)
          refine ⟨?_, ?_, ?_, ?_⟩ <;> omega
        go_wp2_with fail
        go_loopw [11] (fun iv wr => ∃ (m : Nat) (bs : List Int) (Q : Pl) (bv : Value), m ≤ sn ∧ iv = .int .i64 m ∧ Hid (True → allocN M.P (needs n) m = some (bs, Q)) ∧ RRep wr X.q X.k X.c X.l Q ∧ Ints wr b3 bv bs ∧ Row wr y 73 [.int .i64 kd, .int .i64 cl, .slice ra rn rc, .slice sa n sc, bv] ∧ Only [X.k, X.c, X.l, y] w3 wr) (fun iv _ => sn - (intOf iv).toNat)
        case atStart => exact ⟨0, [], M.P, .slice none 0 0, by omega, rfl, fun _ => rfl, HQ3.out, Ints.nil _ _, HROW3.out, Only.refl _ _⟩
        case round =>
          clear HROW3 HQ3
          obtain ⟨m, bs, Q, bv, hm, rfl, HAN, hp, hbv, hrow, ho⟩ := hrel
          have hsp := allocN_spec OK.out.p (l := needs n) (fun m hm => needs_isC _ hm) m (by have := HSN.out; omega) bs Q (HAN.out trivial)
          have hbl := hsp.len
          obtain ⟨ba, bc, hbe⟩ := hbv.len
          rw [hbl] at hbe
          subst hbe
          have HQOK := Lib.hid hsp.ok
          have HBL := Lib.hid hbl
          have HP := Lib.hid hp
          have HBV := Lib.hid hbv
          have HROWK := Lib.hid hrow
          have HO := Lib.hid ho
          have hO0 : OnlyP (fun k => PoolL (L k)) w0 wr := (HO3.out.toP0).trans (ho.toP (S := fun k => k = X.k ∨ k = X.c ∨ k = X.l ∨ k = y) (fun x hx => .inl (by simpa using hx))) (fun x hx => by
            rcases hx with rfl | rfl | rfl | rfl
            · exact .inl (.inr (.inl H.out.Lk))
            · exact .inl (.inr (.inr (.inl H.out.Lc)))
            · exact .inl (.inr (.inr (.inr H.out.Ll)))
            · exact .inr HX.out)
          have HGR : Hid (GRep wr L hb ⟨Q, M.ob⟩ X) := GRep.poolTurnP (P := M.P) (ob := M.ob) H.out hO0 hp
          have HOP : Hid (OnlyP (fun k => L k ≠ none) w0 wr) := hO0.mono (fun x hx => .inl (fun e => by rw [e] at hx; rcases hx with h | h | h | h <;> cases h))
          clear hp hbv hrow ho hbl hsp hO0
          by_cases hlt : m < sn
          · have hlt1 : (m : Int) < sn := by omega
            have hm0 : (0 : Int) ≤ m := by omega
            have hcs : wr.drew.cell? ⟨g, m, none⟩ = some (.int .i64 (gI (needs n) m)) := by
              rcases (HSZ7.out.only HO.out (fun g' hg' => by
                cases hg'
                have := HNW.out g (by have := HX.out; have := HPB.out; have := HGB.out; omega)
                have := HPB.out; have := HGB.out
                simp; omega)).form with ⟨e, _⟩ | ⟨g', c', e1, _, _, _, h5⟩
              · cases e
              · cases e1; exact h5 m (by have := HSN.out; omega)
            have e1 : wr.drew.cell? ⟨hb, 1, none⟩ = some (.pointer (some ⟨X.q, 0, none⟩)) := HGR.out.cells.2.1
            have HAL := Lib.hid (ralloc_rep wr.drew X.q X.k X.c X.l Q (HP.out.only ((Only.refl [] wr).drew) (by simp) (by simp) (by simp) (by simp)) HQOK.out (gI (needs n) m))
            obtain ⟨c, hc⟩ : ∃ z, z = gI (needs n) m := ⟨_, rfl⟩
            rw [← hc] at hcs HAL
            obtain ⟨r, hr⟩ : ∃ z, z = Q.alloc c := ⟨_, rfl⟩
            rw [← hr] at HAL
            have HR := Lib.hid hr
            have HC := Lib.hid hc
            obtain ⟨a1, er, Q1⟩ := r
            have n1 : hb ∉ [X.k, X.c, X.l] := GRep.notP (P := M.P) (ob := M.ob) H.out H.out.Lm (by simp) (by simp) (by simp) (by simp)
            have ng : g ∉ [X.k, X.c, X.l] := by
              have := HNW.out g (by have := HX.out; have := HPB.out; have := HGB.out; omega)
              simp; omega
            clear hr hc
            go_wp2_with fail
            go_region_held3 (fun w' => w'.cell? ⟨hb, 1, none⟩ = some (.pointer (some ⟨X.q, 0, none⟩)) ∧ w'.cell? ⟨g, m, none⟩ = some (.int .i64 c))
              (first | (exact ⟨e1, hcs⟩) | (exact ⟨ho7.cell e1 n1, ho7.cell hcs ng⟩))
              (first
                | (go_at_call 68; refine HAL.out.mono ?_; rintro e w5 ⟨rfl, hp7, ho7⟩))
            have HP5 : Hid (RRep w5 X.q X.k X.c X.l Q1) := hp7
            have hO57 : Only [X.k, X.c, X.l, y] w3 w5 := HO.out.drew.trans ho7 (fun x hx => .inl (by simp at hx; rcases hx with h | h | h <;> simp [h]))
            have HO5 := Lib.hid hO57
            have hyn := HNW.out y HX.out
            have HROW5 : Hid (Row w5 y 73 [.int .i64 kd, .int .i64 cl, .slice ra rn rc, .slice sa n sc, .slice ba m bc]) := ho7.row (show Row wr.drew y _ _ from HROWK.out) (by simp; omega)
            have HBV5 : Hid (Ints w5 b3 (.slice ba m bc) bs) := (show Ints wr.drew b3 (.slice ba m bc) bs from HBV.out).only ho7 (fun g' hg' => by
              have h1 := (HBV.out.own g' hg').1
              have h2 := HNW.out g' (by have := HB3.out; have := HX.out; have := HPB.out; have := HGB.out; omega)
              simp; omega)
            have HGR5 : Hid (GRep w5 L hb ⟨Q1, M.ob⟩ X) := HGR.out.drew.poolTurn ho7 hp7
            have HOP5 : Hid (OnlyP (fun k => L k ≠ none) w0 w5) := HOP.out.drew.trans (HGR.out.drew.only4 ho7) (fun x hx => .inl (fun e => by rw [e] at hx; rcases hx with h | h | h | h <;> cases h))
            have HP5W : Hid (RRep w5 q' k' c' l' M.P) := (HP3.out.only hO57 (by
                have := HNW.out q' (by have := HX.out; have := HPB.out; omega); have := HPB.out; simp; omega) (by
                have := HNW.out k' (by have := HX.out; have := HPB.out; omega); have := HPB.out; simp; omega) (by
                have := HNW.out c' (by have := HX.out; have := HPB.out; omega); have := HPB.out; simp; omega) (by
                have := HNW.out l' (by have := HX.out; have := HPB.out; omega); have := HPB.out; simp; omega))
            clear HAL hp7 ho7 hO57 hcs e1 n1 ng HROWK HBV HO HP HGR HOP
            by_cases he : er = 0
            · subst he
              have c4 : w5.cell? ⟨y, 4, none⟩ = _ := HROW5.out.cell 4 rfl
              clear hyn
              go_wp2_with (at_builtin; refine append_int1 rfl _ _ rfl b3 _ _ rfl (HBV5.out.alloc _) w5.heap.size a1 rfl ?c1 ?c2 ?c3 ?c4)
              case c1 => exact (Row.new w5 _ [_]).cell 0 rfl
              case c2 => have := HBL.out; omega
              case c3 => have := HO5.out.size; have := HB3.out; simp; omega
              case c4 =>
                intro v' w6 hv6 ho6 hb6
                obtain ⟨va', vc', hve⟩ := hv6.len
                obtain ⟨nb, hnb⟩ : ∃ z, z = (bs ++ [a1]).length := ⟨_, rfl⟩
                rw [← hnb] at hve
                subst hve
                clear hnb hb6
                have hown : ∀ x ∈ (Value.slice ba m bc).ownBlock.toList, b3 ≤ x := fun x hx => (HBV5.out.own x (by simpa using hx)).1
                have hyb : y < b3 := by have := HB3.out; have := HPB.out; have := HGB.out; omega
                have hnw : ∀ x, x = X.k ∨ x = X.c ∨ x = X.l ∨ x = X.q → x < b3 := fun x hx => by
                  have hw0 : w0.heap.size ≤ b3 := by have := HX.out; omega
                  rcases hx with rfl | rfl | rfl | rfl
                  · have := H.out.lt X.k (by rw [H.out.Lk]; simp); omega
                  · have := H.out.lt X.c (by rw [H.out.Lc]; simp); omega
                  · have := H.out.lt X.l (by rw [H.out.Ll]; simp); omega
                  · have := H.out.lt X.q (by rw [H.out.Lq]; simp); omega
                have hr6 := ho6.row (HROW5.out.alloc (.cells #[.int .i64 a1] 3)) (fun hx => by have := hown _ hx; omega)
                have f6 := hr6.free 4
                have c6 : w6.cell? ⟨y, 4, none⟩ = _ := hr6.cell 4 rfl
                have hno : ∀ x, x = X.k ∨ x = X.c ∨ x = X.l ∨ x = X.q → x ∉ (Value.slice ba m bc).ownBlock.toList := fun x hx hm' => by have := hown _ hm'; have := hnw x hx; omega
                have hney : ∀ x, x = X.k ∨ x = X.c ∨ x = X.l ∨ x = X.q → x ∉ [y] := fun x hx => by
                  have h1 := HNW.out y HX.out
                  rcases hx with rfl | rfl | rfl | rfl <;> (simp; omega)
                have HP7 : Hid (RRep (w6.setCell ⟨y, 4, none⟩ (.slice va' nb vc')) X.q X.k X.c X.l Q1) :=
                  (((HP5.out.only ((Only.refl [] w5).alloc (.cells #[.int .i64 a1] 3)) (by simp) (by simp) (by simp) (by simp)).only ho6 (hno _ (by simp)) (hno _ (by simp)) (hno _ (by simp)) (hno _ (by simp))).only ((Only.refl [y] w6).set (p := ⟨y, 4, none⟩) (.inl (by simp)) (.slice va' nb vc')) (hney _ (by simp)) (hney _ (by simp)) (hney _ (by simp)) (hney _ (by simp)))
                have HV7 : Hid (Ints (w6.setCell ⟨y, 4, none⟩ (.slice va' nb vc')) b3 (.slice va' nb vc') (bs ++ [a1])) := hv6.only ((Only.refl [y] w6).set (p := ⟨y, 4, none⟩) (.inl (by simp)) (.slice va' nb vc')) (fun g' hg' => by have := (hv6.own g' hg').1; simp; omega)
                have HROW7 : Hid (Row (w6.setCell ⟨y, 4, none⟩ (.slice va' nb vc')) y 73 [.int .i64 kd, .int .i64 cl, .slice ra rn rc, .slice sa n sc, (.slice va' nb vc')]) := hr6.set 4 (.slice va' nb vc')
                have HO7 : Hid (Only [X.k, X.c, X.l, y] w3 (w6.setCell ⟨y, 4, none⟩ (.slice va' nb vc'))) := ((HO5.out.alloc _).trans ho6 (fun x hx => .inr (by have := hown _ hx; have := HB3.out; omega))).set (.inl (by simp)) _
                have HAN7 : Hid (True → allocN M.P (needs n) (m + 1) = some (bs ++ [a1], Q1)) := fun _ => by
                  rw [allocN_succ (HAN.out trivial), ← HC.out, ← HR.out]
                  rfl
                clear hv6 ho6 hown hyb hnw hr6 hno hney HP5 HO5 HROW5 HBV5 c4 HAN HGR5 HOP5 HP5W
                go_wp2_with fail
                exact ⟨⟨m + 1, bs ++ [a1], Q1, (.slice va' nb vc'), by omega, by go_num, HAN7, HP7.out, HV7.out, HROW7.out, HO7.out⟩, by simp [intOf]; omega⟩
            · have HADD : Hid (True → M.add o = (0, 14, M)) := fun _ => add_none (k := m + 1) (by rw [← HN.out, ← HSN.out]; omega) (by
                rw [← HN.out, allocN_succ (HAN.out trivial), ← HC.out, ← HR.out]
                show (if er = 0 then _ else _) = _
                rw [if_neg he])
              have hl0 : ∀ k, w0.heap.size ≤ k → L k = none := fun k hk => by
                cases e : L k with
                | none => rfl
                | some ℓ => have := H.out.lt k (by rw [e]; simp); omega
              obtain ⟨L9, X9, q1, q2⟩ := HGR5.out.newPool HP5W.out hl0 (by have := HX.out; have := HPB.out; omega) (by have := HX.out; have := HPB.out; omega) (by have := HX.out; have := HPB.out; omega) (by have := HX.out; have := HPB.out; omega)
              have HDN : Hid (GDid w0 L hb (.tuple #[.int .i64 0, .int .i64 14]) M (.returned (.tuple #[.int .i64 0, .int .i64 14])) (w5.setCell ⟨hb, 1, none⟩ (.pointer (some ⟨q', 0, none⟩)))) :=
                GDid.of (HOP5.out.set (p := ⟨hb, 1, none⟩) (.inl (by show L hb ≠ none; rw [H.out.Lm]; simp)) _) q1 q2
              have e1 : w5.cell? ⟨hb, 1, none⟩ = some (.pointer (some ⟨X.q, 0, none⟩)) := HGR5.out.cells.2.1
              have ef := HGR5.out.cells.2.2.1 1
              clear hl0 q1 q2 hyn
              go_wp2_with fail
              refine hR.out _ _ ?_
              rw [HADD.out trivial]
              exact HDN.out
          · obtain rfl : m = sn := by omega
            have hlt1 : ¬ (m : Int) < (m : Int) := by omega
            obtain ⟨og0, hog0⟩ : ∃ z, z = X.og := ⟨_, rfl⟩
            have e0 : wr.cell? ⟨hb, 0, none⟩ = some (.slice (some ⟨og, 0, none⟩) 193 X.oc) := by rw [HOG.out]; exact HGR.out.cells.1
            have ef : ∀ j, wr.frozen? ⟨og, j, none⟩ = false := by rw [HOG.out]; exact HGR.out.cells.2.2.2
            have hiN : i < 193 := by omega
            have hob : M.ob (i : Int) = none := by rw [HII.out trivial]; exact M.least_spec (HLT.out trivial)
            have o0 := HGR.out.obj hiN (j := 0) (by omega)
            have o1 := HGR.out.obj hiN (j := 1) (by omega)
            have o2 := HGR.out.obj hiN (j := 2) (by omega)
            have o3 := HGR.out.obj hiN (j := 3) (by omega)
            have o4 := HGR.out.obj hiN (j := 4) (by omega)
            rw [show (⟨Q, M.ob⟩ : Hp).ob (i : Int) = none from hob, ← HOG.out] at o0 o1 o2 o3 o4
            replace o0 : wr.cell? ⟨og, i * 5, none⟩ = some (.int .i64 0) := o0
            replace o1 : wr.cell? ⟨og, i * 5 + 1, none⟩ = some (.int .i64 0) := o1
            replace o2 : wr.cell? ⟨og, i * 5 + 2, none⟩ = some (.slice none 0 0) := o2
            replace o3 : wr.cell? ⟨og, i * 5 + 3, none⟩ = some (.slice none 0 0) := o3
            replace o4 : wr.cell? ⟨og, i * 5 + 4, none⟩ = some (.slice none 0 0) := o4
            have f0 := ef (i * 5)
            have f1 := ef (i * 5 + 1)
            have f2 := ef (i * 5 + 2)
            have f3 := ef (i * 5 + 3)
            have f4 := ef (i * 5 + 4)
            have y0 : wr.cell? ⟨y, 0, none⟩ = _ := HROWK.out.cell 0 rfl
            have y1 : wr.cell? ⟨y, 1, none⟩ = _ := HROWK.out.cell 1 rfl
            have y2 : wr.cell? ⟨y, 2, none⟩ = _ := HROWK.out.cell 2 rfl
            have y3 : wr.cell? ⟨y, 3, none⟩ = _ := HROWK.out.cell 3 rfl
            have y4 : wr.cell? ⟨y, 4, none⟩ = _ := HROWK.out.cell 4 rfl
            have hyn := HNW.out y HX.out
            have hyb : y < b3 := by have := HB3.out; have := HPB.out; have := HGB.out; omega
            have hNl : ∀ g', (w0.heap.size ≤ g' ∧ g' < y) → g' ∉ [X.k, X.c, X.l, y] := fun g' hg' => by
              have := HNW.out g' hg'.1
              simp; omega
            have HLAY := Lib.hid (gmadeLay (o := o) (rv := .slice ra rn rc) (sv := .slice sa n sc) (bv := .slice ba m bc) (i := i) H.out OK.out HO1K.out HZ.out (HII.out trivial) (HLT.out trivial) (bs := bs) (Q := Q) (by have := HAN.out trivial; rw [← HN.out, ← HSN.out]; exact this) HOP.out HGR.out
              (HRV3.out.only HO.out (fun g' hg' => hNl g' (HRB.out g' hg'))) (HSV3.out.only HO.out (fun g' hg' => hNl g' (HSB.out g' hg'))) (HBV.out.base (by have := HX.out; omega))
              (fun g' hg' => ⟨HD.out g' hg', fun e => by have := (HBV.out.own g' e).1; have := (HRB.out g' hg').2; omega⟩) (fun g' hg' e => by have := (HBV.out.own g' e).1; have := (HSB.out g' hg').2; omega))
            rw [← HOG.out, ← HKD.out, ← HCL.out] at HLAY
            clear hyn hyb hNl hob ef hog0
            go_wp2_with fail
            go_region
            go_wp2_with fail
            refine HLAY.out.mono ?_
            rintro e w9 ⟨rfl, hdid⟩
            have HDID := Lib.hid hdid
            clear hdid
            go_wp2_with fail
            exact hR.out _ _ HDID.out
    · have hlt1 : ¬ (k : Int) + 1 < 193 := by omega
      have hge : (193 : Int) ≤ (k : Int) + 1 := by omega
      have HADD : Hid (M.add o = (0, 14, M)) := add_full (least_full (fun j hj => HF.out j (by omega)))
      obtain ⟨z, hz⟩ : ∃ z : Int, z = (k : Int) + 1 := ⟨_, rfl⟩
      rw [← hz] at hlt1 hge ⊢
      clear hz hk1
      go_wp2_with fail
      refine hR.out _ _ ?_
      rw [HADD.out]
      exact GDid.none0 H.out HO1.out
end
end Go.Proofs.Ythflghdaejbdkaa
