/- Contracts of the reference's heap: Alike. -/
import Derived.Test.YtcdeikbehpepjaaRObjQ
namespace Go.Proofs.Ytcdeikbehpepjaa
open Go.RowKit Go.Maps
set_option maxHeartbeats 12800000
set_option maxRecDepth 100000
set_option linter.unusedVariables false
def oK (o : Option Th) : Int := match o with | none => 0 | some o => o.kind
def oC (o : Option Th) : Int := match o with | none => 0 | some o => o.cls
def oR (o : Option Th) : List Bool := match o with | none => [] | some o => o.refs
def oS (o : Option Th) : List Int := match o with | none => [] | some o => o.slots
def oB (o : Option Th) : List Int := match o with | none => [] | some o => o.blocks
structure AlikeO (o o2 : Option Th) : Prop where
  k : oK o = oK o2
  c : oC o = oC o2
  l : (oS o).length = (oS o2).length
  s : ∀ s, s < (oS o).length → gI (oS o) s = gI (oS o2) s ∧ gB (oR o) s = gB (oR o2) s
/-- An object of the row, or zero. -/
structure GObj (w : World) (og i : Nat) (o : Option Th) (ra : Option Addr) (rc : Nat) (sa : Option Addr) (sc : Nat) (ba : Option Addr) (bc : Nat) : Prop where
  c0 : w.cell? ⟨og, i * 5, none⟩ = some (.int .i64 (oK o))
  c1 : w.cell? ⟨og, i * 5 + 1, none⟩ = some (.int .i64 (oC o))
  c2 : w.cell? ⟨og, i * 5 + 2, none⟩ = some (.slice ra (oR o).length rc)
  c3 : w.cell? ⟨og, i * 5 + 3, none⟩ = some (.slice sa (oS o).length sc)
  c4 : w.cell? ⟨og, i * 5 + 4, none⟩ = some (.slice ba (oB o).length bc)
  r : Bls w 0 (.slice ra (oR o).length rc) (oR o)
  s : Ints w 0 (.slice sa (oS o).length sc) (oS o)
section
variable {L L2 : Nat → Option Gb} {hb hb2 : Nat} {M M2 : Hp} {X X2 : GX}
theorem GRep.objAny {w : World} (h : GRep w L hb M X) {i : Nat} (hi : i < 193) : ∃ ra rc sa sc ba bc, GObj w X.og i (M.ob i) ra rc sa sc ba bc := by
  cases ho : M.ob (i : Int) with
  | none =>
    have o0 := h.obj hi (j := 0) (by omega)
    have o1 := h.obj hi (j := 1) (by omega)
    have o2 := h.obj hi (j := 2) (by omega)
    have o3 := h.obj hi (j := 3) (by omega)
    have o4 := h.obj hi (j := 4) (by omega)
    rw [ho] at o0 o1 o2 o3 o4
    exact ⟨none, 0, none, 0, none, 0, o0, o1, o2, o3, o4, Bls.nil _ _, Ints.nil _ _⟩
  | some o =>
    obtain ⟨o0, o1, o2, o3, o4⟩ := h.objSome hi ho
    have th := h.th (i : Int) o ho
    obtain ⟨ra, rc, re⟩ := th.rb.len
    obtain ⟨sa, sc, se⟩ := th.sl.len
    obtain ⟨ba, bc, be⟩ := th.bl.len
    have h1 := th.rb
    have h2 := th.sl
    rw [re] at o2 h1
    rw [se] at o3 h2
    rw [be] at o4
    exact ⟨ra, rc, sa, sc, ba, bc, o0, o1, o2, o3, o4, h1, h2⟩
theorem two_objs (w : World) (T : Nat) (a b : List Value) : Row ((w.alloc (.cells a.toArray T)).alloc (.cells b.toArray T)).drew w.heap.size T a ∧ Row ((w.alloc (.cells a.toArray T)).alloc (.cells b.toArray T)).drew (w.heap.size + 1) T b ∧ Only [] w ((w.alloc (.cells a.toArray T)).alloc (.cells b.toArray T)).drew := by
  have h2 := Row.new (w.alloc (.cells a.toArray T)) T b
  rw [World.size_alloc] at h2
  exact ⟨((Row.new w T a).alloc _).drew, h2.drew, (((Only.refl _ _).alloc _).alloc _).drew⟩
theorem galike_none (w : World) (a a2 : Option Addr) (n1 n2 : Bool) (h1 : ∀ wx, Only [] w wx → Calls Try.prog 59 #[.pointer a] wx (Exact wx (.bool n1))) (h2 : ∀ wx, Only [] w wx → Calls Try.prog 59 #[.pointer a2] wx (Exact wx (.bool n2))) (hn : (n1 && n2) = false) :
    Calls Try.prog 38 #[.pointer a, .pointer a2] w (Exact w (.bool (!n1 && !n2))) := by
  refine calls_abs fun R hR => ?_
  have c1 := h1 w (Only.refl _ _)
  have c2 := h2 w (Only.refl _ _)
  clear h1 h2
  cases n1 with
  | false =>
    clear hn
    go_enter Try.func38, Try.ntmps38
    go_wp2_with fail
    refine c1.mono ?_
    rintro e _ ⟨rfl, rfl⟩
    go_wp2_with fail
    refine c1.mono ?_
    rintro e _ ⟨rfl, rfl⟩
    go_wp2_with fail
    refine c2.mono ?_
    rintro e _ ⟨rfl, rfl⟩
    go_wp2_with fail
    exact hR.out _ _ ⟨rfl, rfl⟩
  | true =>
    obtain rfl : n2 = false := by simpa using hn
    go_enter Try.func38, Try.ntmps38
    go_wp2_with fail
    refine c1.mono ?_
    rintro e _ ⟨rfl, rfl⟩
    go_wp2_with fail
    refine c2.mono ?_
    rintro e _ ⟨rfl, rfl⟩
    go_wp2_with fail
    refine c1.mono ?_
    rintro e _ ⟨rfl, rfl⟩
    go_wp2_with fail
    exact hR.out _ _ ⟨rfl, rfl⟩
theorem oR_len {M : Hp} (hk : M.Ok) (x : Int) : (oR (M.ob x)).length = (oS (M.ob x)).length := by
  cases ho : M.ob x with
  | none => rfl
  | some o => exact (hk.th x o ho).rl
theorem oS_len {M : Hp} (hk : M.Ok) (x : Int) : (oS (M.ob x)).length ≤ 48 := by
  cases ho : M.ob x with
  | none => simp [oS]
  | some o => exact (hk.th x o ho).le
theorem galike_rep (w : World) (h : GRep w L hb M X) (h2 : GRep w L2 hb2 M2 X2) (hk : M.Ok) (hk2 : M2.Ok) :
    Calls Try.prog 38 #[.pointer (some ⟨hb, 0, none⟩), .pointer (some ⟨hb2, 0, none⟩)] w fun e w' =>
      ∃ r, e = .returned (.bool r) ∧ (r = true ↔ ∀ i : Nat, 1 ≤ i → i < 193 → AlikeO (M.ob i) (M2.ob i)) ∧ Only [] w w' := by
  refine calls_abs fun R hR => ?_
  have c1 := gthere_rep w h
  have c2 := gthere_rep w h2
  have H := Lib.hid h
  have H2 := Lib.hid h2
  have HK := Lib.hid hk
  have HK2 := Lib.hid hk2
  clear h h2 hk hk2
  go_enter Try.func38, Try.ntmps38
  go_wp2_with fail
  refine c1.mono ?_
  rintro e _ ⟨rfl, rfl⟩
  go_wp2_with fail
  refine c2.mono ?_
  rintro e _ ⟨rfl, rfl⟩
  clear c1 c2
  go_wp2_with fail
  obtain ⟨og, hog⟩ : ∃ z, z = X.og := ⟨_, rfl⟩
  obtain ⟨og2, hog2⟩ : ∃ z, z = X2.og := ⟨_, rfl⟩
  have HOG := Lib.hid hog
  have HOG2 := Lib.hid hog2
  clear hog hog2
  go_loopw [5] (fun iv wr => ∃ k : Nat, k ≤ 192 ∧ iv = .int .i64 ((k : Int) + 1) ∧ Only [] w wr ∧ Hid (∀ j : Nat, 1 ≤ j → j < k + 1 → AlikeO (M.ob j) (M2.ob j))) (fun iv _ => 193 - (intOf iv).toNat)
  case atStart => exact ⟨0, by omega, rfl, Only.refl _ _, fun j h1 h2 => by omega⟩
  case round =>
    obtain ⟨k, hk, rfl, ho, HF⟩ := hrel
    have HO := Lib.hid ho
    have HG := Lib.hid (H.out.only0 ho)
    have HG2 := Lib.hid (H2.out.only0 ho)
    clear ho
    have a0 := HG.out.cells.1
    have b0 := HG2.out.cells.1
    rw [← HOG.out] at a0
    rw [← HOG2.out] at b0
    by_cases hlt : k < 192
    · obtain ⟨i, hi⟩ : ∃ z : Nat, z = k + 1 := ⟨_, rfl⟩
      have hii : ((k : Int) + 1) = (i : Int) := by omega
      have hi1 : (i : Int) < 193 := by omega
      have hi0 : (0 : Int) ≤ i := by omega
      have HI : Hid (i = k + 1) := hi
      have hiN : i < 193 := by omega
      obtain ⟨ra, rc, sa, sc, ba, bc, g1⟩ := HG.out.objAny hiN
      obtain ⟨ra2, rc2, sa2, sc2, ba2, bc2, g2⟩ := HG2.out.objAny hiN
      rw [← HOG.out] at g1
      rw [← HOG2.out] at g2
      obtain ⟨x0, x1, x2, x3, x4, hr1, hs1⟩ := g1
      obtain ⟨z0, z1, z2, z3, z4, hr2, hs2⟩ := g2
      have HR1 := Lib.hid hr1
      have HS1 := Lib.hid hs1
      have HR2 := Lib.hid hr2
      have HS2 := Lib.hid hs2
      rw [hii]
      obtain ⟨o, hoo⟩ : ∃ z, z = M.ob (i : Int) := ⟨_, rfl⟩
      obtain ⟨o2, hoo2⟩ : ∃ z, z = M2.ob (i : Int) := ⟨_, rfl⟩
      have HOO := Lib.hid hoo
      have HOO2 := Lib.hid hoo2
      rw [← hoo] at x0 x1 x2 x3 x4 HR1 HS1
      rw [← hoo2] at z0 z1 z2 z3 z4 HR2 HS2
      obtain ⟨kd, e1⟩ : ∃ z, z = oK o := ⟨_, rfl⟩
      obtain ⟨kd2, e2⟩ : ∃ z, z = oK o2 := ⟨_, rfl⟩
      obtain ⟨cl, e3⟩ : ∃ z, z = oC o := ⟨_, rfl⟩
      obtain ⟨cl2, e4⟩ : ∃ z, z = oC o2 := ⟨_, rfl⟩
      obtain ⟨n, e5⟩ : ∃ z, z = (oS o).length := ⟨_, rfl⟩
      obtain ⟨n2, e6⟩ : ∃ z, z = (oS o2).length := ⟨_, rfl⟩
      rw [← e1] at x0
      rw [← e2] at z0
      rw [← e3] at x1
      rw [← e4] at z1
      rw [← e5] at x3 HS1
      rw [← e6] at z3 HS2
      have E1 := Lib.hid e1
      have E2 := Lib.hid e2
      have E3 := Lib.hid e3
      have E4 := Lib.hid e4
      have E5 := Lib.hid e5
      have E6 := Lib.hid e6
      obtain ⟨rn, e7⟩ : ∃ z, z = (oR o).length := ⟨_, rfl⟩
      obtain ⟨rn2, e8⟩ : ∃ z, z = (oR o2).length := ⟨_, rfl⟩
      obtain ⟨bn, e9⟩ : ∃ z, z = (oB o).length := ⟨_, rfl⟩
      obtain ⟨bn2, e10⟩ : ∃ z, z = (oB o2).length := ⟨_, rfl⟩
      rw [← e7] at x2 HR1
      rw [← e8] at z2 HR2
      rw [← e9] at x4
      rw [← e10] at z4
      have E7 := Lib.hid e7
      have E8 := Lib.hid e8
      have HRS : Hid (rn = n ∧ rn2 = n2 ∧ n ≤ 48) := by
        have q1 := oR_len HK.out (i : Int)
        have q2 := oR_len HK2.out (i : Int)
        have q3 := oS_len HK.out (i : Int)
        rw [← hoo] at q1 q3
        rw [← hoo2] at q2
        exact ⟨by omega, by omega, by omega⟩
      clear hi hii hr1 hs1 hr2 hs2 hoo hoo2 e1 e2 e3 e4 e5 e6 e7 e8 e9 e10
      go_upto_region 6 with fail
      go_cut [6, 7, 34, 35, 36, 37, 38, 39, 40, 41, 42, 43, 44, 45, 46, 47] (fun s6 s7 _ _ _ _ _ _ _ _ _ _ _ _ _ _ wx => ∃ y1 y2, s6 = .pointer (some ⟨y1, 0, none⟩) ∧ s7 = .pointer (some ⟨y2, 0, none⟩) ∧ Row wx y1 81 [.int .i64 kd, .int .i64 cl, .slice ra rn rc, .slice sa n sc, .slice ba bn bc] ∧ Row wx y2 81 [.int .i64 kd2, .int .i64 cl2, .slice ra2 rn2 rc2, .slice sa2 n2 sc2, .slice ba2 bn2 bc2] ∧ Only [] wr wx)
      case first =>
        have HS : Hid (∀ w', Only [] wr w' → w'.cell? ⟨hb, 0, none⟩ = some (.slice (some ⟨og, 0, none⟩) 193 X.oc) ∧ w'.cell? ⟨hb2, 0, none⟩ = some (.slice (some ⟨og2, 0, none⟩) 193 X2.oc) ∧ w'.cell? ⟨og, i * 5, none⟩ = some (.int .i64 kd) ∧ w'.cell? ⟨og, i * 5 + 1, none⟩ = some (.int .i64 cl) ∧ w'.cell? ⟨og, i * 5 + 2, none⟩ = some (.slice ra rn rc) ∧ w'.cell? ⟨og, i * 5 + 3, none⟩ = some (.slice sa n sc) ∧ w'.cell? ⟨og, i * 5 + 4, none⟩ = some (.slice ba bn bc) ∧ w'.cell? ⟨og2, i * 5, none⟩ = some (.int .i64 kd2) ∧ w'.cell? ⟨og2, i * 5 + 1, none⟩ = some (.int .i64 cl2) ∧ w'.cell? ⟨og2, i * 5 + 2, none⟩ = some (.slice ra2 rn2 rc2) ∧ w'.cell? ⟨og2, i * 5 + 3, none⟩ = some (.slice sa2 n2 sc2) ∧ w'.cell? ⟨og2, i * 5 + 4, none⟩ = some (.slice ba2 bn2 bc2)) := fun w' ho => ⟨ho.cellN a0, ho.cellN b0, ho.cellN x0, ho.cellN x1, ho.cellN x2, ho.cellN x3, ho.cellN x4, ho.cellN z0, ho.cellN z1, ho.cellN z2, ho.cellN z3, ho.cellN z4⟩
        go_region_held3 (fun w' => w'.cell? ⟨hb, 0, none⟩ = some (.slice (some ⟨og, 0, none⟩) 193 X.oc) ∧ w'.cell? ⟨hb2, 0, none⟩ = some (.slice (some ⟨og2, 0, none⟩) 193 X2.oc) ∧ w'.cell? ⟨og, i * 5, none⟩ = some (.int .i64 kd) ∧ w'.cell? ⟨og, i * 5 + 1, none⟩ = some (.int .i64 cl) ∧ w'.cell? ⟨og, i * 5 + 2, none⟩ = some (.slice ra rn rc) ∧ w'.cell? ⟨og, i * 5 + 3, none⟩ = some (.slice sa n sc) ∧ w'.cell? ⟨og, i * 5 + 4, none⟩ = some (.slice ba bn bc) ∧ w'.cell? ⟨og2, i * 5, none⟩ = some (.int .i64 kd2) ∧ w'.cell? ⟨og2, i * 5 + 1, none⟩ = some (.int .i64 cl2) ∧ w'.cell? ⟨og2, i * 5 + 2, none⟩ = some (.slice ra2 rn2 rc2) ∧ w'.cell? ⟨og2, i * 5 + 3, none⟩ = some (.slice sa2 n2 sc2) ∧ w'.cell? ⟨og2, i * 5 + 4, none⟩ = some (.slice ba2 bn2 bc2))
          ((refine HS.out _ ?_; repeat (first | exact Only.refl _ _ | refine Only.drew ?_ | refine Only.alloc ?_ _ | refine Only.set ?_ (.inr (by simp)) _ | refine Only.setCells ?_ (.inr (by simp)) _ _)))
          (fail)
        · have ht := two_objs wr 81 [.int .i64 kd, .int .i64 cl, .slice ra rn rc, .slice sa n sc, .slice ba bn bc] [.int .i64 kd2, .int .i64 cl2, .slice ra2 rn2 rc2, .slice sa2 n2 sc2, .slice ba2 bn2 bc2]
          go_wp2_with fail
          go_meet
          exact ⟨_, _, rfl, rfl, ht.1, ht.2.1, ht.2.2⟩
        · have ht := two_objs wr 81 [.int .i64 kd2, .int .i64 cl2, .slice ra2 rn2 rc2, .slice sa2 n2 sc2, .slice ba2 bn2 bc2] [.int .i64 kd, .int .i64 cl, .slice ra rn rc, .slice sa n sc, .slice ba bn bc]
          go_wp2_with fail
          go_meet
          exact ⟨_, _, rfl, rfl, ht.2.1, ht.1, ht.2.2⟩
      case rest =>
        obtain ⟨y1, y2, rfl, rfl, hy1, hy2, hoc⟩ := hcut
        have HY1 := Lib.hid hy1
        have HY2 := Lib.hid hy2
        have HOC := Lib.hid hoc
        have p0 := hy1.cell 0 rfl
        have p1 := hy1.cell 1 rfl
        have p3 := hy1.cell 3 rfl
        have r0 := hy2.cell 0 rfl
        have r1 := hy2.cell 1 rfl
        have r3 := hy2.cell 3 rfl
        have HNO : Hid (¬ AlikeO o o2 → ¬ ∀ i : Nat, 1 ≤ i → i < 193 → AlikeO (M.ob i) (M2.ob i)) := fun hn hall => hn (by rw [HOO.out, HOO2.out]; exact hall i (by have := HI.out; omega) hiN)
        have HOW : Hid (Only [] w wc) := HO.out.trans hoc (by simp)
        clear hy1 hy2 hoc a0 b0 x0 x1 x2 x3 x4 z0 z1 z2 z3 z4
        by_cases q1 : kd = kd2
        · subst q1
          by_cases q2 : cl = cl2
          · subst q2
            by_cases q3 : n = n2
            · subst q3
              go_wp2_with fail
              go_loopw [8] (fun iv wx => ∃ s m : Nat, s ≤ n ∧ iv = .int .i64 s ∧ wx = wc.drewN m ∧ Hid (∀ t, t < s → gI (oS o) t = gI (oS o2) t ∧ gB (oR o) t = gB (oR o2) t)) (fun iv _ => n - (intOf iv).toNat)
              case atStart => exact ⟨0, 0, by omega, rfl, rfl, fun t ht => by omega⟩
              case round =>
                obtain ⟨s, m, hs, rfl, rfl, HF2⟩ := hrel
                by_cases hsn : s < n
                · have hsn1 : (s : Int) < n := by omega
                  have hs0 : (0 : Int) ≤ s := by omega
                  have hrs := HRS.out
                  have hs48 : (s : Int) ≤ 48 := by omega
                  have hsr : (s : Int) < rn := by omega
                  have hsr2 : (s : Int) < rn2 := by omega
                  have p2 : wc.cell? ⟨y1, 2, none⟩ = _ := HY1.out.cell 2 rfl
                  have r2 : wc.cell? ⟨y2, 2, none⟩ = _ := HY2.out.cell 2 rfl
                  obtain ⟨g1, k1, hg1⟩ : ∃ g, sa = some ⟨g, 0, none⟩ ∧ wc.cell? ⟨g, s, none⟩ = some (.int .i64 (gI (oS o) s)) := by
                    rcases HS1.out.form with ⟨_, e⟩ | ⟨g, cap, e, _, _, _, hc⟩
                    · have := E5.out; rw [e] at this; simp at this; omega
                    · cases e; exact ⟨g, rfl, HOC.out.cellN (hc s (by have := E5.out; omega))⟩
                  obtain ⟨g2, k2, hg2⟩ : ∃ g, sa2 = some ⟨g, 0, none⟩ ∧ wc.cell? ⟨g, s, none⟩ = some (.int .i64 (gI (oS o2) s)) := by
                    rcases HS2.out.form with ⟨_, e⟩ | ⟨g, cap, e, _, _, _, hc⟩
                    · have := E6.out; rw [e] at this; simp at this; omega
                    · cases e; exact ⟨g, rfl, HOC.out.cellN (hc s (by have := E6.out; omega))⟩
                  obtain ⟨g3, k3, hg3⟩ : ∃ g, ra = some ⟨g, 0, none⟩ ∧ wc.cell? ⟨g, s, none⟩ = some (.bool (gB (oR o) s)) := by
                    rcases HR1.out.form with ⟨_, e⟩ | ⟨g, cap, e, _, _, _, hc⟩
                    · have := E7.out; rw [e] at this; simp at this; omega
                    · cases e; exact ⟨g, rfl, HOC.out.cellN (hc s (by have := E7.out; omega))⟩
                  obtain ⟨g4, k4, hg4⟩ : ∃ g, ra2 = some ⟨g, 0, none⟩ ∧ wc.cell? ⟨g, s, none⟩ = some (.bool (gB (oR o2) s)) := by
                    rcases HR2.out.form with ⟨_, e⟩ | ⟨g, cap, e, _, _, _, hc⟩
                    · have := E8.out; rw [e] at this; simp at this; omega
                    · cases e; exact ⟨g, rfl, HOC.out.cellN (hc s (by have := E8.out; omega))⟩
                  subst k1 k2 k3 k4
                  obtain ⟨v1, hv1⟩ : ∃ z, z = gI (oS o) s := ⟨_, rfl⟩
                  obtain ⟨v2, hv2⟩ : ∃ z, z = gI (oS o2) s := ⟨_, rfl⟩
                  obtain ⟨b1, hb1⟩ : ∃ z, z = gB (oR o) s := ⟨_, rfl⟩
                  obtain ⟨b2, hb2⟩ : ∃ z, z = gB (oR o2) s := ⟨_, rfl⟩
                  rw [← hv1] at hg1
                  rw [← hv2] at hg2
                  rw [← hb1] at hg3
                  rw [← hb2] at hg4
                  have V1 := Lib.hid hv1
                  have V2 := Lib.hid hv2
                  have B1 := Lib.hid hb1
                  have B2 := Lib.hid hb2
                  clear hv1 hv2 hb1 hb2 hrs
                  by_cases hv : v1 = v2
                  · subst hv
                    by_cases hb : b1 = b2
                    · subst hb
                      go_wp2_with fail
                      go_quiet (fail)
                      go_wp2_with fail
                      refine ⟨⟨s + 1, _, by omega, by go_num, rfl, fun t ht => ?_⟩, by simp [intOf]; omega⟩
                      by_cases e : t = s
                      · rw [e]; exact ⟨by rw [← V1.out, ← V2.out], by rw [← B1.out, ← B2.out]⟩
                      · exact HF2.out t (by omega)
                    · have HN := Lib.hid (HNO.out (fun ha => by have := (ha.s s (by have := E5.out; omega)).2; rw [← B1.out, ← B2.out] at this; exact hb this))
                      have HBN := Lib.hid hb
                      clear hb B1 B2
                      cases b1 <;> cases b2
                      · exact absurd rfl HBN.out
                      · go_wp2_with fail
                        go_quiet (fail)
                        go_wp2_with fail
                        exact hR.out _ _ ⟨false, rfl, ⟨fun h => (by cases h), fun h => absurd h HN.out⟩, (HOW.out.drewN m).drewN _⟩
                      · go_wp2_with fail
                        go_quiet (fail)
                        go_wp2_with fail
                        exact hR.out _ _ ⟨false, rfl, ⟨fun h => (by cases h), fun h => absurd h HN.out⟩, (HOW.out.drewN m).drewN _⟩
                      · exact absurd rfl HBN.out
                  · have hne : (v1 != v2) = true := by simp [hv]
                    have HN := Lib.hid (HNO.out (fun ha => by have := (ha.s s (by have := E5.out; omega)).1; rw [← V1.out, ← V2.out] at this; exact hv this))
                    go_wp2_with fail
                    go_quiet (fail)
                    go_wp2_with fail
                    exact hR.out _ _ ⟨false, rfl, ⟨fun h => (by cases h), fun h => absurd h HN.out⟩, (HOW.out.drewN m).drewN _⟩
                · obtain rfl : s = n := by omega
                  have hsn1 : ¬ (s : Int) < (s : Int) := by omega
                  have HYES : Hid (AlikeO o o2) := ⟨by rw [← E1.out, ← E2.out], by rw [← E3.out, ← E4.out], by rw [← E5.out, ← E6.out], fun t ht => HF2.out t (by have := E5.out; omega)⟩
                  have HOM : Hid (Only [] w (wc.drewN m)) := HOW.out.drewN m
                  go_wp2_with fail
                  refine ⟨⟨k + 1, by omega, by have := HI.out; go_num, HOM.out, fun j h1 h2 => ?_⟩, by have := HI.out; simp [intOf]; omega⟩
                  by_cases e : j = k + 1
                  · rw [e, ← HI.out, ← HOO.out, ← HOO2.out]; exact HYES.out
                  · exact HF.out j h1 (by omega)
            · have hne : ((n : Int) != (n2 : Int)) = true := by simp; omega
              have HN := Lib.hid (HNO.out (fun ha => q3 (by rw [E5.out, E6.out]; exact ha.l)))
              go_wp2_with fail
              exact hR.out _ _ ⟨false, rfl, ⟨fun h => (by cases h), fun h => absurd h HN.out⟩, HOW.out⟩
          · have hne : (cl != cl2) = true := by simp [q2]
            have HN := Lib.hid (HNO.out (fun ha => q2 (by rw [E3.out, E4.out]; exact ha.c)))
            go_wp2_with fail
            exact hR.out _ _ ⟨false, rfl, ⟨fun h => (by cases h), fun h => absurd h HN.out⟩, HOW.out⟩
        · have hne : (kd != kd2) = true := by simp [q1]
          have HN := Lib.hid (HNO.out (fun ha => q1 (by rw [E1.out, E2.out]; exact ha.k)))
          go_wp2_with fail
          exact hR.out _ _ ⟨false, rfl, ⟨fun h => (by cases h), fun h => absurd h HN.out⟩, HOW.out⟩
    · obtain rfl : k = 192 := by omega
      have HALL : Hid (∀ i : Nat, 1 ≤ i → i < 193 → AlikeO (M.ob i) (M2.ob i)) := fun j h1 h2 => HF.out j h1 (by omega)
      clear HF
      go_wp2_with fail
      exact hR.out _ _ ⟨true, rfl, ⟨fun _ => HALL.out, fun _ => rfl⟩, HO.out⟩
end
end Go.Proofs.Ytcdeikbehpepjaa
