/- Lemmas of this claim. -/
import Derived.Test.YthflghdaejbdkaaKRBlock
import Derived.Test.YthflghdaejbdkaaKBModel
import Derived.Test.YthflghdaejbdkaaKLib
import Derived.Test.YthflghdaejbdkaaKInts
import Derived.OwnWalk
import Derived.Deep.DeepCutAuto
import Derived.Deep.CutBlock
namespace Go.Proofs.Ythflghdaejbdkaa
open Go.RowKit
set_option maxHeartbeats 1600000
set_option maxRecDepth 100000
set_option linter.unusedVariables false
end Go.Proofs.Ythflghdaejbdkaa
namespace Go.Proofs.Ythflghdaejbdkaa
open Go.RowKit
set_option maxHeartbeats 3200000
set_option maxRecDepth 100000
set_option linter.unusedVariables false
end Go.Proofs.Ythflghdaejbdkaa
namespace Go.Proofs.Ythflghdaejbdkaa
open Go.RowKit
set_option maxHeartbeats 6400000
set_option maxRecDepth 100000
set_option linter.unusedVariables false
end Go.Proofs.Ythflghdaejbdkaa
namespace Go.Proofs.Ythflghdaejbdkaa
open Go.RowKit
set_option maxHeartbeats 6400000
set_option maxRecDepth 100000
set_option linter.unusedVariables false
theorem infoIntB : (Try.prog.info? 3).map (fun i => (i.zero, i.size, i.bytes)) = some (some (.int .i64 0), 1, 8) := by kernel_rfl
theorem infoBoolB : (Try.prog.info? 4).map (fun i => (i.zero, i.size, i.bytes)) = some (some (.bool false), 1, 1) := by kernel_rfl
def Pl.kinds (P : Pl) : List Value := (List.range P.n).map fun i => .int .i64 (P.pg i).cls
def Pl.cellRow (P : Pl) : List Value := (List.range (P.n * 16)).map fun x => .int .i64 ((P.pg (x / 16)).cell (x % 16))
def Pl.liveRow (P : Pl) : List Value := (List.range (P.n * 16)).map fun x => .bool ((P.pg (x / 16)).live (x % 16))
theorem RRep.of_made {w : World} {q k c l : Nat} {P : Pl} (hq : ∃ T c1 c2 c3, Row w q T [.slice (some ⟨k, 0, none⟩) P.n c1, .slice (some ⟨c, 0, none⟩) (P.n * 16) c2, .slice (some ⟨l, 0, none⟩) (P.n * 16) c3])
    (rk : ∃ T cs, Row w k T cs) (rc : ∃ T cs, Row w c T cs) (rl : ∃ T cs, Row w l T cs)
    (hk : ∀ j v, P.kinds[j]? = some v → w.cell? ⟨k, j, none⟩ = some v) (hc : ∀ j v, P.cellRow[j]? = some v → w.cell? ⟨c, j, none⟩ = some v) (hl : ∀ j v, P.liveRow[j]? = some v → w.cell? ⟨l, j, none⟩ = some v)
    (ne : q ≠ k ∧ q ≠ c ∧ q ≠ l ∧ k ≠ c ∧ k ≠ l ∧ c ≠ l) (n1 : 1 ≤ P.n) (n24 : P.n ≤ 24) : RRep w q k c l P := by
  refine ⟨hq, rk, rc, rl, fun i hi => hk i _ (by simp [Pl.kinds, hi]), fun i hi j hj => ?_, fun i hi j hj => ?_, ne, n1, n24⟩
  · have := hc (i * 16 + j) (.int .i64 ((P.pg ((i * 16 + j) / 16)).cell ((i * 16 + j) % 16))) (by unfold Pl.cellRow; rw [List.getElem?_map, List.getElem?_range (by omega)]; rfl)
    rw [show (i * 16 + j) / 16 = i by omega, show (i * 16 + j) % 16 = j by omega] at this
    exact this
  · have := hl (i * 16 + j) (.bool ((P.pg ((i * 16 + j) / 16)).live ((i * 16 + j) % 16))) (by unfold Pl.liveRow; rw [List.getElem?_map, List.getElem?_range (by omega)]; rfl)
    rw [show (i * 16 + j) / 16 = i by omega, show (i * 16 + j) % 16 = j by omega] at this
    exact this
theorem RRep.news {w : World} {q k c l : Nat} {P : Pl} (h : RRep w q k c l P) : (∀ j v, P.kinds[j]? = some v → w.cell? ⟨k, j, none⟩ = some v) ∧ (∀ j v, P.cellRow[j]? = some v → w.cell? ⟨c, j, none⟩ = some v) ∧ (∀ j v, P.liveRow[j]? = some v → w.cell? ⟨l, j, none⟩ = some v) := by
  refine ⟨fun j v hv => ?_, fun j v hv => ?_, fun j v hv => ?_⟩
  · obtain ⟨hj, rfl⟩ := range_at hv
    exact h.kind j hj
  · obtain ⟨hj, rfl⟩ := range_at hv
    have := h.cells (j / 16) (by omega) (j % 16) (by omega)
    rwa [show j / 16 * 16 + j % 16 = j by omega] at this
  · obtain ⟨hj, rfl⟩ := range_at hv
    have := h.live (j / 16) (by omega) (j % 16) (by omega)
    rwa [show j / 16 * 16 + j % 16 = j by omega] at this
theorem s_alloc {w wl : World} {a b c : Addr} {v0 v1 v2 : Value} (o : Obj) (h : wl.cell? a = some v0 ∧ wl.cell? b = some v1 ∧ wl.cell? c = some v2 ∧ Only [] w wl) :
    (wl.alloc o).cell? a = some v0 ∧ (wl.alloc o).cell? b = some v1 ∧ (wl.alloc o).cell? c = some v2 ∧ Only [] w (wl.alloc o) :=
  have k : Only [] wl (wl.alloc o) := (Only.refl [] wl).alloc o
  ⟨k.cell h.1 (by simp), k.cell h.2.1 (by simp), k.cell h.2.2.1 (by simp), h.2.2.2.alloc o⟩
theorem rcopy_rep (w : World) (q k c l : Nat) (P : Pl) (h : RRep w q k c l P) :
    Calls Try.prog 66 #[.pointer (some ⟨q, 0, none⟩)] w fun e w' =>
      ∃ q' k' c' l', e = .returned (.pointer (some ⟨q', 0, none⟩)) ∧ RRep w' q' k' c' l' P ∧ Only [] w w' ∧ w.heap.size ≤ q' ∧ w.heap.size ≤ k' ∧ w.heap.size ≤ c' ∧ w.heap.size ≤ l' := by
  refine calls_abs fun R hR => ?_
  obtain ⟨c1, c2, c3, z0, z1, z2, _⟩ := h.facts
  have h24 := h.n24
  have h1 := h.n1
  have HN := Lib.hid h.news
  have hn16 : 0 < P.n * 16 := by omega
  have hn17 : P.n * 16 ≤ 1099511627776 := by omega
  obtain ⟨i0, hi0, hz0, hz1, hz2⟩ := info_parts infoIntB
  obtain ⟨j0, hj0, hy0, hy1, hy2⟩ := info_parts infoBoolB
  have I0 := Lib.hid hi0
  have I1 := Lib.hid hz0
  have I2 := Lib.hid hz1
  have I3 : Hid (i0.bytes ≤ 16) := by show _ ≤ _; rw [hz2]; decide
  have J0 := Lib.hid hj0
  have J1 := Lib.hid hy0
  have J2 := Lib.hid hy1
  have J3 : Hid (j0.bytes ≤ 16) := by show _ ≤ _; rw [hy2]; decide
  have LK : Hid (P.kinds.length = P.n) := by show _ = _; simp [Pl.kinds]
  have LC : Hid (P.cellRow.length = P.n * 16) := by show _ = _; simp [Pl.cellRow]
  have LL : Hid (P.liveRow.length = P.n * 16) := by show _ = _; simp [Pl.liveRow]
  have hO : Only [] w w.drew := (Only.refl _ _).drewN 1
  clear hi0 hz0 hz1 hz2 hj0 hy0 hy1 hy2 h
  go_enter Try.func66, Try.ntmps66
  go_wp2_with fail
  go_region_held3 (fun w' => w'.cell? ⟨q, 0, none⟩ = some (.slice (some ⟨k, 0, none⟩) P.n c1) ∧ w'.cell? ⟨q, 1, none⟩ = some (.slice (some ⟨c, 0, none⟩) (P.n * 16) c2) ∧ w'.cell? ⟨q, 2, none⟩ = some (.slice (some ⟨l, 0, none⟩) (P.n * 16) c3) ∧ Only [] w w')
    (first
      | (go_keep; done)
      | (go_split_ands; exact ⟨hmk.only.cell (by assumption) (by simp), hmk.only.cell (by assumption) (by simp), hmk.only.cell (by assumption) (by simp), Only.trans (by assumption) hmk.only (by simp)⟩)
      | (go_split_ands; exact ⟨hmc.only.cell (by assumption) (by simp), hmc.only.cell (by assumption) (by simp), hmc.only.cell (by assumption) (by simp), Only.trans (by assumption) hmc.only (by simp)⟩)
      | (go_split_ands; exact ⟨hml.only.cell (by assumption) (by simp), hml.only.cell (by assumption) (by simp), hml.only.cell (by assumption) (by simp), Only.trans (by assumption) hml.only (by simp)⟩)
      | (exact s_alloc _ (by assumption)))
    (first
      | (refine step_append_new rfl (.const (.slice none 0 0)) (.tmp 8) 23 rfl 3 i0 _ Try.underlying23 I0.out I1.out I2.out I3.out rfl ⟨k, 0, none⟩ P.n c1 P.kinds (by rfl) LK.out (fun j u hu => by rw [addr_add, Nat.zero_add]; exact Only.cell hO (HN.out.1 j u hu) (by simp)) (by omega) (by omega) ?_; intro gk capk wk hmk)
      | (refine step_append_new rfl (.const (.slice none 0 0)) (.tmp 13) 23 rfl 3 i0 _ Try.underlying23 I0.out I1.out I2.out I3.out rfl ⟨c, 0, none⟩ (P.n * 16) c2 P.cellRow (by rfl) LC.out (fun j u hu => by rw [addr_add, Nat.zero_add]; exact Only.cell (hO.trans hmk.only (by simp)) (HN.out.2.1 j u hu) (by simp)) (by omega) (by omega) ?_; intro gc capc wc hmc)
      | (refine step_append_new rfl (.const (.slice none 0 0)) (.tmp 18) 63 rfl 4 j0 _ Try.underlying63 J0.out J1.out J2.out J3.out rfl ⟨l, 0, none⟩ (P.n * 16) c3 P.liveRow (by rfl) LL.out (fun j u hu => by rw [addr_add, Nat.zero_add]; exact Only.cell ((hO.trans hmk.only (by simp)).trans hmc.only (by simp)) (HN.out.2.2 j u hu) (by simp)) (by omega) (by omega) ?_; intro gl capl wl hml))
  rename_i hHeld
  clear hHeld
  have H1 := Lib.hid hmk
  have H2 := Lib.hid hmc
  have H3 := Lib.hid hml
  have HO := Lib.hid hO
  clear hmk hmc hml hO
  go_wp2_with fail
  have o3 : Only [] w wl := ((HO.out.trans H1.out.only (by simp)).trans H2.out.only (by simp)).trans H3.out.only (by simp)
  have o23 : Only [] wk wl := H2.out.only.trans H3.out.only (by simp)
  have oal : Only [] wl (wl.alloc (.cells #[.slice (some ⟨gk, 0, none⟩) P.n capk, .slice (some ⟨gc, 0, none⟩) (P.n * 16) capc, .slice (some ⟨gl, 0, none⟩) (P.n * 16) capl] 134)) := (Only.refl _ _).alloc _
  have g1 := H1.out.ge
  have g2 := H2.out.ge
  have g3 := H3.out.ge
  have l1 := H1.out.lt
  have l2 := H2.out.lt
  have l3 := H3.out.lt
  have e0 := HO.out.size
  have e1 := H1.out.only.size
  have e2 := H2.out.only.size
  have e3 := H3.out.only.size
  have e4 : w.drew.heap.size = w.heap.size := rfl
  refine hR.out _ _ ⟨wl.heap.size, gk, gc, gl, rfl, ?_, o3.trans oal (by simp), by omega, by omega, by omega, by omega⟩
  refine RRep.of_made ⟨_, capk, capc, capl, Row.new wl _ [_, _, _]⟩ ?_ ?_ ?_ (fun j v hv => (o23.trans oal (by simp)).cell (H1.out.cell j v hv) (by simp)) (fun j v hv => (H3.out.only.trans oal (by simp)).cell (H2.out.cell j v hv) (by simp)) (fun j v hv => oal.cell (H3.out.cell j v hv) (by simp)) ⟨by omega, by omega, by omega, by omega, by omega, by omega⟩ h1 h24
  · obtain ⟨T, cs, r⟩ := H1.out.row
    exact ⟨T, cs, (o23.trans oal (by simp)).row r (by simp)⟩
  · obtain ⟨T, cs, r⟩ := H2.out.row
    exact ⟨T, cs, (H3.out.only.trans oal (by simp)).row r (by simp)⟩
  · obtain ⟨T, cs, r⟩ := H3.out.row
    exact ⟨T, cs, oal.row r (by simp)⟩
end Go.Proofs.Ythflghdaejbdkaa
namespace Go.Proofs.Ythflghdaejbdkaa
open Go.RowKit
set_option maxHeartbeats 3200000
set_option maxRecDepth 100000
set_option linter.unusedVariables false
structure Rows2 (w wx : World) (n q c l : Nat) : Prop where
  hq : ∃ T, Row wx q T [.slice none 0 0, .slice (some ⟨c, 0, none⟩) (n * 16) (n * 16), .slice (some ⟨l, 0, none⟩) (n * 16) (n * 16)]
  rc : ∃ T cs, Row wx c T cs
  rl : ∃ T cs, Row wx l T cs
  cc : ∀ x, x < n * 16 → wx.cell? ⟨c, x, none⟩ = some (.int .i64 0)
  cl : ∀ x, x < n * 16 → wx.cell? ⟨l, x, none⟩ = some (.bool false)
  ne : q ≠ c ∧ q ≠ l ∧ c ≠ l
  ge : w.heap.size ≤ q ∧ w.heap.size ≤ c ∧ w.heap.size ≤ l
  lt : q < wx.heap.size ∧ c < wx.heap.size ∧ l < wx.heap.size
  o : Only [] w wx
theorem made_const {v : Value} (h : v.cells = #[v]) {n x : Nat} (hx : x < n) : (madeCells v.cells (n * 1)).toList[x]? = some v := by
  rw [h]
  simp [madeCells, hx, Nat.mod_one]
theorem newAt1 (w : World) (n : Nat) (CI CB : Array Value) (hi : ∀ x, x < n * 16 → CI.toList[x]? = some (.int .i64 0)) (hb : ∀ x, x < n * 16 → CB.toList[x]? = some (.bool false)) (T1 T2 T3 : Nat) :
    Rows2 w (((w.drew.alloc (.cells CI T1)).alloc (.cells CB T2)).alloc (.cells #[.slice none 0 0, .slice (some ⟨w.heap.size, 0, none⟩) (n * 16) (n * 16), .slice (some ⟨w.heap.size + 1, 0, none⟩) (n * 16) (n * 16)] T3)) n (w.heap.size + 1 + 1) w.heap.size (w.heap.size + 1) := by
  have r1 : Row (((w.drew.alloc (.cells CI T1)).alloc (.cells CB T2)).alloc (.cells #[.slice none 0 0, .slice (some ⟨w.heap.size, 0, none⟩) (n * 16) (n * 16), .slice (some ⟨w.heap.size + 1, 0, none⟩) (n * 16) (n * 16)] T3)) w.heap.size T1 CI.toList := ((Row.new w.drew T1 CI.toList).alloc _).alloc _
  have r2 := (Row.new (w.drew.alloc (.cells CI T1)) T2 CB.toList).alloc (.cells #[.slice none 0 0, .slice (some ⟨w.heap.size, 0, none⟩) (n * 16) (n * 16), .slice (some ⟨w.heap.size + 1, 0, none⟩) (n * 16) (n * 16)] T3)
  have e2 : (w.drew.alloc (.cells CI T1)).heap.size = w.heap.size + 1 := by simp
  rw [e2] at r2
  have r3 := Row.new ((w.drew.alloc (.cells CI T1)).alloc (.cells CB T2)) T3 [.slice none 0 0, .slice (some ⟨w.heap.size, 0, none⟩) (n * 16) (n * 16), .slice (some ⟨w.heap.size + 1, 0, none⟩) (n * 16) (n * 16)]
  have e3 : ((w.drew.alloc (.cells CI T1)).alloc (.cells CB T2)).heap.size = w.heap.size + 1 + 1 := by simp
  rw [e3] at r3
  exact ⟨⟨_, r3⟩, ⟨_, _, r1⟩, ⟨_, _, r2⟩, fun x hx => r1.cell x (hi x hx), fun x hx => r2.cell x (hb x hx), ⟨by omega, by omega, by omega⟩, ⟨by omega, by omega, by omega⟩, ⟨r3.lt, r1.lt, r2.lt⟩, ((((Only.refl [] w).drewN 1).alloc _).alloc _).alloc _⟩
theorem newAt2 (w : World) (n : Nat) (CI CB : Array Value) (hi : ∀ x, x < n * 16 → CI.toList[x]? = some (.int .i64 0)) (hb : ∀ x, x < n * 16 → CB.toList[x]? = some (.bool false)) (T1 T2 T3 : Nat) :
    Rows2 w (((w.drew.alloc (.cells CB T2)).alloc (.cells CI T1)).alloc (.cells #[.slice none 0 0, .slice (some ⟨w.heap.size + 1, 0, none⟩) (n * 16) (n * 16), .slice (some ⟨w.heap.size, 0, none⟩) (n * 16) (n * 16)] T3)) n (w.heap.size + 1 + 1) (w.heap.size + 1) w.heap.size := by
  have r1 : Row (((w.drew.alloc (.cells CB T2)).alloc (.cells CI T1)).alloc (.cells #[.slice none 0 0, .slice (some ⟨w.heap.size + 1, 0, none⟩) (n * 16) (n * 16), .slice (some ⟨w.heap.size, 0, none⟩) (n * 16) (n * 16)] T3)) w.heap.size T2 CB.toList := ((Row.new w.drew T2 CB.toList).alloc _).alloc _
  have r2 := (Row.new (w.drew.alloc (.cells CB T2)) T1 CI.toList).alloc (.cells #[.slice none 0 0, .slice (some ⟨w.heap.size + 1, 0, none⟩) (n * 16) (n * 16), .slice (some ⟨w.heap.size, 0, none⟩) (n * 16) (n * 16)] T3)
  have e2 : (w.drew.alloc (.cells CB T2)).heap.size = w.heap.size + 1 := by simp
  rw [e2] at r2
  have r3 := Row.new ((w.drew.alloc (.cells CB T2)).alloc (.cells CI T1)) T3 [.slice none 0 0, .slice (some ⟨w.heap.size + 1, 0, none⟩) (n * 16) (n * 16), .slice (some ⟨w.heap.size, 0, none⟩) (n * 16) (n * 16)]
  have e3 : ((w.drew.alloc (.cells CB T2)).alloc (.cells CI T1)).heap.size = w.heap.size + 1 + 1 := by simp
  rw [e3] at r3
  exact ⟨⟨_, r3⟩, ⟨_, _, r2⟩, ⟨_, _, r1⟩, fun x hx => r2.cell x (hi x hx), fun x hx => r1.cell x (hb x hx), ⟨by omega, by omega, by omega⟩, ⟨by omega, by omega, by omega⟩, ⟨r3.lt, r2.lt, r1.lt⟩, ((((Only.refl [] w).drewN 1).alloc _).alloc _).alloc _⟩
theorem rnew_yes (w : World) (n : Nat) (h1 : 1 ≤ n) (h24 : n ≤ 24) :
    Calls Try.prog 38 #[.int .i64 n] w fun e w' =>
      ∃ q k c l, e = .returned (.tuple #[.pointer (some ⟨q, 0, none⟩), .int .i64 0]) ∧ RRep w' q k c l (Pl.zero n) ∧ Only [] w w' ∧ w.heap.size ≤ q ∧ w.heap.size ≤ k ∧ w.heap.size ≤ c ∧ w.heap.size ≤ l := by
  refine calls_abs fun R hR => ?_
  have h1' : decide ((n : Int) < 1) = false := by simp; omega
  have h2' : decide (24 < (n : Int)) = false := by simp; omega
  obtain ⟨i0, hi0, hz0, hz1, hz2⟩ := info_parts infoIntB
  obtain ⟨j0, hj0, hy0, hy1, hy2⟩ := info_parts infoBoolB
  obtain ⟨CI, hCI⟩ : ∃ CI, CI = madeCells (Value.int .i64 0).cells (n * 16 * 1) := ⟨_, rfl⟩
  obtain ⟨CB, hCB⟩ : ∃ CB, CB = madeCells (Value.bool false).cells (n * 16 * 1) := ⟨_, rfl⟩
  have FI : Hid (∀ x, x < n * 16 → CI.toList[x]? = some (.int .i64 0)) := fun x hx => by rw [hCI]; exact made_const rfl hx
  have FB : Hid (∀ x, x < n * 16 → CB.toList[x]? = some (.bool false)) := fun x hx => by rw [hCB]; exact made_const rfl hx
  have hwr : IntKind.i64.wrap ((n : Int) * 16) = (n : Int) * 16 := IntWalk.i64_in _ (by omega)
  have eN : ((n : Int) * 16).toNat = n * 16 := by omega
  have hmi : ∀ wx, (Instr.makeSlice 23 (.int .i64 ((n : Int) * 16)) (.int .i64 ((n : Int) * 16))).run Try.prog wx = .ok (.slice (some ⟨wx.heap.size, 0, none⟩) (n * 16) (n * 16)) (wx.alloc (.cells CI 3)) := fun wx => by
    rw [run_makeSlice (P := Try.prog) (w := wx) 23 3 i0 _ Try.underlying23 hi0 hz0 .i64 .i64 _ _ (by omega) (by omega) (by rw [hz1]; omega) (by rw [hz2]; omega) (by omega), eN, hz1, hCI]
  have hmb : ∀ wx, (Instr.makeSlice 63 (.int .i64 ((n : Int) * 16)) (.int .i64 ((n : Int) * 16))).run Try.prog wx = .ok (.slice (some ⟨wx.heap.size, 0, none⟩) (n * 16) (n * 16)) (wx.alloc (.cells CB 4)) := fun wx => by
    rw [run_makeSlice (P := Try.prog) (w := wx) 63 4 j0 _ Try.underlying63 hj0 hy0 .i64 .i64 _ _ (by omega) (by omega) (by rw [hy1]; omega) (by rw [hy2]; omega) (by omega), eN, hy1, hCB]
  clear hi0 hz0 hz1 hz2 hj0 hy0 hy1 hy2 hCI hCB
  go_enter Try.func38, Try.ntmps38
  go_wp2_with fail
  go_region
  · have hr : Rows2 w (((w.alloc (.cells CI 3)).alloc (.cells CB 4)).alloc (.cells #[.slice none 0 0, .slice (some ⟨w.heap.size, 0, none⟩) (n * 16) (n * 16), .slice (some ⟨w.heap.size + 1, 0, none⟩) (n * 16) (n * 16)] 134)).drew n (w.heap.size + 1 + 1) (w.heap.size) (w.heap.size + 1) := newAt1 w n CI CB FI.out FB.out _ _ _
    generalize (((w.alloc (.cells CI 3)).alloc (.cells CB 4)).alloc (.cells #[.slice none 0 0, .slice (some ⟨w.heap.size, 0, none⟩) (n * 16) (n * 16), .slice (some ⟨w.heap.size + 1, 0, none⟩) (n * 16) (n * 16)] 134)).drew = wx at *
    generalize w.heap.size + 1 + 1 = q at *
    generalize w.heap.size + 1 = l at *
    obtain ⟨c, hcl⟩ : ∃ x, x = w.heap.size := ⟨_, rfl⟩
    rw [← hcl] at hr ⊢
    clear hcl hmi hmb
    have HR := Lib.hid hr
    clear hr
    go_wp2_with fail
    go_loopw [5] (fun v wr => ∃ (i : Nat) (kv : Value), i ≤ n ∧ v = .int .i64 i ∧ (∃ T, Row wr q T [kv, .slice (some ⟨c, 0, none⟩) (n * 16) (n * 16), .slice (some ⟨l, 0, none⟩) (n * 16) (n * 16)]) ∧ Ints wr w.heap.size kv (List.replicate i (-1)) ∧
        (∀ b, kv.ownBlock = some b → b ≠ q ∧ b ≠ c ∧ b ≠ l) ∧ (∃ T cs, Row wr c T cs) ∧ (∃ T cs, Row wr l T cs) ∧ (∀ x, x < n * 16 → wr.cell? ⟨c, x, none⟩ = some (.int .i64 0)) ∧ (∀ x, x < n * 16 → wr.cell? ⟨l, x, none⟩ = some (.bool false)) ∧ Only [] w wr ∧ q < wr.heap.size ∧ c < wr.heap.size ∧ l < wr.heap.size) (fun v _ => n - (intOf v).toNat)
    case atStart => exact ⟨0, _, by omega, rfl, HR.out.hq, Ints.nil _ _, by simp [Value.ownBlock], HR.out.rc, HR.out.rl, HR.out.cc, HR.out.cl, HR.out.o, HR.out.lt.1, HR.out.lt.2.1, HR.out.lt.2.2⟩
    case round =>
      obtain ⟨i, kv, hi, rfl, hq, hk, hb, rc, rl, cc, cl, o, lt1, lt2, lt3⟩ := hrel
      obtain ⟨T, hq⟩ := hq
      have z0 := hq.cell 0 rfl
      have zf := hq.free 0
      have HK := Lib.hid hk
      have HB := Lib.hid hb
      have HQ := Lib.hid hq
      have RC := Lib.hid rc
      have RL := Lib.hid rl
      have CC := Lib.hid cc
      have CL := Lib.hid cl
      have HO := Lib.hid o
      clear hk hb hq rc rl cc cl o
      by_cases hlt : i < n
      · have hki := HK.out.alloc (.cells #[.int .i64 (-1)] 3)
        have HKI := Lib.hid hki
        clear hki
        go_wp2_with (at_builtin; refine append_int1 rfl _ _ rfl w.heap.size kv _ rfl HKI.out wr.heap.size (-1) rfl ?c1 ?c2 ?c3 ?c4)
        case c1 => exact (Row.new wr _ [_]).cell 0 rfl
        case c2 => simp; omega
        case c3 => have := HO.out.size; simp; omega
        case c4 =>
          intro v' w6 f6 o6 b6
          have o16 : Only kv.ownBlock.toList wr w6 := ((Only.refl _ wr).alloc _).trans o6 (fun x hx => .inl hx)
          have hn1 : ∀ b, kv.ownBlock = some b → w.heap.size ≤ b ∧ b < wr.heap.size := HK.out.own
          have hq6 := o16.row HQ.out (fun hx => by
            cases hkb : kv.ownBlock with
            | none => rw [hkb] at hx; simp at hx
            | some b => rw [hkb] at hx; simp at hx; exact (HB.out b hkb).1 hx.symm)
          rcases f6.form with ⟨_, h9⟩ | ⟨g, cap, hv', _⟩
          · simp at h9
          have z6 := hq6.cell 0 rfl
          have zf6 := hq6.free 0
          have F6 := Lib.hid f6
          have O16 := Lib.hid o16
          have B6 := Lib.hid b6
          have Q6 := Lib.hid hq6
          have HN1 := Lib.hid hn1
          clear f6 o6 b6 o16 hq6 hn1
          subst hv'
          go_wp2_with fail
          have hs6 := O16.out.size
          have hb6 : ∀ b, (Value.slice (some ⟨g, 0, none⟩) (List.replicate i (-1 : Int) ++ [-1]).length cap).ownBlock = some b → b ≠ q ∧ b ≠ c ∧ b ≠ l := by
            intro b hvb
            rcases B6.out with h7 | h7
            · exact HB.out b (by rw [← h7]; exact hvb)
            · rw [h7] at hvb
              simp at hvb
              omega
          have hcq : ∀ x, x ∈ kv.ownBlock.toList → x ≠ c ∧ x ≠ l := by
            intro x hx
            cases hkb : kv.ownBlock with
            | none => rw [hkb] at hx; simp at hx
            | some b => rw [hkb] at hx; simp at hx; subst hx; exact (HB.out _ hkb).2
          have hne := HR.out.ne
          refine ⟨⟨i + 1, _, by omega, by go_num, ⟨T, Q6.out.set 0 _⟩, ?_, hb6, ?_, ?_, fun x hx => ?_, fun x hx => ?_, ?_, by simp; omega, by simp; omega, by simp; omega⟩, by simp [intOf]; omega⟩
          · have h8 := F6.out
            have hlen : (List.replicate i (-1 : Int) ++ [-1]).length = i + 1 := by simp
            rw [hlen] at h8
            rw [show List.replicate (i + 1) (-1 : Int) = List.replicate i (-1) ++ [-1] from List.replicate_succ']
            exact h8.only ((Only.refl [q] w6).set (p := ⟨q, 0, none⟩) (by simp) _) (fun b hvb => by simpa using (hb6 b hvb).1)
          · obtain ⟨T', cs, r⟩ := RC.out
            exact ⟨T', cs, ((O16.out.row r (fun hx => (hcq _ hx).1 rfl))).other (by simpa using hne.1) _⟩
          · obtain ⟨T', cs, r⟩ := RL.out
            exact ⟨T', cs, ((O16.out.row r (fun hx => (hcq _ hx).2 rfl))).other (by simpa using hne.2.1) _⟩
          · exact ((Only.refl [q] w6).set (by simp) _).cell (O16.out.cell (CC.out x hx) (fun hx' => (hcq _ hx').1 rfl)) (by simpa using hne.1.symm)
          · exact ((Only.refl [q] w6).set (by simp) _).cell (O16.out.cell (CL.out x hx) (fun hx' => (hcq _ hx').2 rfl)) (by simpa using hne.2.1.symm)
          · exact (HO.out.trans O16.out (fun x hx => by
              cases hkb : kv.ownBlock with
              | none => rw [hkb] at hx; simp at hx
              | some b => rw [hkb] at hx; simp at hx; subst hx; exact .inr (HN1.out _ hkb).1)).set (.inr HR.out.ge.1) _
      · have hin : i = n := by omega
        subst hin
        go_wp2_with fail
        rcases HK.out.form with ⟨_, h9⟩ | ⟨g, cap, hkv, hg, hgl, hcap, hat⟩
        · have := congrArg List.length h9
          simp at this
          omega
        · have hbb := HB.out g (by rw [hkv]; rfl)
          have hne := HR.out.ne
          have hqq := HQ.out
          rw [hkv, List.length_replicate] at hqq
          refine hR.out _ _ ⟨q, g, c, l, rfl, ⟨⟨T, cap, _, _, hqq⟩, ?_, RC.out, RL.out, fun x hx => ?_, fun x hx y hy => ?_, fun x hx y hy => ?_, ⟨hbb.1.symm, hne.1, hne.2.1, hbb.2.1, hbb.2.2, hne.2.2⟩, h1, h24⟩, HO.out, HR.out.ge.1, hg, HR.out.ge.2.1, HR.out.ge.2.2⟩
          · rcases HK.out.2 with ⟨e, _⟩ | ⟨g', cap', cur, e, _, hh, _⟩
            · rw [hkv] at e; cases e
            · rw [hkv] at e
              simp only [Value.slice.injEq, Option.some.injEq, Addr.mk.injEq] at e
              obtain ⟨⟨rfl, _⟩, _⟩ := e
              exact ⟨_, cur.toList, by unfold Row; rw [hh]⟩
          · have hx' : x < i := hx
            have := hat x (by simp; exact hx')
            rw [this]
            simp [gI, hx', Pl.zero, Pg.zero]
          · exact CC.out _ (by show _ < i * 16; have : x < i := hx; omega)
          · exact CL.out _ (by show _ < i * 16; have : x < i := hx; omega)
  · have hr : Rows2 w (((w.alloc (.cells CB 4)).alloc (.cells CI 3)).alloc (.cells #[.slice none 0 0, .slice (some ⟨w.heap.size + 1, 0, none⟩) (n * 16) (n * 16), .slice (some ⟨w.heap.size, 0, none⟩) (n * 16) (n * 16)] 134)).drew n (w.heap.size + 1 + 1) (w.heap.size + 1) (w.heap.size) := newAt2 w n CI CB FI.out FB.out _ _ _
    generalize (((w.alloc (.cells CB 4)).alloc (.cells CI 3)).alloc (.cells #[.slice none 0 0, .slice (some ⟨w.heap.size + 1, 0, none⟩) (n * 16) (n * 16), .slice (some ⟨w.heap.size, 0, none⟩) (n * 16) (n * 16)] 134)).drew = wx at *
    generalize w.heap.size + 1 + 1 = q at *
    generalize w.heap.size + 1 = c at *
    obtain ⟨l, hcl⟩ : ∃ x, x = w.heap.size := ⟨_, rfl⟩
    rw [← hcl] at hr ⊢
    clear hcl hmi hmb
    have HR := Lib.hid hr
    clear hr
    go_wp2_with fail
    go_loopw [5] (fun v wr => ∃ (i : Nat) (kv : Value), i ≤ n ∧ v = .int .i64 i ∧ (∃ T, Row wr q T [kv, .slice (some ⟨c, 0, none⟩) (n * 16) (n * 16), .slice (some ⟨l, 0, none⟩) (n * 16) (n * 16)]) ∧ Ints wr w.heap.size kv (List.replicate i (-1)) ∧
        (∀ b, kv.ownBlock = some b → b ≠ q ∧ b ≠ c ∧ b ≠ l) ∧ (∃ T cs, Row wr c T cs) ∧ (∃ T cs, Row wr l T cs) ∧ (∀ x, x < n * 16 → wr.cell? ⟨c, x, none⟩ = some (.int .i64 0)) ∧ (∀ x, x < n * 16 → wr.cell? ⟨l, x, none⟩ = some (.bool false)) ∧ Only [] w wr ∧ q < wr.heap.size ∧ c < wr.heap.size ∧ l < wr.heap.size) (fun v _ => n - (intOf v).toNat)
    case atStart => exact ⟨0, _, by omega, rfl, HR.out.hq, Ints.nil _ _, by simp [Value.ownBlock], HR.out.rc, HR.out.rl, HR.out.cc, HR.out.cl, HR.out.o, HR.out.lt.1, HR.out.lt.2.1, HR.out.lt.2.2⟩
    case round =>
      obtain ⟨i, kv, hi, rfl, hq, hk, hb, rc, rl, cc, cl, o, lt1, lt2, lt3⟩ := hrel
      obtain ⟨T, hq⟩ := hq
      have z0 := hq.cell 0 rfl
      have zf := hq.free 0
      have HK := Lib.hid hk
      have HB := Lib.hid hb
      have HQ := Lib.hid hq
      have RC := Lib.hid rc
      have RL := Lib.hid rl
      have CC := Lib.hid cc
      have CL := Lib.hid cl
      have HO := Lib.hid o
      clear hk hb hq rc rl cc cl o
      by_cases hlt : i < n
      · have hki := HK.out.alloc (.cells #[.int .i64 (-1)] 3)
        have HKI := Lib.hid hki
        clear hki
        go_wp2_with (at_builtin; refine append_int1 rfl _ _ rfl w.heap.size kv _ rfl HKI.out wr.heap.size (-1) rfl ?c1 ?c2 ?c3 ?c4)
        case c1 => exact (Row.new wr _ [_]).cell 0 rfl
        case c2 => simp; omega
        case c3 => have := HO.out.size; simp; omega
        case c4 =>
          intro v' w6 f6 o6 b6
          have o16 : Only kv.ownBlock.toList wr w6 := ((Only.refl _ wr).alloc _).trans o6 (fun x hx => .inl hx)
          have hn1 : ∀ b, kv.ownBlock = some b → w.heap.size ≤ b ∧ b < wr.heap.size := HK.out.own
          have hq6 := o16.row HQ.out (fun hx => by
            cases hkb : kv.ownBlock with
            | none => rw [hkb] at hx; simp at hx
            | some b => rw [hkb] at hx; simp at hx; exact (HB.out b hkb).1 hx.symm)
          rcases f6.form with ⟨_, h9⟩ | ⟨g, cap, hv', _⟩
          · simp at h9
          have z6 := hq6.cell 0 rfl
          have zf6 := hq6.free 0
          have F6 := Lib.hid f6
          have O16 := Lib.hid o16
          have B6 := Lib.hid b6
          have Q6 := Lib.hid hq6
          have HN1 := Lib.hid hn1
          clear f6 o6 b6 o16 hq6 hn1
          subst hv'
          go_wp2_with fail
          have hs6 := O16.out.size
          have hb6 : ∀ b, (Value.slice (some ⟨g, 0, none⟩) (List.replicate i (-1 : Int) ++ [-1]).length cap).ownBlock = some b → b ≠ q ∧ b ≠ c ∧ b ≠ l := by
            intro b hvb
            rcases B6.out with h7 | h7
            · exact HB.out b (by rw [← h7]; exact hvb)
            · rw [h7] at hvb
              simp at hvb
              omega
          have hcq : ∀ x, x ∈ kv.ownBlock.toList → x ≠ c ∧ x ≠ l := by
            intro x hx
            cases hkb : kv.ownBlock with
            | none => rw [hkb] at hx; simp at hx
            | some b => rw [hkb] at hx; simp at hx; subst hx; exact (HB.out _ hkb).2
          have hne := HR.out.ne
          refine ⟨⟨i + 1, _, by omega, by go_num, ⟨T, Q6.out.set 0 _⟩, ?_, hb6, ?_, ?_, fun x hx => ?_, fun x hx => ?_, ?_, by simp; omega, by simp; omega, by simp; omega⟩, by simp [intOf]; omega⟩
          · have h8 := F6.out
            have hlen : (List.replicate i (-1 : Int) ++ [-1]).length = i + 1 := by simp
            rw [hlen] at h8
            rw [show List.replicate (i + 1) (-1 : Int) = List.replicate i (-1) ++ [-1] from List.replicate_succ']
            exact h8.only ((Only.refl [q] w6).set (p := ⟨q, 0, none⟩) (by simp) _) (fun b hvb => by simpa using (hb6 b hvb).1)
          · obtain ⟨T', cs, r⟩ := RC.out
            exact ⟨T', cs, ((O16.out.row r (fun hx => (hcq _ hx).1 rfl))).other (by simpa using hne.1) _⟩
          · obtain ⟨T', cs, r⟩ := RL.out
            exact ⟨T', cs, ((O16.out.row r (fun hx => (hcq _ hx).2 rfl))).other (by simpa using hne.2.1) _⟩
          · exact ((Only.refl [q] w6).set (by simp) _).cell (O16.out.cell (CC.out x hx) (fun hx' => (hcq _ hx').1 rfl)) (by simpa using hne.1.symm)
          · exact ((Only.refl [q] w6).set (by simp) _).cell (O16.out.cell (CL.out x hx) (fun hx' => (hcq _ hx').2 rfl)) (by simpa using hne.2.1.symm)
          · exact (HO.out.trans O16.out (fun x hx => by
              cases hkb : kv.ownBlock with
              | none => rw [hkb] at hx; simp at hx
              | some b => rw [hkb] at hx; simp at hx; subst hx; exact .inr (HN1.out _ hkb).1)).set (.inr HR.out.ge.1) _
      · have hin : i = n := by omega
        subst hin
        go_wp2_with fail
        rcases HK.out.form with ⟨_, h9⟩ | ⟨g, cap, hkv, hg, hgl, hcap, hat⟩
        · have := congrArg List.length h9
          simp at this
          omega
        · have hbb := HB.out g (by rw [hkv]; rfl)
          have hne := HR.out.ne
          have hqq := HQ.out
          rw [hkv, List.length_replicate] at hqq
          refine hR.out _ _ ⟨q, g, c, l, rfl, ⟨⟨T, cap, _, _, hqq⟩, ?_, RC.out, RL.out, fun x hx => ?_, fun x hx y hy => ?_, fun x hx y hy => ?_, ⟨hbb.1.symm, hne.1, hne.2.1, hbb.2.1, hbb.2.2, hne.2.2⟩, h1, h24⟩, HO.out, HR.out.ge.1, hg, HR.out.ge.2.1, HR.out.ge.2.2⟩
          · rcases HK.out.2 with ⟨e, _⟩ | ⟨g', cap', cur, e, _, hh, _⟩
            · rw [hkv] at e; cases e
            · rw [hkv] at e
              simp only [Value.slice.injEq, Option.some.injEq, Addr.mk.injEq] at e
              obtain ⟨⟨rfl, _⟩, _⟩ := e
              exact ⟨_, cur.toList, by unfold Row; rw [hh]⟩
          · have hx' : x < i := hx
            have := hat x (by simp; exact hx')
            rw [this]
            simp [gI, hx', Pl.zero, Pg.zero]
          · exact CC.out _ (by show _ < i * 16; have : x < i := hx; omega)
          · exact CL.out _ (by show _ < i * 16; have : x < i := hx; omega)
end Go.Proofs.Ythflghdaejbdkaa
