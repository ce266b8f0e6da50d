/- Contracts of the reference's pools over the model Pl: Copy. -/
import Derived.Test.YtngmiacekcmidaaRBlockG
import Derived.Test.YtngmiacekcmidaaLibC
namespace Go.Proofs.Ytngmiacekcmidaa
open Go.RowKit
set_option maxHeartbeats 6400000
set_option maxRecDepth 100000
set_option linter.unusedVariables false

theorem infoIntB : (Try.prog.info? 3).map (fun i => (i.zero, i.size, i.bytes)) = some (some (.int .i64 0), 1, 8) := by kernel_rfl
theorem infoBoolB : (Try.prog.info? 4).map (fun i => (i.zero, i.size, i.bytes)) = some (some (.bool false), 1, 1) := by kernel_rfl
def Pl.kinds (P : Pl) : List Value := (List.range P.n).map fun i => .int .i64 (P.pg i).cls
def Pl.cellRow (P : Pl) : List Value := (List.range (P.n * 16)).map fun x => .int .i64 ((P.pg (x / 16)).cell (x % 16))
def Pl.liveRow (P : Pl) : List Value := (List.range (P.n * 16)).map fun x => .bool ((P.pg (x / 16)).live (x % 16))
theorem RRep.of_made {w : World} {q k c l : Nat} {P : Pl} (hq : ∃ T c1 c2 c3, Row w q T [.slice (some ⟨k, 0, none⟩) P.n c1, .slice (some ⟨c, 0, none⟩) (P.n * 16) c2, .slice (some ⟨l, 0, none⟩) (P.n * 16) c3])
    (rk : ∃ T cs, Row w k T cs) (rc : ∃ T cs, Row w c T cs) (rl : ∃ T cs, Row w l T cs)
    (hk : ∀ j v, P.kinds[j]? = some v → w.cell? ⟨k, j, none⟩ = some v) (hc : ∀ j v, P.cellRow[j]? = some v → w.cell? ⟨c, j, none⟩ = some v) (hl : ∀ j v, P.liveRow[j]? = some v → w.cell? ⟨l, j, none⟩ = some v)
    (ne : q ≠ k ∧ q ≠ c ∧ q ≠ l ∧ k ≠ c ∧ k ≠ l ∧ c ≠ l) (n1 : 1 ≤ P.n) (n24 : P.n ≤ 24) : RRep w q k c l P := by
  refine ⟨hq, rk, rc, rl, fun i hi => hk i _ (by simp [Pl.kinds, hi]), fun i hi j hj => ?_, fun i hi j hj => ?_, ne, n1, n24⟩
  · have := hc (i * 16 + j) (.int .i64 ((P.pg ((i * 16 + j) / 16)).cell ((i * 16 + j) % 16))) (by unfold Pl.cellRow; rw [List.getElem?_map, List.getElem?_range (by omega)]; rfl)
    rw [show (i * 16 + j) / 16 = i by omega, show (i * 16 + j) % 16 = j by omega] at this
    exact this
  · have := hl (i * 16 + j) (.bool ((P.pg ((i * 16 + j) / 16)).live ((i * 16 + j) % 16))) (by unfold Pl.liveRow; rw [List.getElem?_map, List.getElem?_range (by omega)]; rfl)
    rw [show (i * 16 + j) / 16 = i by omega, show (i * 16 + j) % 16 = j by omega] at this
    exact this
theorem RRep.news {w : World} {q k c l : Nat} {P : Pl} (h : RRep w q k c l P) : (∀ j v, P.kinds[j]? = some v → w.cell? ⟨k, j, none⟩ = some v) ∧ (∀ j v, P.cellRow[j]? = some v → w.cell? ⟨c, j, none⟩ = some v) ∧ (∀ j v, P.liveRow[j]? = some v → w.cell? ⟨l, j, none⟩ = some v) := by
  refine ⟨fun j v hv => ?_, fun j v hv => ?_, fun j v hv => ?_⟩
  · obtain ⟨hj, rfl⟩ := range_at hv
    exact h.kind j hj
  · obtain ⟨hj, rfl⟩ := range_at hv
    have := h.cells (j / 16) (by omega) (j % 16) (by omega)
    rwa [show j / 16 * 16 + j % 16 = j by omega] at this
  · obtain ⟨hj, rfl⟩ := range_at hv
    have := h.live (j / 16) (by omega) (j % 16) (by omega)
    rwa [show j / 16 * 16 + j % 16 = j by omega] at this

theorem s_alloc {w wl : World} {a b c : Addr} {v0 v1 v2 : Value} (o : Obj) (h : wl.cell? a = some v0 ∧ wl.cell? b = some v1 ∧ wl.cell? c = some v2 ∧ Only [] w wl) :
    (wl.alloc o).cell? a = some v0 ∧ (wl.alloc o).cell? b = some v1 ∧ (wl.alloc o).cell? c = some v2 ∧ Only [] w (wl.alloc o) :=
  have k : Only [] wl (wl.alloc o) := (Only.refl [] wl).alloc o
  ⟨k.cell h.1 (by simp), k.cell h.2.1 (by simp), k.cell h.2.2.1 (by simp), h.2.2.2.alloc o⟩
theorem rcopy_rep (w : World) (q k c l : Nat) (P : Pl) (h : RRep w q k c l P) :
    Calls Try.prog 44 #[.pointer (some ⟨q, 0, none⟩)] w fun e w' =>
      ∃ q' k' c' l', e = .returned (.pointer (some ⟨q', 0, none⟩)) ∧ RRep w' q' k' c' l' P ∧ Only [] w w' ∧ w.heap.size ≤ q' ∧ w.heap.size ≤ k' ∧ w.heap.size ≤ c' ∧ w.heap.size ≤ l' := by
  refine calls_abs fun R hR => ?_
  obtain ⟨c1, c2, c3, z0, z1, z2, _⟩ := h.facts
  have h24 := h.n24
  have h1 := h.n1
  have HN := Lib.hid h.news
  have hn16 : 0 < P.n * 16 := by omega
  have hn17 : P.n * 16 ≤ 1099511627776 := by omega
  obtain ⟨i0, hi0, hz0, hz1, hz2⟩ := info_parts infoIntB
  obtain ⟨j0, hj0, hy0, hy1, hy2⟩ := info_parts infoBoolB
  have I0 := Lib.hid hi0
  have I1 := Lib.hid hz0
  have I2 := Lib.hid hz1
  have I3 : Hid (i0.bytes ≤ 16) := by show _ ≤ _; rw [hz2]; decide
  have J0 := Lib.hid hj0
  have J1 := Lib.hid hy0
  have J2 := Lib.hid hy1
  have J3 : Hid (j0.bytes ≤ 16) := by show _ ≤ _; rw [hy2]; decide
  have LK : Hid (P.kinds.length = P.n) := by show _ = _; simp [Pl.kinds]
  have LC : Hid (P.cellRow.length = P.n * 16) := by show _ = _; simp [Pl.cellRow]
  have LL : Hid (P.liveRow.length = P.n * 16) := by show _ = _; simp [Pl.liveRow]
  have hO : Only [] w w.drew := (Only.refl _ _).drewN 1
  clear hi0 hz0 hz1 hz2 hj0 hy0 hy1 hy2 h
  go_enter Try.func44, Try.ntmps44
  go_wp2_with fail
  go_region_held3 (fun w' => w'.cell? ⟨q, 0, none⟩ = some (.slice (some ⟨k, 0, none⟩) P.n c1) ∧ w'.cell? ⟨q, 1, none⟩ = some (.slice (some ⟨c, 0, none⟩) (P.n * 16) c2) ∧ w'.cell? ⟨q, 2, none⟩ = some (.slice (some ⟨l, 0, none⟩) (P.n * 16) c3) ∧ Only [] w w')
    (first
      | (go_keep; done)
      | (go_split_ands; exact ⟨hmk.only.cell (by assumption) (by simp), hmk.only.cell (by assumption) (by simp), hmk.only.cell (by assumption) (by simp), Only.trans (by assumption) hmk.only (by simp)⟩)
      | (go_split_ands; exact ⟨hmc.only.cell (by assumption) (by simp), hmc.only.cell (by assumption) (by simp), hmc.only.cell (by assumption) (by simp), Only.trans (by assumption) hmc.only (by simp)⟩)
      | (go_split_ands; exact ⟨hml.only.cell (by assumption) (by simp), hml.only.cell (by assumption) (by simp), hml.only.cell (by assumption) (by simp), Only.trans (by assumption) hml.only (by simp)⟩)
      | (exact s_alloc _ (by assumption)))
    (first
      | (refine step_append_new rfl (.const (.slice none 0 0)) (.tmp 8) 39 rfl 3 i0 _ Try.underlying39 I0.out I1.out I2.out I3.out rfl ⟨k, 0, none⟩ P.n c1 P.kinds (by rfl) LK.out (fun j u hu => by rw [addr_add, Nat.zero_add]; exact Only.cell hO (HN.out.1 j u hu) (by simp)) (by omega) (by omega) ?_; intro gk capk wk hmk)
      | (refine step_append_new rfl (.const (.slice none 0 0)) (.tmp 13) 39 rfl 3 i0 _ Try.underlying39 I0.out I1.out I2.out I3.out rfl ⟨c, 0, none⟩ (P.n * 16) c2 P.cellRow (by rfl) LC.out (fun j u hu => by rw [addr_add, Nat.zero_add]; exact Only.cell (hO.trans hmk.only (by simp)) (HN.out.2.1 j u hu) (by simp)) (by omega) (by omega) ?_; intro gc capc wc hmc)
      | (refine step_append_new rfl (.const (.slice none 0 0)) (.tmp 18) 81 rfl 4 j0 _ Try.underlying81 J0.out J1.out J2.out J3.out rfl ⟨l, 0, none⟩ (P.n * 16) c3 P.liveRow (by rfl) LL.out (fun j u hu => by rw [addr_add, Nat.zero_add]; exact Only.cell ((hO.trans hmk.only (by simp)).trans hmc.only (by simp)) (HN.out.2.2 j u hu) (by simp)) (by omega) (by omega) ?_; intro gl capl wl hml))
  rename_i hHeld
  clear hHeld
  have H1 := Lib.hid hmk
  have H2 := Lib.hid hmc
  have H3 := Lib.hid hml
  have HO := Lib.hid hO
  clear hmk hmc hml hO
  go_wp2_with fail
  have o3 : Only [] w wl := ((HO.out.trans H1.out.only (by simp)).trans H2.out.only (by simp)).trans H3.out.only (by simp)
  have o23 : Only [] wk wl := H2.out.only.trans H3.out.only (by simp)
  have oal : Only [] wl (wl.alloc (.cells #[.slice (some ⟨gk, 0, none⟩) P.n capk, .slice (some ⟨gc, 0, none⟩) (P.n * 16) capc, .slice (some ⟨gl, 0, none⟩) (P.n * 16) capl] 83)) := (Only.refl _ _).alloc _
  have g1 := H1.out.ge
  have g2 := H2.out.ge
  have g3 := H3.out.ge
  have l1 := H1.out.lt
  have l2 := H2.out.lt
  have l3 := H3.out.lt
  have e0 := HO.out.size
  have e1 := H1.out.only.size
  have e2 := H2.out.only.size
  have e3 := H3.out.only.size
  have e4 : w.drew.heap.size = w.heap.size := rfl
  refine hR.out _ _ ⟨wl.heap.size, gk, gc, gl, rfl, ?_, o3.trans oal (by simp), by omega, by omega, by omega, by omega⟩
  refine RRep.of_made ⟨_, capk, capc, capl, Row.new wl _ [_, _, _]⟩ ?_ ?_ ?_ (fun j v hv => (o23.trans oal (by simp)).cell (H1.out.cell j v hv) (by simp)) (fun j v hv => (H3.out.only.trans oal (by simp)).cell (H2.out.cell j v hv) (by simp)) (fun j v hv => oal.cell (H3.out.cell j v hv) (by simp)) ⟨by omega, by omega, by omega, by omega, by omega, by omega⟩ h1 h24
  · obtain ⟨T, cs, r⟩ := H1.out.row
    exact ⟨T, cs, (o23.trans oal (by simp)).row r (by simp)⟩
  · obtain ⟨T, cs, r⟩ := H2.out.row
    exact ⟨T, cs, (H3.out.only.trans oal (by simp)).row r (by simp)⟩
  · obtain ⟨T, cs, r⟩ := H3.out.row
    exact ⟨T, cs, oal.row r (by simp)⟩

theorem rmoves_rep (w : World) (q k c l : Nat) (P : Pl) (h : RRep w q k c l P) (hok : P.ok) :
    Calls Try.prog 67 #[.pointer (some ⟨q, 0, none⟩)] w fun e w' => e = .returned (.int .i64 (P.moves : Int)) ∧ Only [] w w' := by
  refine calls_abs fun R hR => ?_
  have h24 := h.n24
  have hml := P.moves_le
  have HOK := Lib.hid hok
  have H := Lib.hid h
  clear h hok
  go_enter Try.func67, Try.ntmps67
  go_wp2_with fail
  refine (rcopy_rep _ _ _ _ _ _ H.out).mono ?_
  rintro e w2 ⟨q', k', c', l', rfl, hQ, ho, hq1, hq2, hq3, hq4⟩
  go_wp2_with fail
  go_loopw [4] (fun v3 wr => ∃ (m : Nat) (Q : Pl), v3 = .int .i64 m ∧ m + Q.moves = P.moves ∧ RRep wr q' k' c' l' Q ∧ Q.ok ∧ Only [] w wr) (fun v3 _ => P.moves - (intOf v3).toNat)
  case atStart => exact ⟨0, P, rfl, by omega, hQ, HOK.out, ho⟩
  case round =>
    clear hQ ho
    obtain ⟨m, Q, rfl, hm, hQ, hqok, ho⟩ := hrel
    have hmle : m ≤ P.moves := by omega
    have HM := Lib.hid hm
    clear hm
    cases hp : Q.pair with
    | none =>
      have hmv := rmove_none wr q' k' c' l' Q hQ hqok hp
      have hN : Hid (P.moves = m) := by have := HM.out; rw [Pl.moves_none hp] at this; show _ = _; omega
      clear hp
      go_wp2_with fail
      refine hmv.mono ?_
      rintro e _ ⟨rfl, rfl⟩
      go_wp2_with fail
      exact hR.out _ _ ⟨by rw [hN.out]; rfl, ho⟩
    | some x =>
      obtain ⟨i, j⟩ := x
      have hmv := rmove_some wr q' k' c' l' Q hQ hqok i j hp
      have hN : Hid (m + 1 + (Q.moved i j).moves = P.moves) := by have := HM.out; rw [Pl.moves_some hqok hp] at this; show _ = _; omega
      have hlt : m + 1 ≤ P.moves := by have := hN.out; omega
      have hok2 := (hqok.moved (Pl.pair_some hp)).1
      generalize ((16 * i + (Q.pg i).top (Q.pg i).cls * bsz (Q.pg i).cls : Nat) : Int) = v1 at hmv
      generalize ((16 * j + (Q.pg j).gap (Q.pg j).cls * bsz (Q.pg i).cls : Nat) : Int) = v2 at hmv
      clear hp
      go_wp2_with fail
      refine hmv.mono ?_
      rintro e w3 ⟨rfl, hQ3, ho3⟩
      go_wp2_with fail
      exact ⟨⟨m + 1, Q.moved i j, by go_num, hN.out, hQ3, hok2, ho.trans ho3 (fun x hx => .inr (by simp at hx; omega))⟩, by simp [intOf]; omega⟩

def RDoPost (w : World) (q k c l : Nat) (r : Int × Int × Pl) (e : Ending) (w' : World) : Prop :=
  e = .returned (.tuple #[.int .i64 r.1, .int .i64 r.2.1]) ∧ RRep w' q k c l r.2.2 ∧ Only [k, c, l] w w'
theorem Pl.do_badR {P : Pl} {d a b : Int} (h1 : ¬ (d = 1 ∧ b = 0)) (h2 : ¬ (d = 2 ∧ b = 0)) (h3 : d ≠ 3) (h4 : ¬ (d = 4 ∧ a = 0 ∧ b = 0)) : P.do d a b = (0, 1, P) := by
  unfold Pl.do
  rw [if_neg h1, if_neg h2, if_neg h3, if_neg h4]
theorem rdo_rep (w : World) (q k c l : Nat) (P : Pl) (h : RRep w q k c l P) (hok : P.ok) (d x y : Int) :
    Calls Try.prog 46 #[.pointer (some ⟨q, 0, none⟩), .agg #[.int .i64 d, .int .i64 x, .int .i64 y]] w (RDoPost w q k c l (P.do d x y)) := by
  refine calls_abs fun R hR => ?_
  have ho1 : Only [] w (w.alloc (.cells #[.int .i64 d, .int .i64 x, .int .i64 y] 65)) := (Only.refl _ _).alloc _
  have H1 := Lib.hid (h.only ho1 (by simp) (by simp) (by simp) (by simp))
  have HO1 := Lib.hid ((Only.refl [k, c, l] w).alloc (.cells #[.int .i64 d, .int .i64 x, .int .i64 y] 65))
  clear h ho1
  by_cases hd1 : d = 1
  · subst hd1
    cases hy : (y != 0)
    · have hy0 : y = 0 := by simpa using hy
      rw [show P.do 1 x y = P.alloc x by unfold Pl.do; rw [if_pos ⟨rfl, hy0⟩]] at hR
      have hc := ralloc_rep _ q k c l P H1.out hok x
      clear hy0
      go_enter Try.func46, Try.ntmps46
      go_wp2_with fail
      refine hc.mono ?_
      rintro e w2 ⟨rfl, h2, o2⟩
      go_wp2_with fail
      exact hR.out _ _ ⟨rfl, h2, HO1.out.trans o2 (by simp)⟩
    · have hy0 : y ≠ 0 := by simpa using hy
      rw [Pl.do_badR (by omega) (by omega) (by omega) (by omega)] at hR
      clear hy0
      go_enter Try.func46, Try.ntmps46
      go_wp2_with fail
      exact hR.out _ _ ⟨rfl, H1.out, HO1.out⟩
  by_cases hd2 : d = 2
  · subst hd2
    cases hy : (y != 0)
    · have hy0 : y = 0 := by simpa using hy
      rw [show P.do 2 x y = (0, P.free x) by unfold Pl.do; rw [if_neg (by omega), if_pos ⟨rfl, hy0⟩]] at hR
      have hc := rfree_rep _ q k c l P H1.out hok x
      clear hy0 hd1
      go_enter Try.func46, Try.ntmps46
      go_wp2_with fail
      refine hc.mono ?_
      rintro e w2 ⟨rfl, h2, o2⟩
      go_wp2_with fail
      exact hR.out _ _ ⟨rfl, h2, HO1.out.trans o2 (by simp)⟩
    · have hy0 : y ≠ 0 := by simpa using hy
      rw [Pl.do_badR (by omega) (by omega) (by omega) (by omega)] at hR
      clear hy0 hd1
      go_enter Try.func46, Try.ntmps46
      go_wp2_with fail
      exact hR.out _ _ ⟨rfl, H1.out, HO1.out⟩
  by_cases hd3 : d = 3
  · subst hd3
    rw [show P.do 3 x y = (0, P.setCell x y) by unfold Pl.do; rw [if_neg (by omega), if_neg (by omega), if_pos rfl]] at hR
    have hc := rsetCell_rep _ q k c l P H1.out hok x y
    clear hd1 hd2
    go_enter Try.func46, Try.ntmps46
    go_wp2_with fail
    refine hc.mono ?_
    rintro e w2 ⟨rfl, h2, o2⟩
    go_wp2_with fail
    exact hR.out _ _ ⟨rfl, h2, HO1.out.trans o2 (by simp)⟩
  by_cases hd4 : d = 4
  · subst hd4
    clear hd1 hd2 hd3
    cases hx : (x != 0)
    · have hx0 : x = 0 := by simpa using hx
      cases hy : (y != 0)
      · have hy0 : y = 0 := by simpa using hy
        rw [show P.do 4 x y = (P.move.2.1, P.move.2.2.1, P.move.2.2.2) by unfold Pl.do; rw [if_neg (by omega), if_neg (by omega), if_neg (by omega), if_pos ⟨rfl, hx0, hy0⟩]] at hR
        have hc := rmove_rep _ q k c l P H1.out hok
        clear hy0 hx0
        go_enter Try.func46, Try.ntmps46
        go_wp2_with fail
        refine hc.mono ?_
        rintro e w2 ⟨rfl, h2, o2⟩
        go_wp2_with fail
        exact hR.out _ _ ⟨rfl, h2, HO1.out.trans o2 (by simp)⟩
      · have hy0 : y ≠ 0 := by simpa using hy
        rw [Pl.do_badR (by omega) (by omega) (by omega) (by omega)] at hR
        clear hy0 hx0
        go_enter Try.func46, Try.ntmps46
        go_wp2_with fail
        exact hR.out _ _ ⟨rfl, H1.out, HO1.out⟩
    · have hx0 : x ≠ 0 := by simpa using hx
      rw [Pl.do_badR (by omega) (by omega) (by omega) (by omega)] at hR
      clear hx0
      go_enter Try.func46, Try.ntmps46
      go_wp2_with fail
      exact hR.out _ _ ⟨rfl, H1.out, HO1.out⟩
  · rw [Pl.do_badR (by omega) (by omega) (by omega) (by omega)] at hR
    have b1 : (d == 1) = false := by simpa using hd1
    have b2 : (d == 2) = false := by simpa using hd2
    have b3 : (d == 3) = false := by simpa using hd3
    have b4 : (d == 4) = false := by simpa using hd4
    clear hd1 hd2 hd3 hd4
    go_enter Try.func46, Try.ntmps46
    go_wp2_with fail
    exact hR.out _ _ ⟨rfl, H1.out, HO1.out⟩
end Go.Proofs.Ytngmiacekcmidaa
