/- Lemmas of this claim. -/
import Derived.Test.YtkacgbigeobncaaGreatTaSnG
namespace Go.Proofs.YtkacgbigeobncaaGreat
open Go.RowKit Go.Maps
set_option maxHeartbeats 6400000
set_option maxRecDepth 100000
set_option linter.unusedVariables false
set_option linter.unusedSimpArgs false
def jR (fr : Value) (ov : Bool) : List Value := [fr, .slice none 0 0, .bool false, .bool ov, .int .i64 0, .int .i64 0]
def fR (lo stk : Value) (nx : Int) : List Value := [.int .i64 0, lo, stk, .int .i64 nx, .slice none 0 0]
structure JQ where
  bw : Nat
  bm : Nat
  cm : Nat
  bc : Nat
  cc : Nat
  bj : Nat
  cj : Nat
  bf : Nat
  cf : Nat
structure JS (w : World) (q : JQ) (nf : Nat) (ov : Bool) (lo stk : Value) (nx : Int) (td : Value) : Prop where
  ws : WS w q.bw q.bm q.cm q.bc q.cc (.slice (some ⟨q.bj, 0, none⟩) 1 q.cj) td
  j : Blk w q.bj (jR (.slice (some ⟨q.bf, 0, none⟩) nf q.cf) ov)
  f : Blk w q.bf (fR lo stk nx)
  n1 : q.bj ≠ q.bf ∧ q.bj ≠ q.bw ∧ q.bj ≠ q.bm ∧ q.bj ≠ q.bc
  n2 : q.bf ≠ q.bw ∧ q.bf ≠ q.bm ∧ q.bf ≠ q.bc
section
variable {w w' : World} {q : JQ} {nf : Nat} {ov : Bool} {lo stk td jb : Value} {nx : Int} {F : List Nat} {bw bm cm bc cc : Nat}
theorem WS.only (h : WS w bw bm cm bc cc jb td) (ho : Only F w w') (h1 : bw ∉ F) (h2 : bm ∉ F) (h3 : bc ∉ F) : WS w' bw bm cm bc cc jb td := by
  obtain ⟨a, b, c, pl, cp, hp, sc, L, hL, hr⟩ := h
  exact ⟨a.only ho h2 h3, b, c, pl, cp, hp, sc, L, hL, ho.row hr h1⟩
theorem JS.only0 (h : JS w q nf ov lo stk nx td) (ho : Only [] w w') : JS w' q nf ov lo stk nx td :=
  ⟨h.ws.only ho (by simp) (by simp) (by simp), h.j.only0 ho, h.f.only0 ho, h.n1, h.n2⟩
theorem JS.only (h : JS w q nf ov lo stk nx td) (ho : Only F w w') (h1 : q.bw ∉ F) (h2 : q.bm ∉ F) (h3 : q.bc ∉ F) (h4 : q.bj ∉ F) (h5 : q.bf ∉ F) : JS w' q nf ov lo stk nx td :=
  ⟨h.ws.only ho h1 h2 h3, h.j.only ho h4, h.f.only ho h5, h.n1, h.n2⟩
theorem WS.cells (h : WS w bw bm cm bc cc jb td) : ∃ cp, w.cell? ⟨bw, 2, none⟩ = some (.slice (some ⟨bm, 0, none⟩) 1 cm) ∧ w.cell? ⟨bw, 5, none⟩ = some (.pointer (some cp)) ∧ w.cell? ⟨bw, 7, none⟩ = some jb ∧ w.cell? ⟨bw, 8, none⟩ = some td ∧
    w.cell? ⟨bm, 6, none⟩ = some (.slice (some ⟨bc, 0, none⟩) 2 cc) ∧ ∀ i, w.frozen? ⟨bw, i, none⟩ = false := by
  obtain ⟨a, b, c, pl, cp, hp, sc, L, hL, hr⟩ := h
  exact ⟨cp, hr.cell 2 rfl, hr.cell 5 rfl, hr.cell 7 rfl, hr.cell 8 rfl, a.m.at_ 6 _ rfl, fun i => hr.free i⟩
theorem WS.setJ (h : WS w bw bm cm bc cc jb td) (v : Value) : WS (w.setCell ⟨bw, 7, none⟩ v) bw bm cm bc cc v td := by
  obtain ⟨a, b, c, pl, cp, hp, sc, L, hL, hr⟩ := h
  exact ⟨a.only (F := [bw]) ((Only.refl _ _).set (.inl (by simp)) _) (by simpa using Ne.symm b) (by simpa using Ne.symm c), b, c, pl, cp, hp, sc, L, hL, hr.set 7 v⟩
theorem WS.setT (h : WS w bw bm cm bc cc jb td) (v : Value) : WS (w.setCell ⟨bw, 8, none⟩ v) bw bm cm bc cc jb v := by
  obtain ⟨a, b, c, pl, cp, hp, sc, L, hL, hr⟩ := h
  exact ⟨a.only (F := [bw]) ((Only.refl _ _).set (.inl (by simp)) _) (by simpa using Ne.symm b) (by simpa using Ne.symm c), b, c, pl, cp, hp, sc, L, hL, hr.set 8 v⟩
theorem WS.blk {b : Nat} {cs : List Value} (h : WS w bw bm cm bc cc jb td) (i : Nat) (v : Value) (h1 : b ≠ bw) (h2 : b ≠ bm) (h3 : b ≠ bc) : WS (w.setCell ⟨b, i, none⟩ v) bw bm cm bc cc jb td :=
  h.only (F := [b]) ((Only.refl _ _).set (.inl (by simp)) _) (by simpa using Ne.symm h1) (by simpa using Ne.symm h2) (by simpa using Ne.symm h3)
theorem JS.setF (h : JS w q nf ov lo stk nx td) (i : Nat) (v : Value) {lo' stk' : Value} {nx' : Int} (e : (fR lo stk nx).set i v = fR lo' stk' nx') : JS (w.setCell ⟨q.bf, i, none⟩ v) q nf ov lo' stk' nx' td :=
  ⟨h.ws.blk (cs := []) i v h.n2.1 h.n2.2.1 h.n2.2.2, h.j.other (a := ⟨q.bf, i, none⟩) (Ne.symm h.n1.1) v, (h.f.set i v).cast e, h.n1, h.n2⟩
theorem JS.setJ (h : JS w q nf ov lo stk nx td) (i : Nat) (v : Value) {nf' : Nat} {ov' : Bool} (e : (jR (.slice (some ⟨q.bf, 0, none⟩) nf q.cf) ov).set i v = jR (.slice (some ⟨q.bf, 0, none⟩) nf' q.cf) ov') : JS (w.setCell ⟨q.bj, i, none⟩ v) q nf' ov' lo stk nx td :=
  ⟨h.ws.blk (cs := []) i v h.n1.2.1 h.n1.2.2.1 h.n1.2.2.2, (h.j.set i v).cast e, h.f.other (a := ⟨q.bj, i, none⟩) h.n1.1 v, h.n1, h.n2⟩
theorem JS.setT (h : JS w q nf ov lo stk nx td) (v : Value) : JS (w.setCell ⟨q.bw, 8, none⟩ v) q nf ov lo stk nx v :=
  ⟨h.ws.setT v, h.j.other (a := ⟨q.bw, 8, none⟩) (Ne.symm h.n1.2.1) v, h.f.other (a := ⟨q.bw, 8, none⟩) (Ne.symm h.n2.1) v, h.n1, h.n2⟩
end
section
variable (w : World) (q : JQ) (nf : Nat) (ov : Bool) (lo stk td jb : Value) (nx : Int) (bw bm cm bc cc bt ct : Nat)
theorem wnone (h : WS w bw bm cm bc cc jb td) : Calls Tryz.prog 38 #[.pointer (some ⟨bw, 0, none⟩)] w (Exact w (.bool false)) := by
  refine calls_abs fun R hR => ?_
  obtain ⟨cp, -, h5, -⟩ := h.cells
  clear h
  go_enter Tryz.func38, Tryz.ntmps38
  go_wp2_with fail
  exact hR.out _ _ ⟨rfl, rfl⟩
theorem wjob (a : Option Addr) (c : Nat) (h : WS w bw bm cm bc cc (.slice a 1 c) td) : Calls Tryz.prog 45 #[.pointer (some ⟨bw, 0, none⟩), .int .i64 0] w (Exact w (.bool true)) := by
  refine calls_abs fun R hR => ?_
  have cn := wnone w _ _ _ _ _ _ _ h
  obtain ⟨cp, -, -, h7, -⟩ := h.cells
  clear h
  go_enter Tryz.func45, Tryz.ntmps45
  go_wp2_with fail
  refine cn.mono ?_
  rintro e w2 ⟨rfl, e2⟩
  subst e2
  clear cn
  go_wp2_with fail
  exact hR.out _ _ ⟨rfl, rfl⟩
theorem jtaken (h : JS w q nf ov lo stk nx td) : Calls Tryz.prog 66 #[.pointer (some ⟨q.bj, 0, none⟩)] w (Exact w (.tuple #[.int .i64 0, .int .i64 0, .bool false])) := by
  refine calls_abs fun R hR => ?_
  have j2 := h.j.at_ 2 _ rfl
  clear h
  go_enter Tryz.func66, Tryz.ntmps66
  go_wp2_with fail
  refine bodyPost_ret (results_tmp3 rfl _ _ _) rfl ?_
  exact hR.out _ _ ⟨rfl, rfl⟩
def insAt (nx : Int) : Ins := if nx = 0 then ⟨1, 7, 0⟩ else ⟨27, 1, 0⟩
theorem wahead (h : JS w q 1 ov lo stk nx td) (hnx : nx = 0 ∨ nx = 1) : Calls Tryz.prog 65 #[.pointer (some ⟨q.bw, 0, none⟩), .int .i64 0] w (Ret w (insAt nx).val) := by
  refine calls_abs fun R hR => ?_
  have HO := Lib.hid ((Only.refl [] w).alloc (.cells #[.int .i64 0, .int .i64 0, .int .i64 0] 64))
  have HZ := Lib.hid (Row.new w 64 [.int .i64 0, .int .i64 0, .int .i64 0])
  have H := Lib.hid h
  obtain ⟨q1, q2, q3, q4, q5, q6, q7, q8, q9⟩ := q
  rcases hnx with rfl | rfl
  all_goals
    go_enter Tryz.func65, Tryz.ntmps65
    go_upto_region 1 with fail
    have h1 := H.out.only0 HO.out
    have HZ1 := HZ
    have HO1 := HO
    generalize (w.alloc (.cells #[.int .i64 0, .int .i64 0, .int .i64 0] 64)) = w1 at *
    have H1 := Lib.hid h1
    obtain ⟨cp, -, -, a7, -⟩ := h1.ws.cells
    have a0 := h1.j.at_ 0 _ rfl
    simp only at a7 a0
    clear h1
    go_upto_region 2 with fail
    go_quiet (fail)
    have H2 := Lib.hid (H1.out.only0 ((Only.refl [] w1).drewN nq))
    have HO2 := Lib.hid (HO1.out.drewN nq)
    have HZ2 := Lib.hid (show Row (w1.drewN nq) w.heap.size 64 [.int .i64 0, .int .i64 0, .int .i64 0] from HZ1.out)
    generalize w1.drewN nq = w2 at *
    clear a7 a0 H1 HO1 HZ1 HZ HO
    have ct := jtaken w2 _ _ _ _ _ _ _ H2.out
    have b3 := H2.out.f.at_ 3 _ rfl
    simp only at b3 ct
    go_wp2_with fail
    refine ct.mono ?_
    rintro e w3 ⟨rfl, e3⟩
    subst e3
    clear ct b3
    obtain ⟨cp2, a2, -, -, -, a6, -⟩ := H2.out.ws.cells
    have b0 := H2.out.f.at_ 0 _ rfl
    have c0 := H2.out.ws.1.c.at_ 0 _ rfl
    have c1 := H2.out.ws.1.c.at_ 1 _ rfl
    have c2 := H2.out.ws.1.c.at_ 2 _ rfl
    have c3 := H2.out.ws.1.c.at_ 3 _ rfl
    have c4 := H2.out.ws.1.c.at_ 4 _ rfl
    have c5 := H2.out.ws.1.c.at_ 5 _ rfl
    have hz0 := HZ2.out.cell 0 rfl
    have hz1 := HZ2.out.cell 1 rfl
    have hz2 := HZ2.out.cell 2 rfl
    have hg0 := HZ2.out.free 0
    have hg1 := HZ2.out.free 1
    have hg2 := HZ2.out.free 2
    simp only at a2 a6 b0 c0 c1 c2 c3 c4 c5
    have HC2 := Lib.hid (H.out.ws.1.c2)
    have hcc := HC2.out.1
    simp only at hcc
    have HSL := Lib.hid (show ∀ wl, Only [w.heap.size] w2 wl → wl.cell? ⟨q1, 2, none⟩ = some (.slice (some ⟨q2, 0, none⟩) 1 q3) ∧ wl.cell? ⟨q8, 0, none⟩ = some (.int .i64 0) ∧ wl.cell? ⟨q2, 6, none⟩ = some (.slice (some ⟨q4, 0, none⟩) 2 q5) ∧ wl.cell? ⟨q4, 0, none⟩ = some (.int .i64 1) ∧ wl.cell? ⟨q4, 1, none⟩ = some (.int .i64 7) ∧ wl.cell? ⟨q4, 2, none⟩ = some (.int .i64 0) ∧ wl.cell? ⟨q4, 3, none⟩ = some (.int .i64 27) ∧ wl.cell? ⟨q4, 4, none⟩ = some (.int .i64 1) ∧ wl.cell? ⟨q4, 5, none⟩ = some (.int .i64 0) from fun wl ho => by
      have l1 : q1 < w.heap.size := by obtain ⟨_, _, _, _, _, _, _, _, _, hr⟩ := H.out.ws; exact hr.lt
      have l2 : q2 < w.heap.size := H.out.ws.1.m.lt
      have l4 : q4 < w.heap.size := H.out.ws.1.c.lt
      have l8 : q8 < w.heap.size := H.out.f.lt
      exact ⟨ho.cell a2 (by simp; omega), ho.cell b0 (by simp; omega), ho.cell a6 (by simp; omega), ho.cell c0 (by simp; omega), ho.cell c1 (by simp; omega), ho.cell c2 (by simp; omega), ho.cell c3 (by simp; omega), ho.cell c4 (by simp; omega), ho.cell c5 (by simp; omega)⟩)
    go_upto_region 8 with fail
    go_region_held3 (fun wl => wl.cell? ⟨q1, 2, none⟩ = some (.slice (some ⟨q2, 0, none⟩) 1 q3) ∧ wl.cell? ⟨q8, 0, none⟩ = some (.int .i64 0) ∧ wl.cell? ⟨q2, 6, none⟩ = some (.slice (some ⟨q4, 0, none⟩) 2 q5) ∧ wl.cell? ⟨q4, 0, none⟩ = some (.int .i64 1) ∧ wl.cell? ⟨q4, 1, none⟩ = some (.int .i64 7) ∧ wl.cell? ⟨q4, 2, none⟩ = some (.int .i64 0) ∧ wl.cell? ⟨q4, 3, none⟩ = some (.int .i64 27) ∧ wl.cell? ⟨q4, 4, none⟩ = some (.int .i64 1) ∧ wl.cell? ⟨q4, 5, none⟩ = some (.int .i64 0))
      (exact HSL.out _ (by repeat (first | exact Only.refl _ _ | refine Only.drew ?_ | refine Only.set ?_ (by simp) _))) (fail)
    go_wp2_with fail
    refine bodyPost_ret (results_cell_row rfl _ _ w.heap.size 64 _ (0, 0) _ rfl (((HZ2.out.drew.set 0 _).set 1 _).set 2 _) Tryz.underlying64 rfl (by kernel_rfl)) rfl ?_
    exact hR.out _ _ ⟨rfl, ((HO2.out.drew.set (.inr (by simp)) _).set (.inr (by simp)) _).set (.inr (by simp)) _⟩
theorem insAt_valid (h : nx = 0 ∨ nx = 1) : (insAt nx).valid = true := by rcases h with rfl | rfl <;> rfl
def costAt (nx : Int) : Int := if nx = 0 then 1 else 2
theorem insAt_cost (h : nx = 0 ∨ nx = 1) : (insAt nx).cost = costAt nx := by rcases h with rfl | rfl <;> rfl
theorem wcost (h : JS w q 1 false lo stk nx td) (hnx : nx = 0 ∨ nx = 1) : Calls Tryz.prog 64 #[.pointer (some ⟨q.bw, 0, none⟩), .int .i64 0] w (Ret w (.tuple #[.int .i64 (costAt nx), .int .i64 0])) := by
  refine calls_abs fun R hR => ?_
  have cj := wjob w td q.bw q.bm q.cm q.bc q.cc _ _ h.ws
  have ca := wahead w q false lo stk td nx h hnx
  have cc := fun wx => cost_any wx (insAt nx) (insAt_valid nx hnx)
  rw [insAt_cost nx hnx] at cc
  obtain ⟨cp, -, -, a7, -⟩ := h.ws.cells
  have a3 := h.j.at_ 3 _ rfl
  generalize insAt nx = i at *
  generalize costAt nx = co at *
  clear h hnx
  go_enter Tryz.func64, Tryz.ntmps64
  go_wp2_with fail
  refine cj.mono ?_
  rintro e w2 ⟨rfl, e2⟩
  subst e2
  clear cj
  go_wp2_with fail
  refine ca.mono ?_
  rintro e w2 ⟨rfl, ho⟩
  have HO := Lib.hid ho
  clear ca ho a7 a3
  go_wp2_with fail
  refine (cc _).mono ?_
  rintro e w3 ⟨rfl, ho⟩
  have HO3 := Lib.hid (HO.out.trans ho (by simp))
  clear cc ho
  go_wp2_with fail
  exact hR.out _ _ ⟨rfl, HO3.out⟩
theorem wtold (td : Value) (h : WS w bw bm cm bc cc jb (.slice (some ⟨bt, 0, none⟩) 1 ct)) (hb : Blk w bt [.int .i64 0, .int .i64 1, .int .i64 7]) (hct : 1 ≤ ct ∧ ct ≤ 9223372036854775807) :
    Calls Tryz.prog 26 #[.pointer (some ⟨bw, 0, none⟩)] w fun e w' => ∃ b c, e = .returned (.slice (some ⟨b, 0, none⟩) 1 c) ∧ Blk w' b [.int .i64 0, .int .i64 1, .int .i64 7] ∧ 1 ≤ c ∧ Only [] w w' := by
  refine calls_abs fun R hR => ?_
  have cn := wnone w _ _ _ _ _ _ _ h
  obtain ⟨cp, -, -, -, a8, -⟩ := h.cells
  have cl := clone1Tri rowIns w ⟨bt, 0, none⟩ 1 ct [⟨0, 1, 7⟩] rfl (Blk.rd rowIns (l := [⟨0, 1, 7⟩]) hb hct) (by decide)
  clear h hb hct
  go_enter Tryz.func26, Tryz.ntmps26
  go_wp2_with fail
  refine cn.mono ?_
  rintro e w2 ⟨rfl, e2⟩
  subst e2
  clear cn
  go_wp2_with fail
  refine cl.mono ?_
  rintro e w2 ⟨v, rfl, hv, ho⟩
  obtain ⟨g, cap, rfl, -, hc3, -, hB⟩ := Own.blk rowIns (by decide) hv (by simp)
  have HB := Lib.hid hB
  have HO := Lib.hid ho
  have HC := Lib.hid hc3
  clear cl hv ho hc3 hB
  go_wp2_with fail
  exact hR.out _ _ ⟨g, cap, rfl, HB.out, HC.out, HO.out⟩
end
end Go.Proofs.YtkacgbigeobncaaGreat
