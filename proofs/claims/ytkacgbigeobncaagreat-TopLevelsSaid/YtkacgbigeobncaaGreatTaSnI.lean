/- Lemmas of this claim. -/
import Derived.Test.YtkacgbigeobncaaGreatTaSnH
namespace Go.Proofs.YtkacgbigeobncaaGreat
open Go.RowKit Go.Maps
set_option maxHeartbeats 6400000
set_option maxRecDepth 100000
set_option linter.unusedVariables false
set_option linter.unusedSimpArgs false
section
variable (w : World) (q : JQ) (nf : Nat) (ov : Bool) (lo stk td jb : Value) (nx : Int) (bw bm cm bc cc : Nat)
theorem settleA (h : JS w q 1 false lo stk nx td) (hnx : nx = 0 ∨ nx = 1) : Calls Tryz.prog 44 #[.pointer (some ⟨q.bw, 0, none⟩), .int .i64 0] w (Ret w (.tuple #[])) := by
  refine calls_abs fun R hR => ?_
  obtain ⟨cp, a2, -, a7, -, a6, -⟩ := h.ws.cells
  have a0 := h.j.at_ 0 _ rfl
  have b0 := h.f.at_ 0 _ rfl
  have b3 := h.f.at_ 3 _ rfl
  clear h
  go_enter Tryz.func44, Tryz.ntmps44
  go_wp2_with fail
  go_loopw [] (fun wr => wr = w) (fun _ => 0)
  case atStart => rfl
  case round =>
    obtain rfl := hrel
    rcases hnx with rfl | rfl
    all_goals
      go_wp2_with fail
      go_quiet (fail)
      go_wp2_with fail
      go_quiet (fail)
      go_wp2_with fail
      go_quiet (fail)
      go_wp2_with fail
      go_end0
      exact hR.out _ _ ⟨rfl, (((Only.refl _ _).drewN _).drewN _).drewN _⟩
def frN (w : World) (b : Nat) : Nat := match w.cell? ⟨b, 0, none⟩ with | some (.slice _ n _) => n | _ => 0
theorem frN_of {w : World} {b n : Nat} {a : Option Addr} {c : Nat} (h : w.cell? ⟨b, 0, none⟩ = some (.slice a n c)) : frN w b = n := by unfold frN; rw [h]
theorem settleB (h : JS w q 1 false lo stk 2 td) : Calls Tryz.prog 44 #[.pointer (some ⟨q.bw, 0, none⟩), .int .i64 0] w fun e w' => e = .returned (.tuple #[]) ∧ JS w' q 0 true lo stk 2 td ∧ Only [q.bj] w w' := by
  refine calls_abs fun R hR => ?_
  have H := Lib.hid h
  obtain ⟨cp, -, -, a7, -⟩ := h.ws.cells
  clear h
  go_enter Tryz.func44, Tryz.ntmps44
  go_wp2_with fail
  go_loopw [] (fun wr => (wr = w) ∨ (JS wr q 0 false lo stk 2 td ∧ Only [q.bj] w wr)) (fun wr => frN wr q.bj)
  case atStart => exact .inl rfl
  case round =>
    rcases hrel with e1 | ⟨h0, ho⟩
    · subst e1
      clear a7
      obtain ⟨cp, a2, -, a7, -, a6, -⟩ := H.out.ws.cells
      have a0 := H.out.j.at_ 0 _ rfl
      have b0 := H.out.f.at_ 0 _ rfl
      have b2 := H.out.f.at_ 2 _ rfl
      have b3 := H.out.f.at_ 3 _ rfl
      have m4 := H.out.ws.1.m.at_ 4 _ rfl
      have g0 := H.out.j.fr 0
      have HFR := Lib.hid (frN_of a0)
      have HO0 := Lib.hid (Only.refl [q.bj] wr)
      go_wp2_with fail
      go_quiet (fail)
      have H1 := Lib.hid (H.out.only0 ((Only.refl [] wr).drewN nq))
      have HO1 := Lib.hid (HO0.out.drewN nq)
      generalize wr.drewN nq = w1 at *
      clear a2 a6 a7 a0 b0 b2 b3 m4 g0
      obtain ⟨cp, a2, -, a7, -, a6, -⟩ := H1.out.ws.cells
      have a0 := H1.out.j.at_ 0 _ rfl
      have b0 := H1.out.f.at_ 0 _ rfl
      have b2 := H1.out.f.at_ 2 _ rfl
      have b3 := H1.out.f.at_ 3 _ rfl
      have m4 := H1.out.ws.1.m.at_ 4 _ rfl
      have g0 := H1.out.j.fr 0
      go_wp2_with fail
      go_quiet (fail)
      have H2 := Lib.hid (H1.out.only0 ((Only.refl [] w1).drewN nq))
      have HO2 := Lib.hid (HO1.out.drewN nq)
      generalize w1.drewN nq = w2 at *
      clear a2 a6 a7 a0 b0 b2 b3 m4 g0
      obtain ⟨cp, a2, -, a7, -, a6, -⟩ := H2.out.ws.cells
      have a0 := H2.out.j.at_ 0 _ rfl
      have b0 := H2.out.f.at_ 0 _ rfl
      have b2 := H2.out.f.at_ 2 _ rfl
      have b3 := H2.out.f.at_ 3 _ rfl
      have m4 := H2.out.ws.1.m.at_ 4 _ rfl
      have g0 := H2.out.j.fr 0
      go_wp2_with fail
      go_quiet (fail)
      have H3 := Lib.hid (H2.out.only0 ((Only.refl [] w2).drewN nq))
      have HO3 := Lib.hid (HO2.out.drewN nq)
      generalize w2.drewN nq = w3 at *
      clear a2 a6 a7 a0 b0 b2 b3 m4 g0
      obtain ⟨cp, a2, -, a7, -, a6, -⟩ := H3.out.ws.cells
      have a0 := H3.out.j.at_ 0 _ rfl
      have b0 := H3.out.f.at_ 0 _ rfl
      have b2 := H3.out.f.at_ 2 _ rfl
      have b3 := H3.out.f.at_ 3 _ rfl
      have m4 := H3.out.ws.1.m.at_ 4 _ rfl
      have g0 := H3.out.j.fr 0
      go_wp2_with fail
      go_region
      go_wp2_with fail
      have HJ := (H3.out.setJ (nf' := 0) (ov' := false) 0 (.slice (some ⟨q.bf, 0, none⟩) 0 q.cf) rfl).only0 (Only.refl [] _).drew
      refine ⟨.inr ⟨HJ, (HO3.out.set (.inl (by simp)) _).drew⟩, ?_⟩
      rw [frN_of (HJ.j.at_ 0 _ rfl), HFR.out]
      decide
    · have a0 := h0.j.at_ 0 _ rfl
      have j2 := h0.j.at_ 2 _ rfl
      have j3 := h0.j.at_ 3 _ rfl
      have g2 := h0.j.fr 2
      have g3 := h0.j.fr 3
      have H0 := Lib.hid h0
      have HO := Lib.hid ho
      clear h0 ho a7
      go_wp2_with fail
      go_end0
      refine hR.out _ _ ⟨rfl, ?_, (HO.out.set (.inl (by simp)) _).set (.inl (by simp)) _⟩
      exact (H0.out.setJ (nf' := 0) (ov' := true) 3 (.bool true) rfl).setJ 2 (.bool false) rfl
def MR (w : World) (q : JQ) (mb : Nat) : Prop := Blk w mb [.pointer (some ⟨q.bw, 0, none⟩), .int .i64 0, .pointer (some ⟨q.bf, 0, none⟩)] ∧ mb ≠ q.bw ∧ mb ≠ q.bm ∧ mb ≠ q.bc ∧ mb ≠ q.bj ∧ mb ≠ q.bf
theorem tyVal : TyZ 97 106 2 (.agg #[.int .i64 0, .bool false]) 16 := ⟨Tryz.underlying97, by kernel_rfl, rfl, by decide⟩
def vRow (n : Int) : List Value := [.int .i64 n, .bool false]
theorem rowVal : RowZ vRow 2 := ⟨fun _ => rfl, fun x u hu => by simp [vRow] at hu; rcases hu with rfl | rfl <;> rfl⟩
theorem mpush (mb : Nat) (n : Int) (h : JS w q nf ov lo (.slice none 0 0) nx td) (hm : MR w q mb) : Calls Tryz.prog 135 #[.pointer (some ⟨mb, 0, none⟩), .int .i64 n] w
    fun e w' => e = .returned (.tuple #[]) ∧ ∃ bs cs, JS w' q nf ov lo (.slice (some ⟨bs, 0, none⟩) 1 cs) nx td ∧ Blk w' bs (vRow n) ∧ 1 ≤ cs ∧ w.heap.size ≤ bs ∧ Only [q.bf] w w' := by
  refine calls_abs fun R hR => ?_
  have H := Lib.hid h
  have HM := Lib.hid hm
  have m0 := hm.1.at_ 0 _ rfl
  have m1 := hm.1.at_ 1 _ rfl
  have m2 := hm.1.at_ 2 _ rfl
  have b2 := h.f.at_ 2 _ rfl
  have g2 := h.f.fr 2
  have b2b : ∀ o : Obj, (w.alloc o).cell? ⟨q.bf, 2, none⟩ = some (.slice none 0 0) := fun o => (h.f.alloc o).at_ 2 _ rfl
  have m2b : ∀ o : Obj, (w.alloc o).cell? ⟨mb, 2, none⟩ = some (.pointer (some ⟨q.bf, 0, none⟩)) := fun o => (hm.1.alloc o).at_ 2 _ rfl
  clear h hm
  go_enter Tryz.func135, Tryz.ntmps135
  go_upto_region 0 with fail
  go_region_law ((refine step_own tyVal rowVal (by rfl) (.tmp 14) (.tmp 17) (by rfl) 0 _ [] (by rfl) Own.nil _ [n] (by rfl) (rd_one rowVal w.drew 106 n) (by simp) (by simp) (by omega) ?_; intro v7 w7 hv7 ho7 hb7; obtain ⟨g7, c7, rfl, -, hc7, -, hB7⟩ := Own.blk rowVal (by decide) hv7 (by simp); have HO7 := Lib.hid (((Only.refl [] w).drew.alloc (.cells (vRow n).toArray 106)).trans ho7 (by simp [Value.ownBlock])); have h7 := H.out.only0 HO7.out; have HB7 := Lib.hid (And.intro hB7 (And.intro hc7 hb7)); have b2 := h7.f.at_ 2 _ rfl; have g2 := h7.f.fr 2; have m2 := (HM.out.1.only0 HO7.out).at_ 2 _ rfl; have H7 := Lib.hid h7; clear hv7 ho7 hb7 h7 hB7 hc7))
  all_goals
    go_end0
    have hg : w.heap.size ≤ g7 := by
      rcases HB7.out.2.2 with h | h
      · simp [Value.ownBlock] at h
      · simp [Value.ownBlock] at h; omega
    have hlt := H.out.f.lt
    exact hR.out _ _ ⟨rfl, g7, c7, H7.out.setF 2 _ rfl, ((HB7.out.1.cast (by simp)).other (a := ⟨q.bf, 2, none⟩) (by simp; omega) _), HB7.out.2.1, hg, (HO7.out.mono (by simp)).set (.inl (by simp)) _⟩
theorem mpop (mb bs cs : Nat) (n : Int) (h : JS w q nf ov lo (.slice (some ⟨bs, 0, none⟩) 1 cs) nx td) (hm : MR w q mb) (hb : Blk w bs (vRow n)) : Calls Tryz.prog 127 #[.pointer (some ⟨mb, 0, none⟩)] w
    fun e w' => e = .returned (.agg #[.int .i64 n, .bool false]) ∧ JS w' q nf ov lo (.slice (some ⟨bs, 0, none⟩) 0 cs) nx td ∧ Only [q.bf] w w' := by
  refine calls_abs fun R hR => ?_
  have H := Lib.hid h
  have HM := Lib.hid hm
  have HB := Lib.hid hb
  have HZ := Lib.hid (Row.new w 106 [.int .i64 0, .bool false])
  have HO := Lib.hid ((Only.refl [] w).alloc (.cells #[.int .i64 0, .bool false] 106))
  clear h hm hb
  go_enter Tryz.func127, Tryz.ntmps127
  go_upto_region 1 with fail
  have hz1 := Lib.hid (Nat.lt_succ_self w.heap.size)
  have HSZ := Lib.hid (show (w.alloc (.cells #[.int .i64 0, .bool false] 106)).heap.size = w.heap.size + 1 by simp)
  generalize w.alloc (.cells #[.int .i64 0, .bool false] 106) = w1 at *
  have h1 := H.out.only0 HO.out
  have m2 := (HM.out.1.only0 HO.out).at_ 2 _ rfl
  have b2 := h1.f.at_ 2 _ rfl
  have s0 := (HB.out.only0 HO.out).at_ 0 _ rfl
  have s1 := (HB.out.only0 HO.out).at_ 1 _ rfl
  have HSL := Lib.hid (show ∀ wl, Only [w1.heap.size] w1 wl → wl.cell? ⟨mb, 2, none⟩ = some (.pointer (some ⟨q.bf, 0, none⟩)) ∧ wl.cell? ⟨q.bf, 2, none⟩ = some (.slice (some ⟨bs, 0, none⟩) 1 cs) ∧ wl.cell? ⟨bs, 0, none⟩ = some (.int .i64 n) ∧ wl.cell? ⟨bs, 1, none⟩ = some (.bool false) from fun wl ho => by
    have l1 := HM.out.1.lt
    have l2 := H.out.f.lt
    have l3 := HB.out.lt
    have hs := HSZ.out
    exact ⟨ho.cell m2 (by simp; omega), ho.cell b2 (by simp; omega), ho.cell s0 (by simp; omega), ho.cell s1 (by simp; omega)⟩)
  clear h1
  have hw1 : IntKind.i64.wrap ((1 : Int) - 1) = 0 := by decide
  have hw0 : IntKind.i64.wrap (0 : Int) = 0 := by decide
  go_region_held3 (fun wl => wl.cell? ⟨mb, 2, none⟩ = some (.pointer (some ⟨q.bf, 0, none⟩)) ∧ wl.cell? ⟨q.bf, 2, none⟩ = some (.slice (some ⟨bs, 0, none⟩) 1 cs) ∧ wl.cell? ⟨bs, 0, none⟩ = some (.int .i64 n) ∧ wl.cell? ⟨bs, 1, none⟩ = some (.bool false))
    (exact HSL.out _ (by repeat (first | exact Only.refl _ _ | refine Only.drew ?_ | refine Only.alloc ?_ _ | refine Only.set ?_ (by simp) _))) (fail)
  have HOA := Lib.hid (((Only.refl [] w1).alloc (.cells #[.int .i64 n, .bool false] 106)).drew)
  have HV := Lib.hid ((Row.new w1 106 [.int .i64 n, .bool false]).drew)
  have HNE := Lib.hid (show w1.heap.size ≠ q.bf ∧ w.heap.size ≠ q.bf ∧ w.heap.size ≠ w1.heap.size by
    have l2 := H.out.f.lt
    have hs := HSZ.out
    omega)
  simp only [List.toArray] at HV
  generalize w1.heap.size = vb at *
  generalize (w1.alloc (.cells #[.int .i64 n, .bool false] 106)).drew = w2 at *
  have HO2 := Lib.hid (HO.out.trans HOA.out (by simp))
  have HJ2 := Lib.hid (H.out.only0 HO2.out)
  have HZ2 := Lib.hid (HOA.out.row HZ.out (by simp))
  replace m2 := (HM.out.1.only0 HO2.out).at_ 2 _ rfl
  replace b2 := HJ2.out.f.at_ 2 _ rfl
  have g2 := HJ2.out.f.fr 2
  clear s0 s1 HSL
  go_wp2_with fail
  go_region
  have HOB := Lib.hid (((Only.refl [q.bf] w2).set (p := ⟨q.bf, 2, none⟩) (.inl (by simp)) (.slice (some ⟨bs, 0, none⟩) 0 cs)).drew)
  have HJ3 := Lib.hid ((HJ2.out.setF (lo' := lo) (stk' := .slice (some ⟨bs, 0, none⟩) 0 cs) (nx' := nx) 2 (.slice (some ⟨bs, 0, none⟩) 0 cs) rfl).only0 (Only.refl [] _).drew)
  have hv := HOB.out.row HV.out (by simpa using HNE.out.1)
  have hz := HOB.out.row HZ2.out (by simpa using HNE.out.2.1)
  generalize (w2.setCell ⟨q.bf, 2, none⟩ (.slice (some ⟨bs, 0, none⟩) 0 cs)).drew = w3 at *
  have v0 := hv.cell 0 rfl
  have v1 := hv.cell 1 rfl
  have z0 := hz.cell 0 rfl
  have z1 := hz.cell 1 rfl
  have k0 := hz.free 0
  have k1 := hz.free 1
  have HZ3 := Lib.hid hz
  clear hv hz m2 b2 g2
  go_wp2_with fail
  refine bodyPost_ret (results_cell_row rfl _ _ w.heap.size 106 _ (0, 0) _ rfl ((HZ3.out.set 0 _).set 1 _) Tryz.underlying106 rfl (by kernel_rfl)) rfl ?_
  have hoz := (((Only.refl [w.heap.size] w3).set (p := ⟨w.heap.size, 0, none⟩) (.inl (by simp)) (.int .i64 n)).set (p := ⟨w.heap.size, 1, none⟩) (.inl (by simp)) (.bool false))
  have l1 : q.bw < w.heap.size := by obtain ⟨_, _, _, _, _, _, _, _, _, hr⟩ := H.out.ws; exact hr.lt
  have l2 : q.bm < w.heap.size := H.out.ws.1.m.lt
  have l3 : q.bc < w.heap.size := H.out.ws.1.c.lt
  have l4 : q.bj < w.heap.size := H.out.j.lt
  have l5 : q.bf < w.heap.size := H.out.f.lt
  refine hR.out _ _ ⟨rfl, HJ3.out.only hoz (by simp; omega) (by simp; omega) (by simp; omega) (by simp; omega) (by simp; omega), ?_⟩
  exact ((HO2.out.mono (G := [q.bf]) (by simp)).trans HOB.out (fun x hx => .inl hx)).trans hoz (fun x hx => .inr (by simp at hx; omega))
end
end Go.Proofs.YtkacgbigeobncaaGreat
