/- Contracts of package block's pools over the model Pl: Move. -/
import Derived.Test.YtngmiacekcmidaaBlockH
namespace Go.Proofs.Ytngmiacekcmidaa
open Go.RowKit
set_option maxHeartbeats 1600000
set_option maxRecDepth 100000
set_option linter.unusedVariables false

theorem PgOnly.keep {b o o2 : Nat} {w w' : World} {q : Pg} (h : PgOnly b o w w') (ho : o2 + 25 ≤ o ∨ o + 25 ≤ o2) (hq : PgAt w b o2 q) : PgAt w' b o2 q := by
  intro r hr
  rw [h.cell _ (by omega)]
  exact hq r hr
theorem move_none (w : World) (p b : Nat) (P : Pl) (h : PRep w p b P) (hp : P.pair = none) :
    Calls Try.prog 18 #[.pointer (some ⟨p, 0, none⟩)] w fun e w' => e = .returned (.tuple #[.int .i64 0, .int .i64 0, .int .i64 3]) ∧ Drew w w' := by
  refine calls_abs fun R hR => ?_
  have hpr := pair_rep w p b P h
  rw [show pairV P = .tuple #[.int .i64 0, .int .i64 0, .bool false] by unfold pairV; rw [hp]] at hpr
  go_enter Try.func18, Try.ntmps18
  go_wp2_with fail
  refine (none_rep _ _ _ _ h).mono ?_
  rintro e _ ⟨rfl, rfl⟩
  go_wp2_with fail
  refine hpr.mono ?_
  rintro e _ ⟨rfl, n1, rfl⟩
  go_wp2_with fail
  go_ret3
  exact hR.out _ _ ⟨rfl, Drew.of _ _⟩
theorem move_nil (w : World) :
    Calls Try.prog 18 #[.pointer none] w (Exact w (.tuple #[.int .i64 0, .int .i64 0, .int .i64 1])) := by
  refine calls_abs fun R hR => ?_
  go_enter Try.func18, Try.ntmps18
  go_wp2_with fail
  refine (none_nil _).mono ?_
  rintro e _ ⟨rfl, rfl⟩
  go_wp2_with fail
  go_ret3
  exact hR.out _ _ ⟨rfl, rfl⟩

set_option maxHeartbeats 6400000 in
theorem move_some (w : World) (p b : Nat) (P : Pl) (h : PRep w p b P) (i j : Nat) (hp : P.pair = some (i, j)) :
    Calls Try.prog 18 #[.pointer (some ⟨p, 0, none⟩)] w fun e w' =>
      e = .returned (.tuple #[.int .i64 ((16 * i + (P.pg i).top (P.pg i).cls * bsz (P.pg i).cls : Nat) : Int), .int .i64 ((16 * j + (P.pg j).gap (P.pg j).cls * bsz (P.pg i).cls : Nat) : Int), .int .i64 0]) ∧ PRep w' p b (P.moved i j) ∧ Only [b] w w' := by
  refine calls_abs fun R hR => ?_
  have hpr := fun wx hx => pair_rep wx p b P hx
  rw [show pairV P = .tuple #[.int .i64 (i : Int), .int .i64 (j : Int), .bool true] by unfold pairV; rw [hp]] at hpr
  have hP := Pl.pair_some hp
  have hmv : Hid (P.moved i j = (P.set j ((P.pg j).take (P.pg i).cls ((P.pg j).gap (P.pg j).cls) fun x => (P.pg i).cell ((P.pg i).top (P.pg i).cls * bsz (P.pg i).cls + x))).set i ((P.pg i).release ((P.pg i).top (P.pg i).cls))) := rfl
  have hok2 := Lib.hid (h.ok.moved hP).1
  rw [hmv.out] at hok2
  have hC := hP.c
  have hne1 : (P.pg i).cls ≠ -1 := by rcases hC with e | e | e <;> omega
  have htop := (h.ok i hP.hi).top hne1
  have hgap := (h.ok j hP.hj).gap hC hP.pj
  have hsame := hP.same
  rw [hsame] at hmv hR hok2
  have hi := hP.hi
  have hj := hP.hj
  have hij := hP.ne
  have h24 := h.n24
  have hoki := h.ok i hi
  have hokj := h.ok j hj
  have hpbn := h.ne
  obtain ⟨c, hc⟩ : ∃ c, c = (P.pg i).cls := ⟨_, rfl⟩
  rw [← hc] at hC htop hgap hmv hsame hR hok2
  have hsz := hC.sz
  have hbk := hC.blk htop.1
  have hbl := hC.blk hgap.1
  have hok1 := Lib.hid (h.ok.set (hokj.take hC (.inr hsame) hgap.1 (fun x => (P.pg i).cell ((P.pg i).top c * bsz c + x))) (i := j))
  have hrelok := Lib.hid (hoki.release hne1 ((P.pg i).top c))
  have hft : ∀ wx, PgAt wx b (i * 25) (P.pg i) → Calls Try.prog 53 #[.pointer (some ⟨b, i * 25, none⟩), .bool true] wx fun e w' => e = .returned (.int .i64 ((P.pg i).top c)) ∧ Drew wx w' := fun wx hx => by
    have := first_top wx b (i * 25) (P.pg i) hx (by rw [← hc]; exact hC) (by rw [← hc]; exact htop.1)
    rw [← hc] at this
    exact this
  have hfg : ∀ wx, PgAt wx b (j * 25) (P.pg j) → Calls Try.prog 53 #[.pointer (some ⟨b, j * 25, none⟩), .bool false] wx fun e w' => e = .returned (.int .i64 ((P.pg j).gap c)) ∧ Drew wx w' := fun wx hx => by
    have := first_gap wx b (j * 25) (P.pg j) hx (by rw [hsame]; exact hC) (by rw [hsame]; exact hgap.1)
    rw [hsame] at this
    exact this
  have hsize : ∀ wx, Calls Try.prog 54 #[.int .i64 c] wx (Exact wx (.int .i64 (bsz c : Int))) := fun wx => size_of wx c hC
  have hcl : Hid ((P.pg i).cls = c) := hc.symm
  obtain ⟨k, hk⟩ : ∃ k, k = (P.pg i).top c := ⟨_, rfl⟩
  obtain ⟨l, hl⟩ : ∃ l, l = (P.pg j).gap c := ⟨_, rfl⟩
  obtain ⟨z, hz⟩ : ∃ z, z = bsz c := ⟨_, rfl⟩
  simp only [← hk, ← hl, ← hz] at hmv hR hok2 hok1 hrelok hft hfg hsize hbk hbl hsz htop hgap
  obtain ⟨mk, hmk⟩ : ∃ mk, mk = k * z := ⟨_, rfl⟩
  obtain ⟨ml, hml⟩ : ∃ ml, ml = l * z := ⟨_, rfl⟩
  simp only [← hmk, ← hml] at hmv hR hok2 hok1 hbk hbl
  have hi1 : (k : Int) * (z : Int) = (mk : Int) := by rw [hmk]; simp
  have hi2 : ((k : Int) + 1) * (z : Int) = (mk : Int) + (z : Int) := by rw [Int.add_mul, Int.one_mul, hi1]
  have hj1 : (l : Int) * (z : Int) = (ml : Int) := by rw [hml]; simp
  have hj2 : ((l : Int) + 1) * (z : Int) = (ml : Int) + (z : Int) := by rw [Int.add_mul, Int.one_mul, hj1]
  have hmk16 : mk + z ≤ 16 := hbk.1
  have hml16 : ml + z ≤ 16 := hbl.1
  have hz8 : z ≤ 8 := by omega
  have hz2 : 0 < z := by omega
  have hk8 : k < 8 := by omega
  have hl8 : l < 8 := by omega
  have h16k : ¬ 16 = mk := by omega
  have h16l : ¬ 16 = ml := by omega
  have hb1 : (mk : Int) + (z : Int) ≤ 16 := by omega
  have hb2 : (0 : Int) ≤ mk := by omega
  have hb3 : (mk : Int) ≤ (mk : Int) + (z : Int) := by omega
  have hb4 : (0 : Int) ≤ (mk : Int) + (z : Int) := by omega
  have hc1 : (ml : Int) + (z : Int) ≤ 16 := by omega
  have hc2 : (0 : Int) ≤ ml := by omega
  have hc3 : (ml : Int) ≤ (ml : Int) + (z : Int) := by omega
  have hc4 : (0 : Int) ≤ (ml : Int) + (z : Int) := by omega
  have hw1 : IntKind.i64.wrap (mk : Int) = mk := IntWalk.i64_in _ (by omega)
  have hw2 : IntKind.i64.wrap ((mk : Int) + (z : Int)) = (mk : Int) + (z : Int) := IntWalk.i64_in _ (by omega)
  have hw3 : IntKind.i64.wrap ((k : Int) + 1) = (k : Int) + 1 := IntWalk.i64_in _ (by omega)
  have hv1 : IntKind.i64.wrap (ml : Int) = ml := IntWalk.i64_in _ (by omega)
  have hv2 : IntKind.i64.wrap ((ml : Int) + (z : Int)) = (ml : Int) + (z : Int) := IntWalk.i64_in _ (by omega)
  have hv3 : IntKind.i64.wrap ((l : Int) + 1) = (l : Int) + 1 := IntWalk.i64_in _ (by omega)
  have H := Lib.hid h
  have HTOP := Lib.hid htop
  have HGAP := Lib.hid hgap
  have HSAME := Lib.hid hsame
  have HIJ := Lib.hid hij
  have HZ := Lib.hid hz
  have HML := Lib.hid hml
  clear hc hk hl hz hmk hml h hp hP hbk hbl htop hgap hsame hij hne1
  go_enter Try.func18, Try.ntmps18
  go_wp2_with fail
  refine (none_rep _ _ _ _ H.out).mono ?_
  rintro e _ ⟨rfl, rfl⟩
  go_wp2_with fail
  refine (hpr _ H.out).mono ?_
  rintro e w1 ⟨rfl, hd1⟩
  have hd1 : Drew w w1 := hd1
  have H1 := Lib.hid (H.out.drewTo hd1)
  obtain ⟨cap1, z0, zf, zfb, _⟩ := H1.out.facts
  have hcls1 := (H1.out.pg i hi).cls
  rw [hcl.out] at hcls1
  go_wp2_with fail
  go_quiet (fail)
  go_wp2_with fail
  refine (hsize _).mono ?_
  rintro e _ ⟨rfl, rfl⟩
  go_wp2_with fail
  refine (hft _ ((H1.out.pg i hi).drewN _)).mono ?_
  rintro e w2 ⟨rfl, hd2⟩
  have hd3 := (Drew.of w1 _).trans hd2
  go_wp2_with fail
  refine (hfg _ ((H1.out.drewTo hd3).pg j hj)).mono ?_
  rintro e w3 ⟨rfl, hd4⟩
  have hd5 := (hd1.trans hd3).trans hd4
  have H3 := Lib.hid (H.out.drewTo hd5)
  clear hd1 hd2 hd3 hd4 H1 z0 zf zfb hcls1
  obtain ⟨cap3, z0, zf, zfb, _⟩ := H3.out.facts
  go_wp2_with fail
  go_still_tail 22, (by kernel_rfl)
  have ezk : ((mk : Int) + (z : Int)).toNat - mk = z := by omega
  have ezl : ((ml : Int) + (z : Int)).toNat - ml = z := by omega
  rw [ezk, ezl]
  change wpList _ _ _ _ _ w3.drew
  have hPi := H3.out.pg i hi
  have hPj := H3.out.pg j hj
  refine wpList_copy_cells rfl (.tmp 54) (.tmp 65) 39 39 3 rfl Try.underlying39 (by kernel_rfl) b (j * 25 + 9 + ml) z (16 - ml) rfl b (i * 25 + 9 + mk) (16 - mk) rfl ((List.range z).map fun x => Value.int .i64 ((P.pg i).cell (mk + x))) (by simp) ?c1 ?c2 ?c3 ?c4 ?c5
  case c1 =>
    intro x v hv
    obtain ⟨hx, rfl⟩ := range_map_at hv
    have := hPi.cell (k := mk + x) (by omega)
    rw [← Nat.add_assoc] at this
    exact this
  case c2 =>
    intro x hx
    have := hPj.cell (k := ml + x) (by omega)
    rw [← Nat.add_assoc] at this
    show (w3.cell? _).isSome = true
    rw [this]
    rfl
  case c3 => exact fun x hx => zfb _
  case c4 =>
    intro v hv
    simp only [List.mem_map] at hv
    obtain ⟨x, _, rfl⟩ := hv
    rfl
  have zPj : PgAt (w3.drew.setCells b (j * 25 + 9 + ml) ((List.range z).map fun x => Value.int .i64 ((P.pg i).cell (mk + x)))) b (j * 25) { P.pg j with cell := fun x => if ml ≤ x ∧ x < ml + z then (P.pg i).cell (mk + (x - ml)) else (P.pg j).cell x } := (show PgAt w3.drew b (j * 25) _ from hPj).setCells ml z hml16 (fun x => (P.pg i).cell (mk + x))
  have zO : PgOnly b (j * 25) w3 (w3.drew.setCells b (j * 25 + 9 + ml) ((List.range z).map fun x => Value.int .i64 ((P.pg i).cell (mk + x)))) := (show PgOnly b (j * 25) w3 w3.drew from (PgOnly.refl _ _ _).drewN 1).setCells ml z hml16 (fun x => (P.pg i).cell (mk + x))
  generalize w3.drew.setCells b (j * 25 + 9 + ml) ((List.range z).map fun x => Value.int .i64 ((P.pg i).cell (mk + x))) = w4 at *
  have hu4 := zPj.used hl8
  have zf4 : ∀ x, w4.frozen? ⟨b, x, none⟩ = false := by
    intro x
    obtain ⟨T, cs, hcs⟩ := H3.out.hb
    obtain ⟨cs', h5⟩ := zO.row T cs hcs
    exact h5.free x
  have zPj5 := Lib.hid (zPj.setUsed hl8 true)
  have zO5 := zO.setU hl8 (.bool true)
  have zPi5 : Hid (PgAt (w4.setCell ⟨b, j * 25 + 1 + l, none⟩ (.bool true)) b (i * 25) (P.pg i)) := zO5.keep (by have := HIJ.out; omega) hPi
  have ZO5 := Lib.hid zO5
  have zf5 : ∀ x, (w4.setCell ⟨b, j * 25 + 1 + l, none⟩ (.bool true)).frozen? ⟨b, x, none⟩ = false := fun x => by rw [World.frozen?_setCell]; exact zf4 x
  have ZF5 := Lib.hid zf5
  clear zPj zO hPi hPj zO5 z0 zf zfb zf5
  go_wp2_with fail
  refine (release_of _ b (i * 25) (P.pg i) zPi5.out ZF5.out k hk8).mono ?_
  rintro e w6 ⟨rfl, g6, o6⟩
  have hw5 : IntKind.i64.wrap ((i : Int) * 16) = (i : Int) * 16 := IntWalk.i64_in _ (by omega)
  have hw6 : IntKind.i64.wrap ((j : Int) * 16) = (j : Int) * 16 := IntWalk.i64_in _ (by omega)
  clear hu4 zf4
  go_wp2_with fail
  go_ret3
  refine hR.out _ _ ⟨?_, ?_, ?_⟩
  · have e1 : ((16 * i + mk : Nat) : Int) = (i : Int) * 16 + (mk : Int) := by omega
    have e2 : ((16 * j + ml : Nat) : Int) = (j : Int) * 16 + (ml : Int) := by omega
    rw [e1, e2]
    rfl
  · rw [hmv.out]
    have e3 : (P.pg j).take c l (fun x => (P.pg i).cell (mk + x)) = { cls := (P.pg j).cls, used := up (P.pg j).used l true, cell := fun x => if ml ≤ x ∧ x < ml + z then (P.pg i).cell (mk + (x - ml)) else (P.pg j).cell x } := by
      unfold Pg.take
      rw [HSAME.out, HML.out, HZ.out]
    have hA : PRep (w4.setCell ⟨b, j * 25 + 1 + l, none⟩ (.bool true)) p b (P.set j ((P.pg j).take c l fun x => (P.pg i).cell (mk + x))) :=
      H3.out.turn hj (by rw [e3]; exact zPj5.out) ZO5.out hok1.out
    exact hA.turn (i := i) hi g6 o6 hok2.out
  · exact (hd5.only [b]).trans ((ZO5.out.only).trans o6.only (by simp)) (by simp)
end Go.Proofs.Ytngmiacekcmidaa
