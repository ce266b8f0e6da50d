/- Contracts of package block's pools over the model Pl: Alloc. -/
import Derived.Test.YtngmiacekcmidaaBlockD
import Derived.IntWalk
namespace Go.Proofs.Ytngmiacekcmidaa
open Go.RowKit
set_option maxHeartbeats 1600000
set_option maxRecDepth 100000
set_option linter.unusedVariables false

theorem alloc_part (w : World) (p b : Nat) (P : Pl) (h : PRep w p b P) (c : Int) (hc : IsC c) (i : Nat) (hi : i < P.n) (hp : (P.pg i).partly c = true) (hb : ∀ j, j < i → (P.pg j).partly c = false) :
    Calls Try.prog 14 #[.pointer (some ⟨p, 0, none⟩), .int .i64 c] w fun e w' =>
      e = .returned (.tuple #[.int .i64 ((16 * i + (P.pg i).gap c * bsz c : Nat) : Int), .int .i64 0]) ∧ PRep w' p b (P.set i ((P.pg i).take c ((P.pg i).gap c) fun _ => 0)) ∧ Only [b] w w' := by
  refine calls_abs fun R hR => ?_
  have hcb : Hid (isCB c = true) := isCB_iff.2 hc
  have hidx : Hid (idx (fun i => (P.pg i).partly c) P.n = (i : Int)) := by
    have e1 := fst_eq (f := fun i => (P.pg i).partly c) hi hp hb
    show _ = _
    rw [idx_yes (by rw [e1]; exact hi), e1]
  obtain ⟨pg1, hpg1⟩ : ∃ x, x = P.pg i := ⟨_, rfl⟩
  have hg : pg1.gap c < bpt c := by rw [hpg1]; exact ((h.ok i hi).gap hc hp).1
  have hcls : pg1.cls = c := by rw [hpg1]; exact (Pg.partly_iff.1 hp).1
  have HG0 : Hid ((P.pg i).gap c = pg1.gap c) := by show _ = _; rw [hpg1]
  have htake : Hid (∀ k, (P.pg i).take c k (fun _ => 0) = pg1.take c k (fun _ => 0)) := by intro k; rw [hpg1]
  have hold : Hid ((P.pg i).cls = -1 ∨ (P.pg i).cls = c) := .inr (Pg.partly_iff.1 hp).1
  have HPG := Lib.hid hpg1
  clear hp hb hpg1
  obtain ⟨cap, h0, hf, hfb, _, _⟩ := h.facts
  have HR0 := Lib.hid h
  clear h
  have h24 := HR0.out.n24
  have hlt := HR0.out.facts.choose_spec.2.2.2
  have ho1 : Only [] w (w.alloc (.cells #[.int .i64 c] 3)) := (Only.refl _ _).alloc _
  have hcb1 : (w.alloc (.cells #[.int .i64 c] 3)).cell? ⟨w.heap.size, 0, none⟩ = some (.int .i64 c) := (Row.new w 3 [.int .i64 c]).cell 0 rfl
  have HR1 := Lib.hid (HR0.out.only ho1 (by simp) (by simp))
  go_enter Try.func14, Try.ntmps14
  go_wp2_with fail
  refine (class_rep _ _ _ _ HR1.out _).mono ?_
  rintro e _ ⟨rfl, rfl⟩
  rw [hcb.out]
  go_wp2_with fail
  refine (indexFunc1 _ b P.n cap P.pg h24 HR1.out.pg w.heap.size c hc hcb1).mono ?_
  rintro e w2 ⟨rfl, o2⟩
  rw [hidx.out]
  have hP2 := Lib.hid (HR1.out.only o2 (by simp) (by simp))
  have hc2 := o2.cell hcb1 (by simp)
  obtain ⟨cap2, z0, zf, zfb, zp, zb⟩ := hP2.out.facts
  have zok : PgAt w2 b (i * 25) pg1 := by rw [HPG.out]; exact hP2.out.pg i hi
  have hgu := zok.used (k := pg1.gap c) (by have := hc.sz; omega)
  have O2 := Lib.hid (ho1.trans o2 (by simp))
  have zOB : Hid (PgOnly b (i * 25) w2 w2) := PgOnly.refl _ _ _
  have zn1 : w.heap.size ≠ b := by omega
  have zn2 : b ≠ w.heap.size := by omega
  clear o2 hcb1 h0 hf hfb ho1
  generalize hg0 : pg1.gap c = k at *
  have HG := Lib.hid hg0
  have hblk := hc.blk hg
  have hsz := hc.sz
  obtain ⟨m, hm⟩ : ∃ m, m = k * bsz c := ⟨_, rfl⟩
  obtain ⟨z, hz⟩ : ∃ z, z = bsz c := ⟨_, rfl⟩
  have HM := Lib.hid hm
  have HZ := Lib.hid hz
  have hi1 : (k : Int) * (z : Int) = (m : Int) := by rw [hm, hz]; simp
  have hi2 : ((k : Int) + 1) * (z : Int) = (m : Int) + (z : Int) := by rw [Int.add_mul, Int.one_mul, hi1]
  have hmz : m + z ≤ 16 := by have := hblk.1; rw [hm, hz]; exact this
  have hz8 : z ≤ 8 := by omega
  have hz2 : 0 < z := by omega
  have h16 : ¬ 16 = m := by omega
  have hb1 : (m : Int) + (z : Int) ≤ 16 := by omega
  have hb2 : (0 : Int) ≤ m := by omega
  have hb3 : (m : Int) ≤ (m : Int) + (z : Int) := by omega
  have hb4 : (0 : Int) ≤ (m : Int) + (z : Int) := by omega
  have hw1 : IntKind.i64.wrap (m : Int) = m := IntWalk.i64_in _ (by omega)
  have hw2 : IntKind.i64.wrap ((m : Int) + (z : Int)) = (m : Int) + (z : Int) := IntWalk.i64_in _ (by omega)
  have hw3 : IntKind.i64.wrap ((k : Int) + 1) = (k : Int) + 1 := IntWalk.i64_in _ (by omega)
  have hsize : ∀ wx, Calls Try.prog 54 #[.int .i64 c] wx (Exact wx (.int .i64 (z : Int))) := fun wx => by rw [HZ.out]; exact size_of wx c hc
  clear hm hz hblk
  clear hg0
  go_wp2_with fail
  have hfst := first_gap w2 b (i * 25) pg1 zok (by rw [hcls]; exact hc) (by rw [hcls, HG.out]; exact hg)
  rw [hcls, HG.out] at hfst
  refine hfst.mono ?_
  clear hfst
  rintro e w3 ⟨rfl, n3, rfl⟩
  have hk8 : k < 8 := by omega
  have zP := Lib.hid ((zok.drewN n3).setUsed hk8 true)
  have zO := Lib.hid ((zOB.out.drewN n3).setU hk8 (.bool true))
  have zc : ((w2.drewN n3).setCell ⟨b, i * 25 + 1 + k, none⟩ (.bool true)).cell? ⟨w.heap.size, 0, none⟩ = some (.int .i64 c) := (((PgOnly.refl b (i * 25) w2).drewN n3).setU hk8 (.bool true)).only.cell hc2 (by simpa using zn1)
  have zff : ∀ x, ((w2.drewN n3).setCell ⟨b, i * 25 + 1 + k, none⟩ (.bool true)).frozen? ⟨b, x, none⟩ = false := fun x => by rw [World.frozen?_setCell]; exact zfb x
  go_wp2_with fail
  generalize (w2.drewN n3).setCell ⟨b, i * 25 + 1 + k, none⟩ (.bool true) = w4 at *
  clear zok hgu z0 zfb hc2
  go_still_tail 13, (by kernel_rfl)
  repeat (first | still_step | still_call (still_exact (hsize _)))
  refine wpStill_nil ?_
  have ez : ((m : Int) + (z : Int)).toNat - m = z := by omega
  rw [ez]
  change wpList _ _ _ _ _ w4.drew
  have zzero : ∀ wx, (zeroValue 3).run Try.prog wx = .ok (.int .i64 0) wx := fun wx => by kernel_rfl
  refine wpList_clear rfl (.tmp 61) 39 3 rfl (.int .i64 0) Try.underlying39 zzero rfl rfl b (i * 25 + 9 + m) z (16 - m) rfl hz2 ?c1 ?c2 ?c3
  case c1 =>
    intro j hj
    have := zP.out.cell (k := m + j) (by omega)
    rw [← Nat.add_assoc] at this
    show (w4.cell? _).isSome = true
    rw [this]
    rfl
  case c2 => exact fun j hj => zff _
  have zP5 : Hid (PgAt (w4.drew.setCells b (i * 25 + 9 + m) ((List.range z).map fun _ => Value.int .i64 0)) b (i * 25) { cls := pg1.cls, used := up pg1.used k true, cell := fun j => if m ≤ j ∧ j < m + z then 0 else pg1.cell j }) := (show PgAt w4.drew b (i * 25) _ from zP.out).setCells m z hmz (fun _ => 0)
  have zO5 : Hid (PgOnly b (i * 25) w2 (w4.drew.setCells b (i * 25 + 9 + m) ((List.range z).map fun _ => Value.int .i64 0))) := (show PgOnly b (i * 25) w2 w4.drew from zO.out.drewN 1).setCells m z hmz (fun _ => 0)
  rw [replicate_range]
  have zc5 : (w4.drew.setCells b (i * 25 + 9 + m) ((List.range z).map fun _ => Value.int .i64 0)).cell? ⟨w.heap.size, 0, none⟩ = some (.int .i64 c) := ((show PgOnly b (i * 25) w4 w4.drew from (PgOnly.refl _ _ _).drewN 1).setCells m z hmz (fun _ => 0)).only.cell zc (by simpa using zn1)
  generalize w4.drew.setCells b (i * 25 + 9 + m) ((List.range z).map fun _ => Value.int .i64 0) = w5 at *
  clear zc zff zP zO
  have hw4 : IntKind.i64.wrap ((i : Int) * 16) = (i : Int) * 16 := IntWalk.i64_in _ (by omega)
  go_wp2_with fail
  refine (hsize _).mono ?_
  rintro e _ ⟨rfl, rfl⟩
  go_wp2_with fail
  refine hR.out _ _ ⟨?_, ?_, ?_⟩
  · have e1 : ((16 * i + (P.pg i).gap c * bsz c : Nat) : Int) = (i : Int) * 16 + (m : Int) := by rw [HG0.out, ← HM.out]; omega
    rw [e1]
    rfl
  · rw [HG0.out]
    refine hP2.out.turn hi ?_ zO5.out (HR0.out.ok.set ((HR0.out.ok i hi).take hc hold.out hg _))
    rw [htake.out k]
    have e2 : pg1.take c k (fun _ => 0) = { cls := pg1.cls, used := up pg1.used k true, cell := fun j => if m ≤ j ∧ j < m + z then 0 else pg1.cell j } := by
      unfold Pg.take
      rw [hcls, HM.out, HZ.out]
    rw [e2]
    exact zP5.out
  · exact (O2.out.mono (by simp) : Only [b] w w2).trans zO5.out.only (by simp)

theorem alloc_new (w : World) (p b : Nat) (P : Pl) (h : PRep w p b P) (c : Int) (hc : IsC c) (hn : ∀ j, j < P.n → (P.pg j).partly c = false) (i : Nat) (hi : i < P.n) (hp : (P.pg i).cls < 0) (hb : ∀ j, j < i → ¬ (P.pg j).cls < 0) :
    Calls Try.prog 14 #[.pointer (some ⟨p, 0, none⟩), .int .i64 c] w fun e w' =>
      e = .returned (.tuple #[.int .i64 ((16 * i : Nat) : Int), .int .i64 0]) ∧ PRep w' p b (P.set i ((P.pg i).take c 0 fun _ => 0)) ∧ Only [b] w w' := by
  refine calls_abs fun R hR => ?_
  have hcb : Hid (isCB c = true) := isCB_iff.2 hc
  have hidx : Hid (idx (fun i => (P.pg i).partly c) P.n = -1) := by
    show _ = _
    rw [idx_no (by rw [fst_none (f := fun i => (P.pg i).partly c) hn]; omega)]
  have hidx2 : Hid (idx (fun i => decide ((P.pg i).cls < 0)) P.n = (i : Int)) := by
    have e1 := fst_eq (f := fun i => decide ((P.pg i).cls < 0)) hi (by simpa using hp) (fun j hj => by simpa using hb j hj)
    show _ = _
    rw [idx_yes (by rw [e1]; exact hi), e1]
  have hfree : (P.pg i).cls = -1 := ((h.ok i hi).neg).1 hp
  obtain ⟨pg1, hpg1⟩ : ∃ x, x = ({ P.pg i with cls := c } : Pg) := ⟨_, rfl⟩
  have hg0 : pg1.gap c = 0 := by
    rw [hpg1]
    exact fst_eq (by have := hc.sz; omega) (by show (!(P.pg i).used 0) = true; rw [(h.ok i hi).free hfree]; rfl) (fun j hj => by omega)
  have hg : pg1.gap c < bpt c := by have := hc.sz; omega
  have hcls : pg1.cls = c := by rw [hpg1]
  have HG0 := Lib.hid hg0
  have htake : Hid (∀ k, (P.pg i).take c k (fun _ => 0) = pg1.take c k (fun _ => 0)) := by intro k; rw [hpg1]; rfl
  have hold : Hid ((P.pg i).cls = -1 ∨ (P.pg i).cls = c) := .inl hfree
  have HPG := Lib.hid hpg1
  clear hp hb hpg1 hn hg0 hfree
  obtain ⟨cap, h0, hf, hfb, _, _⟩ := h.facts
  have HR0 := Lib.hid h
  clear h
  have h24 := HR0.out.n24
  have hlt := HR0.out.facts.choose_spec.2.2.2
  have ho1 : Only [] w (w.alloc (.cells #[.int .i64 c] 3)) := (Only.refl _ _).alloc _
  have hcb1 : (w.alloc (.cells #[.int .i64 c] 3)).cell? ⟨w.heap.size, 0, none⟩ = some (.int .i64 c) := (Row.new w 3 [.int .i64 c]).cell 0 rfl
  have HR1 := Lib.hid (HR0.out.only ho1 (by simp) (by simp))
  go_enter Try.func14, Try.ntmps14
  go_wp2_with fail
  refine (class_rep _ _ _ _ HR1.out _).mono ?_
  rintro e _ ⟨rfl, rfl⟩
  rw [hcb.out]
  go_wp2_with fail
  refine (indexFunc1 _ b P.n cap P.pg h24 HR1.out.pg w.heap.size c hc hcb1).mono ?_
  rintro e w2 ⟨rfl, o2⟩
  rw [hidx.out]
  obtain ⟨cap2, z0, zf, zfb, zp, zb⟩ := (HR1.out.only o2 (by simp) (by simp)).facts
  go_wp2_with fail
  refine (indexFunc2 _ b P.n cap2 P.pg h24 (HR1.out.only o2 (by simp) (by simp)).pg).mono ?_
  rintro e w3 ⟨rfl, o3⟩
  rw [hidx2.out]
  clear z0 zf zfb zp zb
  have hP2 := Lib.hid ((HR1.out.only o2 (by simp) (by simp)).only o3 (by simp) (by simp))
  have hc3 := o3.cell (o2.cell hcb1 (by simp)) (by simp)
  obtain ⟨cap3, z0, zf, zfb, zp, zb⟩ := hP2.out.facts
  have O2 := Lib.hid ((ho1.trans o2 (by simp)).trans o3 (by simp))
  have hpc := (hP2.out.pg i hi).cls
  have zn1 : w.heap.size ≠ b := by omega
  have zn2 : b ≠ w.heap.size := by omega
  have zn3 : p ≠ b := hP2.out.ne
  clear o2 o3 hcb1 h0 hf hfb ho1
  have zok : PgAt ((w3.setCell ⟨b, i * 25, none⟩ (.int .i64 c)).drew) b (i * 25) pg1 := by rw [HPG.out]; exact (hP2.out.pg i hi).setCls c |>.drewN 1
  have zOB : Hid (PgOnly b (i * 25) w3 ((w3.setCell ⟨b, i * 25, none⟩ (.int .i64 c)).drew)) := ((PgOnly.refl _ _ _).set 0 (by omega) _).drewN 1
  have hgu := zok.used (k := pg1.gap c) (by have := hc.sz; omega)
  have hc2 := zOB.out.only.cell hc3 (by simpa using zn1)
  have z0' := zOB.out.only.cell z0 (by simpa using zn3)
  have zfb' : ∀ x, ((w3.setCell ⟨b, i * 25, none⟩ (.int .i64 c)).drew).frozen? ⟨b, x, none⟩ = false := fun x => by rw [show ∀ (wx : World) a, wx.drew.frozen? a = wx.frozen? a from fun _ _ => rfl, World.frozen?_setCell]; exact zfb x
  go_wp2_with fail
  go_still_tail 8, (by kernel_rfl)
  change wpList _ _ _ _ _ w3.drew
  have zfb1 : w3.drew.frozen? ⟨b, i * 25, none⟩ = false := zfb _
  have hpc1 : w3.drew.cell? ⟨b, i * 25, none⟩ = some (.int .i64 (P.pg i).cls) := hpc
  refine wpList_plain rfl fun K hK => ?_
  unfold Oper.wp
  go_simp
  refine hK _ _ ?_
  clear hK K
  refine wpList_nil ?_
  generalize (w3.setCell ⟨b, i * 25, none⟩ (.int .i64 c)).drew = w2 at *
  clear hc3 z0 zfb hpc hpc1 zfb1
  have z0 := z0'
  have zfb := zfb'
  clear z0' zfb'
  generalize hg0 : pg1.gap c = k at *
  have HG := Lib.hid hg0
  have hblk := hc.blk hg
  have hsz := hc.sz
  obtain ⟨m, hm⟩ : ∃ m, m = k * bsz c := ⟨_, rfl⟩
  obtain ⟨z, hz⟩ : ∃ z, z = bsz c := ⟨_, rfl⟩
  have HM := Lib.hid hm
  have HZ := Lib.hid hz
  have hi1 : (k : Int) * (z : Int) = (m : Int) := by rw [hm, hz]; simp
  have hi2 : ((k : Int) + 1) * (z : Int) = (m : Int) + (z : Int) := by rw [Int.add_mul, Int.one_mul, hi1]
  have hmz : m + z ≤ 16 := by have := hblk.1; rw [hm, hz]; exact this
  have hz8 : z ≤ 8 := by omega
  have hz2 : 0 < z := by omega
  have h16 : ¬ 16 = m := by omega
  have hb1 : (m : Int) + (z : Int) ≤ 16 := by omega
  have hb2 : (0 : Int) ≤ m := by omega
  have hb3 : (m : Int) ≤ (m : Int) + (z : Int) := by omega
  have hb4 : (0 : Int) ≤ (m : Int) + (z : Int) := by omega
  have hw1 : IntKind.i64.wrap (m : Int) = m := IntWalk.i64_in _ (by omega)
  have hw2 : IntKind.i64.wrap ((m : Int) + (z : Int)) = (m : Int) + (z : Int) := IntWalk.i64_in _ (by omega)
  have hw3 : IntKind.i64.wrap ((k : Int) + 1) = (k : Int) + 1 := IntWalk.i64_in _ (by omega)
  have hsize : ∀ wx, Calls Try.prog 54 #[.int .i64 c] wx (Exact wx (.int .i64 (z : Int))) := fun wx => by rw [HZ.out]; exact size_of wx c hc
  clear hm hz hblk
  clear hg0
  go_wp2_with fail
  have hfst := first_gap w2 b (i * 25) pg1 zok (by rw [hcls]; exact hc) (by rw [hcls, HG.out]; exact hg)
  rw [hcls, HG.out] at hfst
  refine hfst.mono ?_
  clear hfst
  rintro e w3x ⟨rfl, n3, rfl⟩
  have hk8 : k < 8 := by omega
  have zP := Lib.hid ((zok.drewN n3).setUsed hk8 true)
  have zO := Lib.hid ((zOB.out.drewN n3).setU hk8 (.bool true))
  have zc : ((w2.drewN n3).setCell ⟨b, i * 25 + 1 + k, none⟩ (.bool true)).cell? ⟨w.heap.size, 0, none⟩ = some (.int .i64 c) := (((PgOnly.refl b (i * 25) w2).drewN n3).setU hk8 (.bool true)).only.cell hc2 (by simpa using zn1)
  have zff : ∀ x, ((w2.drewN n3).setCell ⟨b, i * 25 + 1 + k, none⟩ (.bool true)).frozen? ⟨b, x, none⟩ = false := fun x => by rw [World.frozen?_setCell]; exact zfb x
  go_wp2_with fail
  generalize (w2.drewN n3).setCell ⟨b, i * 25 + 1 + k, none⟩ (.bool true) = w4 at *
  clear zok hgu z0 zfb hc2
  go_still_tail 13, (by kernel_rfl)
  repeat (first | still_step | still_call (still_exact (hsize _)))
  refine wpStill_nil ?_
  have ez : ((m : Int) + (z : Int)).toNat - m = z := by omega
  rw [ez]
  change wpList _ _ _ _ _ w4.drew
  have zzero : ∀ wx, (zeroValue 3).run Try.prog wx = .ok (.int .i64 0) wx := fun wx => by kernel_rfl
  refine wpList_clear rfl (.tmp 61) 39 3 rfl (.int .i64 0) Try.underlying39 zzero rfl rfl b (i * 25 + 9 + m) z (16 - m) rfl hz2 ?c1 ?c2 ?c3
  case c1 =>
    intro j hj
    have := zP.out.cell (k := m + j) (by omega)
    rw [← Nat.add_assoc] at this
    show (w4.cell? _).isSome = true
    rw [this]
    rfl
  case c2 => exact fun j hj => zff _
  have zP5 : Hid (PgAt (w4.drew.setCells b (i * 25 + 9 + m) ((List.range z).map fun _ => Value.int .i64 0)) b (i * 25) { cls := pg1.cls, used := up pg1.used k true, cell := fun j => if m ≤ j ∧ j < m + z then 0 else pg1.cell j }) := (show PgAt w4.drew b (i * 25) _ from zP.out).setCells m z hmz (fun _ => 0)
  have zO5 : Hid (PgOnly b (i * 25) w3 (w4.drew.setCells b (i * 25 + 9 + m) ((List.range z).map fun _ => Value.int .i64 0))) := (show PgOnly b (i * 25) w3 w4.drew from zO.out.drewN 1).setCells m z hmz (fun _ => 0)
  rw [replicate_range]
  have zc5 : (w4.drew.setCells b (i * 25 + 9 + m) ((List.range z).map fun _ => Value.int .i64 0)).cell? ⟨w.heap.size, 0, none⟩ = some (.int .i64 c) := ((show PgOnly b (i * 25) w4 w4.drew from (PgOnly.refl _ _ _).drewN 1).setCells m z hmz (fun _ => 0)).only.cell zc (by simpa using zn1)
  generalize w4.drew.setCells b (i * 25 + 9 + m) ((List.range z).map fun _ => Value.int .i64 0) = w5 at *
  clear zc zff zP zO
  have hw4 : IntKind.i64.wrap ((i : Int) * 16) = (i : Int) * 16 := IntWalk.i64_in _ (by omega)
  go_wp2_with fail
  refine (hsize _).mono ?_
  rintro e _ ⟨rfl, rfl⟩
  go_wp2_with fail
  refine hR.out _ _ ⟨?_, ?_, ?_⟩
  · have e1 : ((16 * i : Nat) : Int) = (i : Int) * 16 + (m : Int) := by have h1 := HM.out; rw [HG0.out, Nat.zero_mul] at h1; omega
    rw [e1]
    rfl
  · rw [← HG0.out]
    refine hP2.out.turn hi ?_ zO5.out (HR0.out.ok.set ((HR0.out.ok i hi).take hc hold.out hg _))
    rw [htake.out k]
    have e2 : pg1.take c k (fun _ => 0) = { cls := pg1.cls, used := up pg1.used k true, cell := fun j => if m ≤ j ∧ j < m + z then 0 else pg1.cell j } := by
      unfold Pg.take
      rw [hcls, HM.out, HZ.out]
    rw [e2]
    exact zP5.out
  · exact (O2.out.mono (by simp) : Only [b] w w3).trans zO5.out.only (by simp)

theorem alloc_full (w : World) (p b : Nat) (P : Pl) (h : PRep w p b P) (c : Int) (hc : IsC c) (hn : ∀ j, j < P.n → (P.pg j).partly c = false) (hp : ∀ j, j < P.n → ¬ (P.pg j).cls < 0) :
    Calls Try.prog 14 #[.pointer (some ⟨p, 0, none⟩), .int .i64 c] w fun e w' =>
      e = .returned (.tuple #[.int .i64 0, .int .i64 14]) ∧ PRep w' p b P ∧ Only [b] w w' := by
  refine calls_abs fun R hR => ?_
  have hcb : Hid (isCB c = true) := isCB_iff.2 hc
  have hidx : Hid (idx (fun i => (P.pg i).partly c) P.n = -1) := by
    show _ = _
    rw [idx_no (by rw [fst_none (f := fun i => (P.pg i).partly c) hn]; omega)]
  have hidx2 : Hid (idx (fun i => decide ((P.pg i).cls < 0)) P.n = -1) := by
    show _ = _
    rw [idx_no (by rw [fst_none (f := fun i => decide ((P.pg i).cls < 0)) (fun j hj => by simpa using hp j hj)]; omega)]
  clear hp hn
  obtain ⟨cap, h0, hf, hfb, _, _⟩ := h.facts
  have HR0 := Lib.hid h
  clear h
  have h24 := HR0.out.n24
  have hlt := HR0.out.facts.choose_spec.2.2.2
  have ho1 : Only [] w (w.alloc (.cells #[.int .i64 c] 3)) := (Only.refl _ _).alloc _
  have hcb1 : (w.alloc (.cells #[.int .i64 c] 3)).cell? ⟨w.heap.size, 0, none⟩ = some (.int .i64 c) := (Row.new w 3 [.int .i64 c]).cell 0 rfl
  have HR1 := Lib.hid (HR0.out.only ho1 (by simp) (by simp))
  go_enter Try.func14, Try.ntmps14
  go_wp2_with fail
  refine (class_rep _ _ _ _ HR1.out _).mono ?_
  rintro e _ ⟨rfl, rfl⟩
  rw [hcb.out]
  go_wp2_with fail
  refine (indexFunc1 _ b P.n cap P.pg h24 HR1.out.pg w.heap.size c hc hcb1).mono ?_
  rintro e w2 ⟨rfl, o2⟩
  rw [hidx.out]
  obtain ⟨cap2, z0, zf, zfb, zp, zb⟩ := (HR1.out.only o2 (by simp) (by simp)).facts
  go_wp2_with fail
  refine (indexFunc2 _ b P.n cap2 P.pg h24 (HR1.out.only o2 (by simp) (by simp)).pg).mono ?_
  rintro e w3 ⟨rfl, o3⟩
  rw [hidx2.out]
  go_wp2_with fail
  exact hR.out _ _ ⟨rfl, (HR1.out.only o2 (by simp) (by simp)).only o3 (by simp) (by simp), ((ho1.trans o2 (by simp)).trans o3 (by simp)).mono (by simp)⟩

theorem alloc_bad (w : World) (p b : Nat) (P : Pl) (h : PRep w p b P) (c : Int) (hc : c < 0 ∨ 2 < c) :
    Calls Try.prog 14 #[.pointer (some ⟨p, 0, none⟩), .int .i64 c] w fun e w' =>
      e = .returned (.tuple #[.int .i64 0, .int .i64 1]) ∧ PRep w' p b P ∧ Only [b] w w' := by
  refine calls_abs fun R hR => ?_
  have hcb : Hid (isCB c = false) := by
    cases hq : isCB c with
    | false => rfl
    | true => have := isCB_iff.1 hq; unfold IsC at this; omega
  have ho1 : Only [] w (w.alloc (.cells #[.int .i64 c] 3)) := (Only.refl _ _).alloc _
  have HR1 := Lib.hid (h.only ho1 (by simp) (by simp))
  go_enter Try.func14, Try.ntmps14
  go_wp2_with fail
  refine (class_rep _ _ _ _ HR1.out _).mono ?_
  rintro e _ ⟨rfl, rfl⟩
  rw [hcb.out]
  go_wp2_with fail
  exact hR.out _ _ ⟨rfl, HR1.out, ho1.mono (by simp)⟩
theorem alloc_nil (w : World) (c : Int) :
    Calls Try.prog 14 #[.pointer none, .int .i64 c] w fun e w' => e = .returned (.tuple #[.int .i64 0, .int .i64 1]) ∧ Only [] w w' := by
  refine calls_abs fun R hR => ?_
  go_enter Try.func14, Try.ntmps14
  go_wp2_with fail
  refine (class_nil _ _).mono ?_
  rintro e _ ⟨rfl, rfl⟩
  go_wp2_with fail
  exact hR.out _ _ ⟨rfl, (Only.refl _ _).alloc _⟩

theorem alloc_rep (w : World) (p b : Nat) (P : Pl) (h : PRep w p b P) (c : Int) :
    Calls Try.prog 14 #[.pointer (some ⟨p, 0, none⟩), .int .i64 c] w fun e w' =>
      e = .returned (.tuple #[.int .i64 (P.alloc c).1, .int .i64 (P.alloc c).2.1]) ∧ PRep w' p b (P.alloc c).2.2 ∧ Only [b] w w' := by
  rcases P.alloc_cases c with hc | ⟨hc, ⟨i, hi, hp, hb⟩ | ⟨hn, ⟨i, hi, hp, hb⟩ | hf⟩⟩
  · rw [Pl.alloc_bad hc]; exact alloc_bad w p b P h c hc
  · rw [Pl.alloc_part hc hi hp hb]; exact alloc_part w p b P h c hc i hi hp hb
  · rw [Pl.alloc_new hc hn hi hp hb]; exact alloc_new w p b P h c hc hn i hi hp hb
  · rw [Pl.alloc_full hc hn hf]; exact alloc_full w p b P h c hc hn hf
end Go.Proofs.Ytngmiacekcmidaa
