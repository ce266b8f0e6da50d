/- The law's own functions alike, sane, word. -/
import Derived.Test.YtemdkffkpdhciaaQLaw
namespace Go.Proofs.Ytemdkffkpdhciaa
open Go.RowKit
set_option maxHeartbeats 400000

theorem alike_both (w : World) (B N q c p : Nat) (F : List Nat) (s : QSt) (t : RSt) (h : Both w B N q c p F s t) (hN : N < 274877906944) :
    Calls Try.prog 22 #[.pointer (some ⟨q, 0, none⟩), .pointer (some ⟨p, 0, none⟩)] w fun e w' =>
      e = .returned (.bool true) ∧ Only [] w w' := by
  refine calls_abs fun R hR => ?_
  have hlen := h.len
  have hsok := h.cpl.sok
  have htok := h.cpl.tok
  have e1 : decide (0 < t.putS) = ((s.put : Int) != 0) := by rw [← h.cpl.put, Bool.eq_iff_iff]; simp; omega
  have e2 : decide (0 < t.takeS) = ((s.take : Int) != 0) := by rw [← h.cpl.take, Bool.eq_iff_iff]; simp; omega
  have e3 : (t.over : Int) - t.taken = s.len := by rw [h.cpl.items.2]; have := htok.tk; omega
  have hil : s.items.length < 1099511627776 := by rw [show s.items.length = s.len from s.itemsTo_len s.len]; have := s.len_lt hsok; have := hsok.n9; omega
  have E1 := Lib.hid e1
  have E2 := Lib.hid e2
  have E3 := Lib.hid e3
  have HIL := Lib.hid hil
  have HIT := Lib.hid h.cpl.items.1
  clear e1 e2 e3 hil
  go_enter Try.func22, Try.ntmps22
  go_wp2_with fail
  refine (busy_rep _ _ _ _ h.hq hsok).mono ?_
  rintro e _ ⟨rfl, n1, rfl⟩
  go_wp2_with fail
  have hcc := refBusy_rep (w.drewN n1) p F t (h.drewN n1).hp
  rw [E1.out, E2.out] at hcc
  refine hcc.mono ?_
  rintro e _ ⟨rfl, n2, rfl⟩
  clear hcc
  go_wp2_with fail
  refine (len_rep _ _ _ _ (h.drewN _).hq hsok).mono ?_
  rintro e w1 ⟨rfl, o1⟩
  have h1 := (h.drewN _).only o1 (by simp)
  go_wp2_with fail
  have hcc := refLen_rep w1 p F t h1.hp htok (by omega)
  rw [E3.out] at hcc
  refine hcc.mono ?_
  rintro e _ ⟨rfl, n3, rfl⟩
  clear hcc
  go_wp2_with fail
  refine (items_rep _ _ _ _ (h1.drewN _).hq hsok).mono ?_
  rintro e w2 ⟨v2, rfl, i2, o2⟩
  have h2 := (h1.drewN _).only o2 (by simp)
  go_wp2_with fail
  have hcc := refItems_rep w2 p F t h2.hp htok (by omega)
  rw [HIT.out] at hcc
  refine hcc.mono ?_
  rintro e w3 ⟨v3, rfl, i3, o3⟩
  clear hcc
  go_wp2_with fail
  refine (ints_eq w3 _ _ _ (i2.only o3 (by simp)).read i3.read HIL.out).mono ?_
  rintro e _ ⟨rfl, n4, rfl⟩
  go_wp2_with fail
  refine hR.out _ _ ⟨rfl, ?_⟩
  exact ((((Only.refl _ _).drewN _).trans o1 (by simp)).drewN _ |>.trans o2 (by simp) |>.trans o3 (by simp)).drewN _

def sq1 : QSt := ((QSt.new 1).doPut 5).2.2
def sq2 : QSt := (sq1.doPut 6).2.2
def sq3 : QSt := sq2.doTake.2.2.2
theorem sq1_ok : sq1.ok := ⟨by decide, by decide, by decide, by decide, by decide, by decide⟩
theorem sq2_ok : sq2.ok := ⟨by decide, by decide, by decide, by decide, by decide, by decide⟩
theorem sq3_ok : sq3.ok := ⟨by decide, by decide, by decide, by decide, by decide, by decide⟩

theorem sane_any (w : World) :
    Calls Try.prog 12 #[] w fun e w' => e = .returned (.bool true) ∧ Only [] w w' := by
  refine calls_abs fun R hR => ?_
  have k0 := QSt.new_ok 1 (by omega) (by omega)
  go_enter Try.func12, Try.ntmps12
  go_wp2_with fail
  refine (new_yes w 1 (by omega) (by omega)).mono ?_
  rintro e w1 ⟨q, c, rfl, h1, o1, b1, b2⟩
  go_wp2_with fail
  have c1 := doPut_rep w1 _ _ _ h1 k0 5
  rw [show ((QSt.new 1).doPut 5).1 = true from rfl, show ((QSt.new 1).doPut 5).2.1 = 0 from rfl, show ((QSt.new 1).doPut 5).2.2 = sq1 from rfl] at c1
  refine c1.mono ?_
  rintro e w2 ⟨rfl, h2, o2⟩
  clear c1
  go_wp2_with fail
  have c1 := doPut_rep w2 _ _ _ h2 sq1_ok 6
  rw [show (sq1.doPut 6).1 = false from rfl, show (sq1.doPut 6).2.1 = 0 from rfl, show (sq1.doPut 6).2.2 = sq2 from rfl] at c1
  refine c1.mono ?_
  rintro e w3 ⟨rfl, h3, o3⟩
  clear c1
  go_wp2_with fail
  have c1 := doTake_rep w3 _ _ _ h3 sq2_ok
  rw [show sq2.doTake.1 = 5 from rfl, show sq2.doTake.2.1 = true from rfl, show sq2.doTake.2.2.1 = 0 from rfl, show sq2.doTake.2.2.2 = sq3 from rfl] at c1
  refine c1.mono ?_
  rintro e w4 ⟨rfl, h4, o4⟩
  clear c1
  go_wp2_with fail
  have c1 := doTake_rep w4 _ _ _ h4 sq3_ok
  rw [show sq3.doTake.1 = 0 from rfl, show sq3.doTake.2.1 = false from rfl, show sq3.doTake.2.2.1 = 0 from rfl] at c1
  refine c1.mono ?_
  rintro e w5 ⟨rfl, h5, o5⟩
  clear c1
  go_wp2_with fail
  have hm : ∀ x ∈ [q, c], x ∈ ([] : List Nat) ∨ w.heap.size ≤ x := by
    intro x hx
    simp only [List.mem_cons, List.not_mem_nil, or_false] at hx
    rcases hx with rfl | rfl
    · exact .inr b1
    · exact .inr b2
  exact hR.out _ _ ⟨rfl, (((o1.trans o2 hm).trans o3 hm).trans o4 hm).trans o5 hm⟩

theorem lawWord_any (n : Int) (w : World) :
    Calls Try.prog 13 #[.int .i64 n] w (Exact w (.bool (isWordB n))) := by
  by_cases h1 : -2147483648 ≤ n
  · by_cases h2 : n ≤ 2147483647
    · go_enter Try.func13, Try.ntmps13
      go_wp2
      go_ret
      exact ⟨by simp [isWordB, h1, h2], rfl⟩
    · go_enter Try.func13, Try.ntmps13
      go_wp2
      go_ret
      exact ⟨by simp [isWordB, h1, h2], rfl⟩
  · go_enter Try.func13, Try.ntmps13
    go_wp2
    go_ret
    exact ⟨by simp [isWordB]; omega, rfl⟩
end Go.Proofs.Ytemdkffkpdhciaa
