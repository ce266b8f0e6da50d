/- Contracts of the reference's queue over the model RSt. -/
import Derived.Test.YtemdkffkpdhciaaQueue
namespace Go.Proofs.Ytemdkffkpdhciaa
open Go.RowKit

def RSt.row (v : Value) (s : RSt) : List Value :=
  [.int .i64 s.size, .int .i64 s.over, .int .i64 s.taken, v, .int .i64 s.putS, .int .i64 s.takeS]

/-- The blocks that a queue of the reference takes up. -/
structure RRep (w : World) (p : Nat) (F : List Nat) (s : RSt) : Prop where
  ex : ∃ v, Row w p 74 (s.row v) ∧ Ints w 0 v s.words ∧ v.ownBlock ≠ some p ∧ F = p :: v.ownBlock.toList

/-- The blocks in G are among those in F, or are new. -/
def Within (w : World) (F G : List Nat) : Prop := ∀ x ∈ G, x ∈ F ∨ w.heap.size ≤ x
theorem Within.refl (w : World) (F : List Nat) : Within w F F := fun _ h => .inl h
theorem Within.trans {w w' : World} {F G H : List Nat} (h : Within w F G) (k : Within w' G H) (hw : w.heap.size ≤ w'.heap.size) : Within w F H := fun x hx => by
  rcases k x hx with h1 | h1
  · exact h x h1
  · exact .inr (by omega)

theorem RRep.lt {w : World} {p : Nat} {F : List Nat} {s : RSt} (h : RRep w p F s) : ∀ x ∈ F, x < w.heap.size := by
  obtain ⟨v, hp, hv, hne, rfl⟩ := h.ex
  intro x hx
  rcases List.mem_cons.1 hx with rfl | hx
  · exact hp.lt
  · exact (hv.own x (by simpa using hx)).2
theorem RRep.mem {w : World} {p : Nat} {F : List Nat} {s : RSt} (h : RRep w p F s) : p ∈ F := by
  obtain ⟨v, hp, hv, hne, rfl⟩ := h.ex
  simp
theorem RRep.only {w w' : World} {p : Nat} {F G : List Nat} {s : RSt} (h : RRep w p F s) (k : Only G w w') (hd : ∀ x ∈ F, x ∉ G) : RRep w' p F s := by
  obtain ⟨v, hp, hv, hne, rfl⟩ := h.ex
  exact ⟨v, k.row hp (hd p (by simp)), hv.only k (fun x hx => hd x (by rw [hx]; simp)), hne, rfl⟩
theorem RRep.drewN {w : World} {p : Nat} {F : List Nat} {s : RSt} (h : RRep w p F s) (n : Nat) : RRep (w.drewN n) p F s := ⟨h.ex⟩
theorem RRep.drew {w : World} {p : Nat} {F : List Nat} {s : RSt} (h : RRep w p F s) : RRep w.drew p F s := ⟨h.ex⟩
theorem RRep.set {w : World} {p : Nat} {F : List Nat} {s t : RSt} (h : RRep w p F s) (i : Nat) (x : Value) (hw : t.words = s.words) (ht : ∀ v, (s.row v).set i x = t.row v) : RRep (w.setCell ⟨p, i, none⟩ x) p F t := by
  obtain ⟨v, hp, hv, hne, rfl⟩ := h.ex
  refine ⟨v, by rw [← ht]; exact hp.set i x, ?_, hne, rfl⟩
  rw [hw]
  exact hv.only (F := [p]) ((Only.refl _ _).set (by simp) _) (fun k hk hm => hne (by simp at hm; rw [hk, hm]))
theorem RRep.setOver {w : World} {p : Nat} {F : List Nat} {s : RSt} (h : RRep w p F s) (n : Nat) : RRep (w.setCell ⟨p, 1, none⟩ (.int .i64 n)) p F { s with over := n } := h.set 1 _ rfl fun _ => rfl
theorem RRep.setTaken {w : World} {p : Nat} {F : List Nat} {s : RSt} (h : RRep w p F s) (n : Nat) : RRep (w.setCell ⟨p, 2, none⟩ (.int .i64 n)) p F { s with taken := n } := h.set 2 _ rfl fun _ => rfl
theorem RRep.setPut {w : World} {p : Nat} {F : List Nat} {s : RSt} (h : RRep w p F s) (n : Nat) : RRep (w.setCell ⟨p, 4, none⟩ (.int .i64 n)) p F { s with putS := n } := h.set 4 _ rfl fun _ => rfl
theorem RRep.setTake {w : World} {p : Nat} {F : List Nat} {s : RSt} (h : RRep w p F s) (n : Nat) : RRep (w.setCell ⟨p, 5, none⟩ (.int .i64 n)) p F { s with takeS := n } := h.set 5 _ rfl fun _ => rfl
/-- What the walk wants to know. -/
theorem RRep.facts {w : World} {p : Nat} {F : List Nat} {s : RSt} (h : RRep w p F s) : ∃ v, Ints w 0 v s.words ∧ v.ownBlock ≠ some p ∧ F = p :: v.ownBlock.toList ∧
    w.cell? ⟨p, 0, none⟩ = some (.int .i64 s.size) ∧ w.cell? ⟨p, 1, none⟩ = some (.int .i64 s.over) ∧ w.cell? ⟨p, 2, none⟩ = some (.int .i64 s.taken) ∧ w.cell? ⟨p, 3, none⟩ = some v ∧
    w.cell? ⟨p, 4, none⟩ = some (.int .i64 s.putS) ∧ w.cell? ⟨p, 5, none⟩ = some (.int .i64 s.takeS) ∧ (∀ i, w.frozen? ⟨p, i, none⟩ = false) ∧ p < w.heap.size := by
  obtain ⟨v, hp, hv, hne, rfl⟩ := h.ex
  exact ⟨v, hv, hne, rfl, hp.cell 0 rfl, hp.cell 1 rfl, hp.cell 2 rfl, hp.cell 3 rfl, hp.cell 4 rfl, hp.cell 5 rfl, hp.free, hp.lt⟩

set_option maxHeartbeats 400000
theorem refWord_any (n : Int) (w : World) :
    Calls Try.prog 57 #[.int .i64 n] w (Exact w (.bool (isWordB n))) := by
  by_cases h1 : -2147483648 ≤ n
  · by_cases h2 : n ≤ 2147483647
    · go_enter Try.func57, Try.ntmps57
      go_wp2
      go_ret
      exact ⟨by simp [isWordB, h1, h2], rfl⟩
    · go_enter Try.func57, Try.ntmps57
      go_wp2
      go_ret
      exact ⟨by simp [isWordB, h1, h2], rfl⟩
  · go_enter Try.func57, Try.ntmps57
    go_wp2
    go_ret
    exact ⟨by simp [isWordB]; omega, rfl⟩

theorem refBeginPut_rep (w : World) (p : Nat) (F : List Nat) (s : RSt) (h : RRep w p F s) (hb : s.words.length < 1099511627776) (n : Int) :
    Calls Try.prog 44 #[.pointer (some ⟨p, 0, none⟩), .int .i64 n] w fun e w' =>
      ∃ F', e = .returned (.int .i64 (s.beginPut n).1) ∧ RRep w' p F' (s.beginPut n).2 ∧ Only F w w' ∧ Within w F F' := by
  refine calls_abs fun R hR => ?_
  obtain ⟨v, hp, hv, hne, rfl⟩ := h.ex
  have h0 := hp.cell 0 rfl
  have h1 := hp.cell 1 rfl
  have h2 := hp.cell 2 rfl
  have h3 := hp.cell 3 rfl
  have h4 := hp.cell 4 rfl
  have h5 := hp.cell 5 rfl
  have hf := hp.free
  have hlt := hp.lt
  go_enter Try.func44, Try.ntmps44
  go_wp2_with fail
  refine (refWord_any _ _).mono ?_
  rintro e _ ⟨rfl, rfl⟩
  cases hw : isWordB n
  · go_wp2_with fail
    refine hR.out _ _ ⟨p :: v.ownBlock.toList, ?_⟩
    simp only [RSt.beginPut, hw]
    exact ⟨rfl, h, Only.refl _ _, Within.refl _ _⟩
  · by_cases hz : s.putS = 0
    · rw [hz] at h4
      have HZ := Lib.hid hz
      clear hz
      go_wp2_with (at_builtin; refine append_int1 rfl _ _ rfl 0 _ _ rfl (hv.alloc _) w.heap.size n rfl ?_ ?_ ?_ ?_)
      · exact (Row.new w _ [_]).cell 0 rfl
      · omega
      · omega
      · intro v' w1 hv1 ho1 hb1
        have HB : Hid (v'.ownBlock = v.ownBlock ∨ v'.ownBlock = some (w.heap.size + 1)) := by simpa [Hid] using hb1
        have hr := ho1.row (hp.alloc _) (by simpa using hne)
        obtain ⟨a', cap', hform⟩ := hv1.len
        rw [List.length_append, List.length_singleton] at hform
        have h3' := hr.cell 3 rfl
        have h4' := hr.cell 4 (v := .int .i64 0) (by have := HZ.out; simp [RSt.row, this])
        have hf' := hr.free
        have hlt' := hr.lt
        clear hb1 h0 h1 h2 h3 h4 h5 hf
        subst hform
        go_wp2_with fail
        have e : s.beginPut n = (0, { s with putS := 1, words := s.words ++ [n] }) := by simp only [RSt.beginPut, hw, HZ.out, if_true]
        have hne' : (Value.slice a' (s.words.length + 1) cap').ownBlock ≠ some p := by
          rcases HB.out with hb | hb
          · rw [hb]; exact hne
          · rw [hb]; intro e; simp at e; omega
        refine hR.out _ _ ⟨p :: (Value.slice a' (s.words.length + 1) cap').ownBlock.toList, ?_⟩
        rw [e]
        refine ⟨rfl, ⟨_, (hr.set 3 _).set 4 _, ?_, hne', rfl⟩, ?_, ?_⟩
        · exact hv1.only (F := [p]) (((Only.refl _ _).set (by simp) _).set (by simp) _) (fun k hk hm => hne' (by simp at hm; rw [hk, hm]))
        · refine ((((Only.refl _ _).alloc _).trans ho1 ?_).set (by simp) _).set (by simp) _
          intro x hx
          exact .inl (List.mem_cons_of_mem _ hx)
        · intro x hx
          rcases List.mem_cons.1 hx with rfl | hx
          · exact .inl (by simp)
          · rcases HB.out with hb | hb
            · rw [hb] at hx; exact .inl (List.mem_cons_of_mem _ hx)
            · rw [hb] at hx; simp at hx; exact .inr (by omega)
    · have hz' : 0 < s.putS := by omega
      go_wp2_with fail
      refine hR.out _ _ ⟨p :: v.ownBlock.toList, ?_⟩
      simp only [RSt.beginPut, hw, hz]
      exact ⟨rfl, h, Only.refl _ _, Within.refl _ _⟩

theorem refBeginTake_rep (w : World) (p : Nat) (F : List Nat) (s : RSt) (h : RRep w p F s) :
    Calls Try.prog 46 #[.pointer (some ⟨p, 0, none⟩)] w fun e w' =>
      e = .returned (.int .i64 s.beginTake.1) ∧ RRep w' p F s.beginTake.2 ∧ Only F w w' := by
  refine calls_abs fun R hR => ?_
  obtain ⟨v, hv, hne, hF, h0, h1, h2, h3, h4, h5, hf, hlt⟩ := h.facts
  clear hF
  by_cases hz : s.takeS = 0
  · rw [hz] at h5
    have HZ := Lib.hid hz
    clear hz
    go_enter Try.func46, Try.ntmps46
    go_wp2_with fail
    refine hR.out _ _ ?_
    have e : s.beginTake = (0, { s with takeS := 1 }) := by simp only [RSt.beginTake, HZ.out, if_true]
    rw [e]
    exact ⟨rfl, h.setTake 1, (Only.refl _ _).set (.inl h.mem) _⟩
  · have hz' : 0 < s.takeS := by omega
    go_enter Try.func46, Try.ntmps46
    go_wp2_with fail
    refine hR.out _ _ ?_
    have e : s.beginTake = (13, s) := by simp only [RSt.beginTake, hz, if_false]
    rw [e]
    exact ⟨rfl, h, Only.refl _ _⟩

theorem refStepPut_rep (w : World) (p : Nat) (F : List Nat) (s : RSt) (h : RRep w p F s) (hk : s.ok) (hb : s.words.length < 1099511627776) :
    Calls Try.prog 45 #[.pointer (some ⟨p, 0, none⟩)] w fun e w' =>
      e = .returned (.tuple #[.bool s.stepPut.1, .bool s.stepPut.2.1, .int .i64 s.stepPut.2.2.1]) ∧ RRep w' p F s.stepPut.2.2.2 ∧ Only F w w' := by
  refine calls_abs fun R hR => ?_
  obtain ⟨v, hp, hv, hne, rfl⟩ := h.ex
  have h0 := hp.cell 0 rfl
  have h1 := hp.cell 1 rfl
  have h2 := hp.cell 2 rfl
  have h3 := hp.cell 3 rfl
  have h4 := hp.cell 4 rfl
  have hf := hp.free
  have hk1 := hk.tk
  have hk8 := hk.n8
  have hov := hk.ov
  have hob : s.over ≤ s.words.length := by split at hov <;> omega
  have HOV := Lib.hid hov
  clear hov
  have hcase : s.putS = 0 ∨ s.putS = 1 ∨ s.putS = 2 ∨ s.putS = 3 := by have := hk.ps; omega
  rcases hcase with hp4 | hp4 | hp4 | hp4 <;> (rw [hp4] at h4; have HP := Lib.hid hp4; clear hp4)
  · go_enter Try.func45, Try.ntmps45
    go_wp2_with fail
    go_ret3
    refine hR.out _ _ ?_
    simp only [RSt.stepPut, HP.out]
    exact ⟨rfl, h, Only.refl _ _⟩
  · cases hz : ((s.over : Int) - (s.taken : Int) == (s.size : Int))
    · go_enter Try.func45, Try.ntmps45
      go_wp2_with fail
      go_quiet (fail)
      go_wp2_with fail
      go_ret3
      refine hR.out _ _ ?_
      have e : s.stepPut = (false, false, 0, { s with putS := 2 }) := by
        unfold RSt.stepPut
        rw [if_neg (by rw [HP.out]; omega), if_pos HP.out, if_neg]
        rw [beq_eq_false_iff_ne] at hz
        omega
      rw [e]
      exact ⟨rfl, (h.drewN _).setPut 2, ((Only.refl _ _).drewN _).set (by simp) _⟩
    · have hwl : 1 ≤ s.words.length := by have := HOV.out; rw [HP.out] at this; simp at this; omega
      rcases hv.form with ⟨_, e⟩ | ⟨g, cap, rfl, hg0, hg1, hg2, hg3⟩
      · rw [e] at hwl; simp at hwl
      have hoc : s.over ≤ cap := by omega
      clear hg3
      go_enter Try.func45, Try.ntmps45
      go_wp2_with fail
      go_quiet (fail)
      go_wp2_with fail
      trace "REG"
      go_region
      go_wp2_with fail
      go_ret3
      refine hR.out _ _ ?_
      have e : s.stepPut = (true, false, 0, { s with words := s.words.take s.over, putS := 0 }) := by
        unfold RSt.stepPut
        rw [if_neg (by rw [HP.out]; omega), if_pos HP.out, if_pos]
        have := eq_of_beq hz
        omega
      rw [e]
      refine ⟨rfl, ⟨.slice (some ⟨g, 0, none⟩) s.over cap, ((hp.set 3 _).set 4 _).drewN _, ?_, hne, rfl⟩, (((Only.refl _ _).set (by simp) _).set (by simp) _).drewN _⟩
      exact ((hv.take hob).only (F := [p]) (((Only.refl _ _).set (by simp) _).set (by simp) _) (fun k hk hm => hne (by simp at hm; rw [← hm]; exact hk))).drewN _
  · go_enter Try.func45, Try.ntmps45
    go_wp2_with fail
    go_ret3
    refine hR.out _ _ ?_
    simp only [RSt.stepPut, HP.out]
    exact ⟨rfl, h.setPut 3, (Only.refl _ _).set (by simp) _⟩
  · go_enter Try.func45, Try.ntmps45
    go_wp2_with fail
    go_ret3
    refine hR.out _ _ ?_
    simp only [RSt.stepPut, HP.out]
    exact ⟨rfl, (h.setOver (s.over + 1)).setPut 0, ((Only.refl _ _).set (by simp) _).set (by simp) _⟩
end Go.Proofs.Ytemdkffkpdhciaa
