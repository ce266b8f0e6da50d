/- Contracts of the two logs, more: Add, the reference's functions, New; the two side by side. -/
import Derived.Test.YtemdkffkpdhciaaLog
namespace Go.Proofs.Ytemdkffkpdhciaa
open Go.RowKit
set_option maxHeartbeats 400000
set_option maxRecDepth 100000
set_option linter.unusedVariables false

theorem LSt.add_bad {s : LSt} {n : Int} (h : isWordB n = false) : s.add n = (1, s) := by unfold LSt.add; rw [if_neg (by rw [h]; simp)]
theorem LSt.add_full {s : LSt} {n : Int} (h : isWordB n = true) (hf : s.kept.length = s.room) : s.add n = (0, { s with kept := s.kept.tail ++ [n], lost := s.lost + 1 }) := by unfold LSt.add; rw [if_pos h, if_pos hf]
theorem LSt.add_more {s : LSt} {n : Int} (h : isWordB n = true) (hf : ¬ s.kept.length = s.room) : s.add n = (0, { s with kept := s.kept ++ [n] }) := by unfold LSt.add; rw [if_pos h, if_neg hf]
theorem RLog.add_bad {s : RLog} {n : Int} (h : isWordB n = false) : s.add n = (1, s) := by unfold RLog.add; rw [if_neg (by rw [h]; simp)]
theorem RLog.add_full {s : RLog} {n : Int} (h : isWordB n = true) (hf : s.words.length + 1 - s.gone > s.size) : s.add n = (0, { s with words := s.words ++ [n], gone := s.gone + 1 }) := by unfold RLog.add; rw [if_pos h, if_pos hf]
theorem RLog.add_more {s : RLog} {n : Int} (h : isWordB n = true) (hf : ¬ s.words.length + 1 - s.gone > s.size) : s.add n = (0, { s with words := s.words ++ [n] }) := by unfold RLog.add; rw [if_pos h, if_neg hf]

theorem logAdd_rep (w : World) (l : Nat) (F : List Nat) (s : LSt) (h : ORep w 81 l F s.row s.kept) (hk : s.ok) (n : Int) :
    Calls Try.prog 31 #[.pointer (some ⟨l, 0, none⟩), .int .i64 n] w fun e w' => ∃ F', e = .returned (.int .i64 (s.add n).1) ∧ ORep w' 81 l F' (s.add n).2.row (s.add n).2.kept ∧ Only F w w' ∧ Within w F F' := by
  refine calls_abs fun R hR => ?_
  have hkl := hk.kl
  have hr1 := hk.r1
  have hr16 := hk.r16
  have hlo := hk.lo
  have HF := Lib.hid (Within.refl w F)
  go_enter Try.func31, Try.ntmps31
  go_wp2_with fail
  refine (logNone_rep _ _ _ _ h hk).mono ?_
  rintro e _ ⟨rfl, rfl⟩
  go_wp2_with fail
  refine (isWord_any _ _).mono ?_
  rintro e _ ⟨rfl, rfl⟩
  cases hw : isWordB n
  · go_wp2_with fail
    refine hR.out _ _ ⟨F, ?_⟩
    rw [LSt.add_bad hw]
    exact ⟨rfl, h, Only.refl _ _, HF.out⟩
  · obtain ⟨v, hp, hv, hne, rfl⟩ := h.ex
    have h0 := hp.cell 0 rfl
    have h1 := hp.cell 1 rfl
    have h2 := hp.cell 2 rfl
    have hf := hp.free
    have hlt := hp.lt
    obtain ⟨a0, c0, hv0⟩ := hv.len
    have HNE := Lib.hid hne
    have HV0 := Lib.hid hv
    clear hne
    cases hfull : ((s.kept.length : Int) == (s.room : Int))
    · subst hv0
      go_wp2_with fail
      go_quiet (fail)
      go_wp2_with (at_builtin; refine append_int1 rfl _ _ rfl 0 _ _ rfl ((hv.drewN nq).alloc _) w.heap.size n rfl ?c1 ?c2 ?c3 ?c4)
      case c1 => exact (Row.new w _ [_]).cell 0 rfl
      case c2 => omega
      case c3 => omega
      case c4 =>
        intro v' w1 hv1 ho1 hb1
        have HB : Hid (v'.ownBlock = (Value.slice a0 s.kept.length c0).ownBlock ∨ v'.ownBlock = some (w.heap.size + 1)) := by simpa [Hid] using hb1
        have hr := ho1.row (((hp.drewN nq).alloc _)) (by simpa using HNE.out)
        obtain ⟨a', cap', hform⟩ := hv1.len
        rw [List.length_append, List.length_singleton] at hform
        have hf' := hr.free
        have hr0 := hr.cell 0 rfl
        have HO := Lib.hid ho1
        have HV := Lib.hid hv1
        clear hb1 ho1 hv1 h0 h1 h2 hf hv
        subst hform
        go_wp2_with fail
        obtain ⟨g1, g2, g3⟩ := ORep.put (w := w) 0 (LSt.row { s with kept := s.kept ++ [n] }) (Value.slice a0 s.kept.length c0).ownBlock ((((Only.refl _ _).drewN nq).alloc _).trans HO.out (fun x hx => .inl (List.mem_cons_of_mem _ hx))) hr HV.out (HB.out.imp id (fun e k hk => by rw [e] at hk; cases hk; omega)) HNE.out hlt rfl
        refine hR.out _ _ ⟨l :: (Value.slice a' (s.kept.length + 1) cap').ownBlock.toList, ?_⟩
        rw [LSt.add_more hw (by intro e; rw [e] at hfull; simp at hfull)]
        exact ⟨rfl, g1, g2, g3⟩
    · have hfl : s.kept.length = s.room := Int.ofNat.inj (by simpa using hfull)
      rcases hv.form with ⟨_, e⟩ | ⟨g, cap, e, hg0, hg1, hg2, hg3⟩
      · rw [e] at hfl; simp at hfl; omega
      have HFL := Lib.hid hfl
      have HG := Lib.hid hg3
      clear hfl hg3 hv0
      subst e
      have hk1 : 1 ≤ s.kept.length := by have := HFL.out; omega
      have hclone : ∀ (wz : World) (of c : Nat), wz.heap = w.heap → (of = 0 ∧ cap = 1 ∨ of = 1 ∧ cap ≠ 1) → Calls Try.prog 53 #[.slice (some ⟨g, of, none⟩) (s.kept.length - 1) c] wz fun e w' => ∃ v, e = .returned v ∧ Ints w' wz.heap.size v s.kept.tail ∧ Only [] wz w' ∧ v ≠ .slice none 0 0 := by
        intro wz of c hz ho
        refine clone_intsO wz g of (s.kept.length - 1) c s.kept.tail (by simp) (by omega) (fun i hi => ?_)
        have := HG.out (of + i) (by omega)
        rw [← World.cell?_of_block (w := w) (w' := wz) (by rw [hz])] at this
        rw [this]
        have e : of = 1 := by omega
        subst e
        simp [gI, List.getElem?_tail, Nat.add_comm 1 i]
      have HC := Lib.hid hclone
      clear hclone
      by_cases hc1 : cap = 1
      all_goals
        have HC1 := Lib.hid hc1
        go_wp2_with fail
        go_quiet (fail)
        go_wp2_with fail
        first | refine (HC.out (w.drewN nq) 0 0 rfl (.inl ⟨rfl, HC1.out⟩)).mono ?_ | refine (HC.out (w.drewN nq) 1 (cap - 1) rfl (.inr ⟨rfl, HC1.out⟩)).mono ?_
        rintro e w1 ⟨v1, rfl, i1, o1, vn1⟩
        have hr1 := o1.row (hp.drewN nq) (by simp)
        have e0 := hr1.cell 0 rfl
        have e1 := hr1.cell 1 rfl
        have e2 := hr1.cell 2 rfl
        have ef := hr1.free
        have hbase : Hid (w.heap.size ≤ w1.heap.size) := o1.size
        obtain ⟨ax, cx, hx⟩ := i1.len
        rw [List.length_tail] at hx
        have I1 := Lib.hid i1
        have O1 := Lib.hid o1
        clear i1 o1 vn1 h0 h1 h2 hf hc1 hv
        subst hx
        have hnl : Hid ((Value.slice ax (s.kept.length - 1) cx).ownBlock ≠ some l) := by
          intro e
          have := (I1.out.own l e).1
          simp at this
          omega
        have i2 : Ints ((w1.setCell ⟨l, 0, none⟩ (.slice ax (s.kept.length - 1) cx)).setCell ⟨l, 2, none⟩ (.int .i64 (s.lost + 1))) 0 (.slice ax (s.kept.length - 1) cx) s.kept.tail :=
          (I1.out.base (Nat.zero_le _)).only (F := [l]) (((Only.refl _ _).set (by simp) _).set (by simp) _) (fun k hk hm => hnl.out (by simp at hm; rw [← hm]; exact hk))
        go_wp2_with (at_builtin; refine append_int1 rfl _ _ rfl 0 _ _ rfl (i2.alloc _) w1.heap.size n rfl ?c1 ?c2 ?c3 ?c4)
        case c1 => exact (World.cell?_alloc_at _ _ _ 0 (by simp)).trans rfl
        case c2 => simp; omega
        case c3 => omega
        case c4 =>
          intro v' w2 hv1 ho1 hb1
          have hbk : ∀ k, (Value.slice ax (s.kept.length - 1) cx).ownBlock = some k → w.heap.size ≤ k := fun k hk => (I1.out.own k hk).1
          have HB : Hid (∀ k, v'.ownBlock = some k → w.heap.size ≤ k) := by
            intro k hk
            rcases hb1 with hb | hb
            · rw [hb] at hk; exact hbk k hk
            · rw [hb] at hk
              cases hk
              have := hbase.out
              simp
              omega
          have hr := ho1.row (((hr1.set 0 (.slice ax (s.kept.length - 1) cx)).set 2 (.int .i64 (s.lost + 1))).alloc _) (fun hm => by have := hbk l (by simpa using hm); omega)
          have HO : Hid (Only (l :: (some g).toList) w w2) := by
            refine ((((((Only.refl _ _).drewN nq).trans O1.out (by simp)).set (by simp) _).set (by simp) _).alloc _).trans ho1 (fun x hx => .inr (hbk x (by simpa using hx)))
          obtain ⟨a', cap', hform⟩ := hv1.len
          rw [List.length_append, List.length_singleton, List.length_tail, Nat.sub_add_cancel hk1] at hform
          have hf' := hr.free
          have hr0 := hr.cell 0 rfl
          have HV := Lib.hid hv1
          have HBK := Lib.hid hbk
          clear hb1 ho1 hv1 ef e0 e1 e2 i2 hbk
          subst hform
          go_wp2_with fail
          obtain ⟨g1, g2, g3⟩ := ORep.put (w := w) 0 (LSt.row { s with kept := s.kept.tail ++ [n], lost := s.lost + 1 }) (some g) HO.out hr HV.out (.inr HB.out) HNE.out hlt rfl
          refine hR.out _ _ ⟨l :: (Value.slice a' s.kept.length cap').ownBlock.toList, ?_⟩
          rw [LSt.add_full hw HFL.out]
          exact ⟨rfl, g1, g2, g3⟩
end Go.Proofs.Ytemdkffkpdhciaa
