/- The law QueueWhole, walked. -/
import Derived.Test.YtemdkffkpdhciaaQCopies
namespace Go.Proofs.Ytemdkffkpdhciaa
open Go.RowKit
set_option maxHeartbeats 400000
set_option maxRecDepth 100000
set_option linter.unusedVariables false

/-- Two queues of the program that share no block; all lies from B on. -/
structure Pair (w : World) (B a ca b cb : Nat) (s t : QSt) : Prop where
  h1 : QRep w a ca s
  h2 : QRep w b cb t
  k1 : s.ok
  k2 : t.ok
  d1 : a ∉ [b, cb]
  d2 : ca ∉ [b, cb]
  e1 : B ≤ a
  e2 : B ≤ ca
  e3 : B ≤ b
  e4 : B ≤ cb
theorem Pair.drewN {w : World} {B a ca b cb : Nat} {s t : QSt} (h : Pair w B a ca b cb s t) (n : Nat) : Pair (w.drewN n) B a ca b cb s t := ⟨h.h1.drewN n, h.h2.drewN n, h.k1, h.k2, h.d1, h.d2, h.e1, h.e2, h.e3, h.e4⟩
theorem Pair.left {w w' : World} {B a ca b cb : Nat} {s s' t : QSt} (h : Pair w B a ca b cb s t) (g : QRep w' a ca s') (k : s'.ok) (o : Only [a, ca] w w') : Pair w' B a ca b cb s' t :=
  ⟨g, h.h2.only o (by have h1 := h.d1; have h2 := h.d2; simp only [List.mem_cons, List.not_mem_nil, or_false, not_or] at *; omega) (by have h1 := h.d1; have h2 := h.d2; simp only [List.mem_cons, List.not_mem_nil, or_false, not_or] at *; omega), k, h.k2, h.d1, h.d2, h.e1, h.e2, h.e3, h.e4⟩
theorem Pair.right {w w' : World} {B a ca b cb : Nat} {s t t' : QSt} (h : Pair w B a ca b cb s t) (g : QRep w' b cb t') (k : t'.ok) (o : Only [b, cb] w w') : Pair w' B a ca b cb s t' :=
  ⟨h.h1.only o h.d1 h.d2, g, h.k1, k, h.d1, h.d2, h.e1, h.e2, h.e3, h.e4⟩
theorem Pair.only {w w' : World} {B a ca b cb : Nat} {s t : QSt} (h : Pair w B a ca b cb s t) (o : Only [] w w') : Pair w' B a ca b cb s t :=
  ⟨h.h1.only o (by simp) (by simp), h.h2.only o (by simp) (by simp), h.k1, h.k2, h.d1, h.d2, h.e1, h.e2, h.e3, h.e4⟩
theorem Pair.mem1 {w : World} {B a ca b cb : Nat} {s t : QSt} (h : Pair w B a ca b cb s t) : ∀ x ∈ [a, ca], B ≤ x := by
  intro x hx
  simp only [List.mem_cons, List.not_mem_nil, or_false] at hx
  rcases hx with rfl | rfl
  · exact h.e1
  · exact h.e2
theorem Pair.mem2 {w : World} {B a ca b cb : Nat} {s t : QSt} (h : Pair w B a ca b cb s t) : ∀ x ∈ [b, cb], B ≤ x := by
  intro x hx
  simp only [List.mem_cons, List.not_mem_nil, or_false] at hx
  rcases hx with rfl | rfl
  · exact h.e3
  · exact h.e4

theorem QSt.loopPut_ok : ∀ (k : Nat) {s : QSt}, s.ok → (QSt.loopPut k s).2.ok
  | 0, _, h => h
  | k + 1, s, h => by
    unfold QSt.loopPut
    split
    · exact h.stepPut.1
    · exact QSt.loopPut_ok k h.stepPut.1
theorem QSt.loopTake_ok : ∀ (k : Nat) {s : QSt}, s.ok → (QSt.loopTake k s).2.2.ok
  | 0, _, h => h
  | k + 1, s, h => by
    unfold QSt.loopTake
    split
    · exact h.stepTake.1
    · exact QSt.loopTake_ok k h.stepTake.1
theorem QSt.ok.doPut {s : QSt} (h : s.ok) (n : Int) : (s.doPut n).2.2.ok := by
  unfold QSt.doPut
  split
  · exact QSt.loopPut_ok 3 (h.beginPut n).1
  · exact (h.beginPut n).1
theorem QSt.ok.doTake {s : QSt} (h : s.ok) : s.doTake.2.2.2.ok := by
  unfold QSt.doTake
  split
  · exact QSt.loopTake_ok 3 h.beginTake.1
  · exact h.beginTake.1

theorem walk_QueueWhole (a0 : Int) (a1 : Option Addr) (len1 cap1 : Nat) (f1 : Nat → Nat → Int) (a2 : Int) (w : World)
    (w0 : (Lit.int .i64 a0).wf = true) (w1 : Recs 2 w a1 len1 f1) (w2 : (Lit.int .i64 a2).wf = true) :
    Calls Try.prog 5 #[.int .i64 a0, .slice a1 len1 cap1, .int .i64 a2] w fun e w' => e = .returned (.bool true) ∧ Below w.heap.size w w' := by
  refine calls_abs fun R hR => ?_
  have hw0 := wf_bounds w0
  have hl1 := w1.1
  have R1 := Lib.hid w1
  clear w0 w1 w2
  rcases size_cases a0 with ⟨n, rfl, hn1, hn8⟩ | hbad
  · go_enter Try.func5, Try.ntmps5
    go_wp2_with fail
    refine (new_yes w n hn1 hn8).mono ?_
    rintro e w2 ⟨q, c, rfl, h2, o2, b2, b3⟩
    go_wp2_with fail
    refine (refNew_yes w2 n hn1 hn8).mono ?_
    rintro e w3 ⟨p, F, rfl, h3, o3, b4⟩
    obtain ⟨hb, hbel⟩ := Both.start hn1 hn8 h2 o2 b2 b3 h3 o3 b4
    clear h2 h3 o2 o3 b2 b3 b4
    go_upto_block 0 with fail
    go_cut [11] (fun _ wx => ∃ F' s' t', Both wx w.heap.size 300 q c p F' s' t' ∧ Below w.heap.size w wx)
    case first =>
      go_wp2_with fail
      go_loopw [11] (fun i wr => ∃ k : Nat, k ≤ len1 ∧ k ≤ 300 ∧ i = .int .i64 k ∧ ∃ F' s' t', Both wr w.heap.size k q c p F' s' t' ∧ Below w.heap.size w wr) (fun i _ => 300 - (intOf i).toNat)
      case atStart => exact ⟨0, by omega, by omega, rfl, F, _, _, hb, hbel⟩
      case round =>
        obtain ⟨k, hk, hk3, rfl, F', s', t', hb', hbel'⟩ := hrel
        by_cases hlt : k < len1 ∧ k < 300
        · obtain ⟨hlt1, hlt2⟩ := hlt
          obtain ⟨b, o, rfl, hc0, hc1⟩ := recs_at R1.out hbel' hlt1
          have hB : Hid (w.heap.size ≤ wr.heap.size) := hbel'.size
          go_wp2_with fail
          refine (do_both _ _ _ _ _ _ _ _ _ hb' (by omega) hB.out _ _).mono ?_
          rintro e w4 ⟨rfl, F4, s4, t4, hb4, o4, i4⟩
          have hbel4 : Below w.heap.size w w4 := hbel'.trans (o4.below hB.out (fun x hx => (hb'.lt x hx).1))
          clear hc0 hc1
          go_wp2_with fail
          refine ⟨⟨k + 1, by omega, by omega, by go_num, F4, s4, t4, hb4, hbel4⟩, by simp [intOf]; omega⟩
        · by_cases hk1 : k < len1
          · have hk2 : ¬ k < 300 := by omega
            clear hlt
            go_wp2_with fail
            go_meet
            exact ⟨F', s', t', hb'.more hk3, hbel'⟩
          · clear hlt
            go_wp2_with fail
            go_meet
            exact ⟨F', s', t', hb'.more hk3, hbel'⟩
    case rest =>
      obtain ⟨F1, s, t1, hb1, hbel1⟩ := hcut
      have hk := hb1.cpl.sok
      have hq := hb1.hq
      clear hb hbel hb1
      go_wp2_with fail
      refine (copy_rep _ _ _ _ hq hk).mono ?_
      rintro e w2 ⟨a, ca, rfl, g2, o2, b2, b3⟩
      have hq2 := hq.only o2 (by simp) (by simp)
      go_wp2_with fail
      refine (copy_rep _ _ _ _ hq2 hk).mono ?_
      rintro e w3 ⟨b, cb, rfl, g3, o3, b4, b5⟩
      have hS : w.heap.size ≤ wc.heap.size := hbel1.size
      have hS2 := o2.size
      have hp : Pair w3 w.heap.size a ca b cb s s := by
        have h1 := g2.lt
        exact ⟨g2.only o3 (by simp) (by simp), g3, hk, hk, by simp; omega, by simp; omega, by omega, by omega, by omega, by omega⟩
      have hbel2 : Below w.heap.size w w3 := (hbel1.trans (o2.below hS (by simp))).trans (o3.below (by omega) (by simp))
      clear hq hq2 g2 g3 o2 o3 b2 b3 b4 b5 hS hS2 hbel1
      go_wp2_with fail
      refine (doPut_rep _ _ _ _ hp.h1 hk a2).mono ?_
      rintro e w4 ⟨rfl, g4, o4⟩
      replace hbel2 := hbel2.trans (o4.below hbel2.size hp.mem1)
      replace hp := hp.left g4 (hk.doPut a2) o4
      clear g4 o4
      have e1 : Hid ((s.doPut a2).2.1 = (s.beginPut a2).1) := by unfold QSt.doPut Hid; split <;> simp_all
      rw [e1.out]
      go_wp2_with fail
      refine (beginPut_rep _ _ _ _ hp.h2 hk a2).mono ?_
      rintro e w5 ⟨rfl, g5, o5⟩
      replace o5 : Only [b, cb] w4 w5 := o5.mono (by simp)
      replace hbel2 := hbel2.trans (o5.below hbel2.size hp.mem2)
      replace hp := hp.right g5 (hk.beginPut a2).1 o5
      clear g5 o5
      go_upto_if 94 with fail
      go_cut [17, 18, 19] (fun _ _ _ wx => ∃ s', Pair wx w.heap.size a ca b cb s' s' ∧ Below w.heap.size w wx)
      case first =>
        cases hz : ((s.beginPut a2).1 == 0)
        · have e2 : (s.doPut a2).2.2 = (s.beginPut a2).2 := by unfold QSt.doPut; rw [if_neg (by simpa using hz)]
          rw [e2] at hp
          go_wp2_with fail
          go_meet
          exact ⟨_, hp, hbel2⟩
        · have hz' : (s.beginPut a2).1 = 0 := by simpa using hz
          have e2 : (s.doPut a2).2.2 = (QSt.loopPut 3 (s.beginPut a2).2).2 := by unfold QSt.doPut; rw [if_pos hz']
          have e3 : (s.doPut a2).1 = (QSt.loopPut 3 (s.beginPut a2).2).1 := by unfold QSt.doPut; rw [if_pos hz']
          have e4 : (s.beginPut a2).2.put = 1 := by
            by_cases hw : isWordB a2 = true
            · by_cases hpt : s.put = 0
              · rw [QSt.beginPut_a hw hpt]
              · rw [QSt.beginPut_b hw hpt] at hz'; simp at hz'
            · rw [QSt.beginPut_c hw] at hz'; simp at hz'
          rw [e2] at hp
          have E3 := Lib.hid e3
          have HZ := Lib.hid hz'
          clear hz' e2 e3
          generalize (s.beginPut a2).2 = s1 at *
          generalize hr1 : QSt.loopPut 3 s1 = r1 at *
          have HR1 := Lib.hid hr1
          have E4 := Lib.hid e4
          clear hr1 e4
          go_upto_block 2 with fail
          go_cut [17, 18, 19] (fun e g _ wx => e = .bool true ∧ g = .bool (s.doPut a2).1 ∧ Pair wx w.heap.size a ca b cb r1.2 r1.2 ∧ Below w.heap.size w wx)
          case first =>
            go_wp2_with fail
            go_loopw [17, 18, 19] (fun e g i wr => ∃ (k : Nat) (d : Bool) (x : QSt), k ≤ 3 ∧ i = .int .i64 k ∧ e = .bool d ∧ Pair wr w.heap.size a ca b cb r1.2 x ∧ Below w.heap.size w wr ∧
                ((d = true ∧ g = .bool (s.doPut a2).1 ∧ x = r1.2) ∨ (d = false ∧ x.put = k + 1 ∧ QSt.loopPut (3 - k) x = r1))) (fun _ _ i _ => 3 - (intOf i).toNat)
            case atStart => exact ⟨0, false, s1, by omega, rfl, rfl, hp, hbel2, .inr ⟨rfl, E4.out, HR1.out⟩⟩
            case round =>
              obtain ⟨k, d, x, hk3, rfl, rfl, hp', hbel', hd⟩ := hrel
              have HD := Lib.hid hd
              clear hd
              by_cases hlt : k < 3
              · cases d
                · have hx : Hid (x.put = k + 1 ∧ QSt.loopPut (3 - k) x = r1) := by
                    rcases HD.out with ⟨h1, _⟩ | ⟨_, h1, h2⟩
                    · cases h1
                    · exact ⟨h1, h2⟩
                  have hl3 : Hid (r1 = if x.stepPut.1 then (x.stepPut.2.1, x.stepPut.2.2.2) else QSt.loopPut (2 - k) x.stepPut.2.2.2) := by
                    have := hx.out.2
                    rw [show 3 - k = (2 - k) + 1 by omega] at this
                    exact this.symm
                  go_wp2_with fail
                  refine (stepPut_rep _ _ _ _ hp'.h2 hp'.k2).mono ?_
                  rintro e w6 ⟨rfl, g6, o6⟩
                  have hp6 := hp'.right g6 hp'.k2.stepPut.1 o6
                  have hbel6 := hbel'.trans (o6.below hbel'.size hp'.mem2)
                  have HX : Hid (x.stepPut.1 = false → x.put + 1 = x.stepPut.2.2.2.put) := fun h => (QSt.stepPut_moves hp'.k2 (by have := hx.out.1; omega) h).1
                  clear g6 o6
                  go_wp2_with fail
                  refine ⟨⟨k + 1, x.stepPut.1, x.stepPut.2.2.2, by omega, by go_num, rfl, hp6, hbel6, ?_⟩, by simp [intOf]; omega⟩
                  have h3 := hl3.out
                  cases h4 : x.stepPut.1
                  · rw [h4] at h3
                    refine .inr ⟨rfl, ?_, ?_⟩
                    · have := HX.out h4; have := hx.out.1; omega
                    · rw [show 3 - (k + 1) = 2 - k by omega]; exact h3.symm
                  · rw [h4] at h3
                    rw [E3.out, h3]
                    exact .inl ⟨rfl, rfl, rfl⟩
                · go_wp2_with fail
                  go_meet
                  rcases HD.out with ⟨_, h1, h2⟩ | ⟨h1, _⟩
                  · subst h2; exact ⟨rfl, h1, hp', hbel'⟩
                  · cases h1
              · have hd1 : d = true := by
                  rcases HD.out with ⟨h1, _⟩ | ⟨_, h1, _⟩
                  · exact h1
                  · have := hp'.k2.pt; omega
                subst hd1
                go_wp2_with fail
                go_meet
                rcases HD.out with ⟨_, h1, h2⟩ | ⟨h1, _⟩
                · subst h2; exact ⟨rfl, h1, hp', hbel'⟩
                · cases h1
          case rest =>
            obtain ⟨rfl, rfl, hp2, hbel3⟩ := hcut
            clear hp hbel2
            go_wp2_with fail
            refine (items_rep _ _ _ _ hp2.h1 hp2.k1).mono ?_
            rintro e w7 ⟨v7, rfl, i7, o7⟩
            have hp7 := hp2.only o7
            have hbel7 := hbel3.trans (o7.below hbel3.size (by simp))
            go_wp2_with fail
            refine (items_rep _ _ _ _ hp7.h2 hp7.k2).mono ?_
            rintro e w8 ⟨v8, rfl, i8, o8⟩
            have hp8 := hp7.only o8
            have hbel8 := hbel7.trans (o8.below hbel7.size (by simp))
            have hil : Hid (r1.2.items.length < 1099511627776) := by
              have h1 : r1.2.items.length = r1.2.len := r1.2.itemsTo_len r1.2.len
              have h2 := r1.2.len_lt hp2.k1
              have h3 := hp2.k1.n9
              show r1.2.items.length < 1099511627776
              omega
            go_wp2_with fail
            refine (ints_eq w8 _ _ _ (i7.only o8 (by simp)).read i8.read hil.out).mono ?_
            rintro e _ ⟨rfl, n8, rfl⟩
            go_wp2_with fail
            go_meet
            exact ⟨_, hp8.drewN _, hbel8.trans (((Only.refl [] _).drewN _).below hbel8.size (by simp))⟩
      case rest =>
        obtain ⟨s', hp3, hbel3⟩ := hcut
        clear hp hbel2
        have hk3 := hp3.k1
        go_wp2_with fail
        refine (doTake_rep _ _ _ _ hp3.h1 hk3).mono ?_
        rintro e w4 ⟨rfl, g4, o4⟩
        replace hbel3 := hbel3.trans (o4.below hbel3.size hp3.mem1)
        replace hp3 := hp3.left g4 hk3.doTake o4
        clear g4 o4
        have e1 : Hid (s'.doTake.2.2.1 = s'.beginTake.1) := by unfold QSt.doTake Hid; split <;> simp_all
        rw [e1.out]
        go_wp2_with fail
        refine (beginTake_rep _ _ _ _ hp3.h2 hk3).mono ?_
        rintro e w5 ⟨rfl, g5, o5⟩
        replace o5 : Only [b, cb] w4 w5 := o5.mono (by simp)
        replace hbel3 := hbel3.trans (o5.below hbel3.size hp3.mem2)
        replace hp3 := hp3.right g5 hk3.beginTake.1 o5
        clear g5 o5
        go_upto_if 136 with fail
        go_cut [24, 25, 26, 27] (fun _ _ _ _ wx => Below w.heap.size w wx)
        case first =>
          cases hz : (s'.beginTake.1 == 0)
          · go_wp2_with fail
            go_meet
            exact hbel3
          · have hz' : s'.beginTake.1 = 0 := by simpa using hz
            have e2 : s'.doTake.2.2.2 = (QSt.loopTake 3 s'.beginTake.2).2.2 := by unfold QSt.doTake; rw [if_pos hz']
            have e3 : s'.doTake.1 = (QSt.loopTake 3 s'.beginTake.2).2.1 := by unfold QSt.doTake; rw [if_pos hz']
            have e5 : s'.doTake.2.1 = (QSt.loopTake 3 s'.beginTake.2).1 := by unfold QSt.doTake; rw [if_pos hz']
            have e4 : s'.beginTake.2.take = 1 := by
              by_cases hpt : s'.take = 0
              · rw [QSt.beginTake_a hpt]
              · rw [QSt.beginTake_b hpt] at hz'; simp at hz'
            rw [e2] at hp3
            have E3 := Lib.hid e3
            have E5 := Lib.hid e5
            have HZ := Lib.hid hz'
            clear hz' e2 e3 e5
            generalize s'.beginTake.2 = s1 at *
            generalize hr1 : QSt.loopTake 3 s1 = r1 at *
            have HR1 := Lib.hid hr1
            have E4 := Lib.hid e4
            clear hr1 e4
            go_upto_block 4 with fail
            go_cut [24, 25, 26, 27] (fun e g y _ wx => e = .bool true ∧ g = .bool s'.doTake.2.1 ∧ y = .int .i64 s'.doTake.1 ∧ Pair wx w.heap.size a ca b cb r1.2.2 r1.2.2 ∧ Below w.heap.size w wx)
            case first =>
              go_wp2_with fail
              go_loopw [24, 25, 26, 27] (fun e g y i wr => ∃ (k : Nat) (d : Bool) (x : QSt), k ≤ 3 ∧ i = .int .i64 k ∧ e = .bool d ∧ Pair wr w.heap.size a ca b cb r1.2.2 x ∧ Below w.heap.size w wr ∧
                  ((d = true ∧ g = .bool s'.doTake.2.1 ∧ y = .int .i64 s'.doTake.1 ∧ x = r1.2.2) ∨ (d = false ∧ x.take = k + 1 ∧ QSt.loopTake (3 - k) x = r1))) (fun _ _ _ i _ => 3 - (intOf i).toNat)
              case atStart => exact ⟨0, false, s1, by omega, rfl, rfl, hp3, hbel3, .inr ⟨rfl, E4.out, HR1.out⟩⟩
              case round =>
                obtain ⟨k, d, x, hk3, rfl, rfl, hp', hbel', hd⟩ := hrel
                have HD := Lib.hid hd
                clear hd
                by_cases hlt : k < 3
                · cases d
                  · have hx : Hid (x.take = k + 1 ∧ QSt.loopTake (3 - k) x = r1) := by
                      rcases HD.out with ⟨h1, _⟩ | ⟨_, h1, h2⟩
                      · cases h1
                      · exact ⟨h1, h2⟩
                    have hl3 : Hid (r1 = if x.stepTake.1 then (x.stepTake.2.1, x.stepTake.2.2.1, x.stepTake.2.2.2.2) else QSt.loopTake (2 - k) x.stepTake.2.2.2.2) := by
                      have := hx.out.2
                      rw [show 3 - k = (2 - k) + 1 by omega] at this
                      exact this.symm
                    go_wp2_with fail
                    refine (stepTake_rep _ _ _ _ hp'.h2 hp'.k2).mono ?_
                    rintro e w6 ⟨rfl, g6, o6⟩
                    have hp6 := hp'.right g6 hp'.k2.stepTake.1 o6
                    have hbel6 := hbel'.trans (o6.below hbel'.size hp'.mem2)
                    have HX : Hid (x.stepTake.1 = false → x.take + 1 = x.stepTake.2.2.2.2.take) := fun h => (QSt.stepTake_moves hp'.k2 (by have := hx.out.1; omega) h).1
                    clear g6 o6
                    go_wp2_with fail
                    refine ⟨⟨k + 1, x.stepTake.1, x.stepTake.2.2.2.2, by omega, by go_num, rfl, hp6, hbel6, ?_⟩, by simp [intOf]; omega⟩
                    have h3 := hl3.out
                    cases h4 : x.stepTake.1
                    · rw [h4] at h3
                      refine .inr ⟨rfl, ?_, ?_⟩
                      · have := HX.out h4; have := hx.out.1; omega
                      · rw [show 3 - (k + 1) = 2 - k by omega]; exact h3.symm
                    · rw [h4] at h3
                      rw [E3.out, E5.out, h3]
                      exact .inl ⟨rfl, rfl, rfl, rfl⟩
                  · go_wp2_with fail
                    go_meet
                    rcases HD.out with ⟨_, h1, h0, h2⟩ | ⟨h1, _⟩
                    · subst h2; exact ⟨rfl, h1, h0, hp', hbel'⟩
                    · cases h1
                · have hd1 : d = true := by
                    rcases HD.out with ⟨h1, _⟩ | ⟨_, h1, _⟩
                    · exact h1
                    · have := hp'.k2.tk; omega
                  subst hd1
                  go_wp2_with fail
                  go_meet
                  rcases HD.out with ⟨_, h1, h0, h2⟩ | ⟨h1, _⟩
                  · subst h2; exact ⟨rfl, h1, h0, hp', hbel'⟩
                  · cases h1
            case rest =>
              obtain ⟨rfl, rfl, rfl, hp2, hbel4⟩ := hcut
              clear hp3 hbel3
              go_wp2_with fail
              refine (items_rep _ _ _ _ hp2.h1 hp2.k1).mono ?_
              rintro e w7 ⟨v7, rfl, i7, o7⟩
              have hp7 := hp2.only o7
              have hbel7 := hbel4.trans (o7.below hbel4.size (by simp))
              go_wp2_with fail
              refine (items_rep _ _ _ _ hp7.h2 hp7.k2).mono ?_
              rintro e w8 ⟨v8, rfl, i8, o8⟩
              have hbel8 := hbel7.trans (o8.below hbel7.size (by simp))
              have hil : Hid (r1.2.2.items.length < 1099511627776) := by
                have h1 : r1.2.2.items.length = r1.2.2.len := r1.2.2.itemsTo_len r1.2.2.len
                have h2 := r1.2.2.len_lt hp2.k1
                have h3 := hp2.k1.n9
                show r1.2.2.items.length < 1099511627776
                omega
              go_wp2_with fail
              refine (ints_eq w8 _ _ _ (i7.only o8 (by simp)).read i8.read hil.out).mono ?_
              rintro e _ ⟨rfl, n8, rfl⟩
              go_wp2_with fail
              go_meet
              exact hbel8.trans (((Only.refl [] _).drewN _).below hbel8.size (by simp))
        case rest =>
          have hbel5 := hcut
          clear hcut hp3 hbel3
          go_wp2_with fail
          refine (sane_any _).mono ?_
          rintro e w8 ⟨rfl, o8⟩
          go_wp2_with fail
          exact hR.out _ _ ⟨rfl, hbel5.trans (o8.below hbel5.size (by simp))⟩
  · go_enter Try.func5, Try.ntmps5
    go_wp2_with fail
    refine (new_no w a0 hbad).mono ?_
    rintro e _ ⟨rfl, rfl⟩
    go_wp2_with fail
    refine (refNew_no w a0 hbad).mono ?_
    rintro e _ ⟨rfl, rfl⟩
    go_wp2_with fail
    refine (sane_any _).mono ?_
    rintro e w4 ⟨rfl, o4⟩
    go_wp2_with fail
    exact hR.out _ _ ⟨rfl, o4.below (Nat.le_refl _) (by simp)⟩
end Go.Proofs.Ytemdkffkpdhciaa
