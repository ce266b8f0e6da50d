/- The deeds played, and what both sides return of them. -/
import Derived.Test.YtngmiacekcmidaaBLawC
namespace Go.Proofs.Ytngmiacekcmidaa
open Go.RowKit
set_option maxHeartbeats 3200000
set_option maxRecDepth 100000
set_option linter.unusedVariables false

theorem Pl.begin_bound (P : Pl) (a : Int) : 0 ≤ (P.begin a).2 ∧ (P.begin a).2 ≤ 14 := by
  unfold Pl.begin
  split
  · dsimp only; split
    · simp
    · split <;> simp
  · simp
theorem Pl.do_bound (P : Pl) (d a b : Int) : 0 ≤ (P.do d a b).2.1 ∧ (P.do d a b).2.1 ≤ 14 := by
  have hb := P.begin_bound a
  unfold Pl.do
  split
  · unfold Pl.alloc
    split
    · simp
    · dsimp only; split
      · simp
      · split <;> simp
  · split
    · show 0 ≤ (P.free a).1 ∧ (P.free a).1 ≤ 14
      unfold Pl.free
      split
      · split <;> simp
      · exact hb
    · split
      · show 0 ≤ (P.setCell a b).1 ∧ (P.setCell a b).1 ≤ 14
        unfold Pl.setCell
        split
        · simp
        · exact hb
      · split
        · show 0 ≤ P.move.2.2.1 ∧ P.move.2.2.1 ≤ 14
          unfold Pl.move
          split <;> simp
        · simp
/-- What Play keeps of a deed. -/
def told (r : Int × Int × Pl) : Int := if r.2.1 = 0 then r.1 else -r.2.1
/-- The pool behind k deeds, and what was told. -/
def playN (n : Nat) (f : Nat → Nat → Int) : Nat → Pl × List Int
  | 0 => (Pl.zero n, [])
  | k + 1 => (((playN n f k).1.do (f k 0) (f k 1) (f k 2)).2.2, (playN n f k).2 ++ [told ((playN n f k).1.do (f k 0) (f k 1) (f k 2))])
theorem playN_len (n : Nat) (f : Nat → Nat → Int) (k : Nat) : (playN n f k).2.length = k := by
  induction k with
  | zero => rfl
  | succ k ih => show ((playN n f k).2 ++ [_]).length = _; rw [List.length_append, ih]; rfl

theorem play_grow {w wa w1 : World} {base p b : Nat} {v : Value} {l : List Int} {P : Pl} (hv : Ints wa base v l) (hp : PRep wa p b P) (ho : Only v.ownBlock.toList wa w1) (h1 : p < base) (h2 : b < base) (o : Only [] w wa) (hb : w.heap.size ≤ base) : PRep w1 p b P ∧ Only [] w w1 := by
  have hk : ∀ x ∈ v.ownBlock.toList, base ≤ x := fun x hx => (hv.own x (by simpa using hx)).1
  exact ⟨hp.only ho (fun hx => by have := hk _ hx; omega) (fun hx => by have := hk _ hx; omega), o.trans ho (fun x hx => .inr (by have := hk x hx; omega))⟩
theorem rplay_grow {w wa w1 : World} {base q k c m : Nat} {v : Value} {l : List Int} {P : Pl} (hv : Ints wa base v l) (hp : RRep wa q k c m P) (ho : Only v.ownBlock.toList wa w1) (h1 : q < base ∧ k < base ∧ c < base ∧ m < base) (o : Only [] w wa) (hb : w.heap.size ≤ base) : RRep w1 q k c m P ∧ Only [] w w1 := by
  have hk : ∀ x ∈ v.ownBlock.toList, base ≤ x := fun x hx => (hv.own x (by simpa using hx)).1
  exact ⟨hp.only ho (fun hx => by have := hk _ hx; omega) (fun hx => by have := hk _ hx; omega) (fun hx => by have := hk _ hx; omega) (fun hx => by have := hk _ hx; omega), o.trans ho (fun x hx => .inr (by have := hk x hx; omega))⟩
theorem bplay_no (w : World) (n : Int) (h : n < 1 ∨ 24 < n) (v : Value) :
    Calls Try.prog 22 #[.int .i64 n, v] w fun e w' => e = .returned (.tuple #[.slice none 0 0, .int .i64 1]) ∧ Only [] w w' := by
  refine calls_abs fun R hR => ?_
  go_enter Try.func22, Try.ntmps22
  go_wp2_with fail
  refine (new_bad w n h).mono ?_
  rintro e _ ⟨rfl, rfl⟩
  go_wp2_with fail
  exact hR.out _ _ ⟨rfl, Only.refl _ _⟩
theorem bplay_long (w : World) (n : Nat) (h1 : 1 ≤ n) (h24 : n ≤ 24) (a : Option Addr) (len cap : Nat) (h : 200 < len) (h2 : len ≤ 9223372036854775807) :
    Calls Try.prog 22 #[.int .i64 n, .slice a len cap] w fun e w' => e = .returned (.tuple #[.slice none 0 0, .int .i64 1]) ∧ Only [] w w' := by
  refine calls_abs fun R hR => ?_
  go_enter Try.func22, Try.ntmps22
  go_wp2_with fail
  refine (new_yes w n h1 h24).mono ?_
  rintro e w1 ⟨p, b, rfl, hp, o1, gp, gb⟩
  go_wp2_with fail
  exact hR.out _ _ ⟨rfl, o1⟩
theorem bplay_yes (w : World) (n : Nat) (h1 : 1 ≤ n) (h24 : n ≤ 24) (a : Option Addr) (len cap : Nat) (f : Nat → Nat → Int) (h : Recs 3 w a len f) (h200 : len ≤ 200) :
    Calls Try.prog 22 #[.int .i64 n, .slice a len cap] w fun e w' => ∃ v, e = .returned (.tuple #[v, .int .i64 0]) ∧ Ints w' w.heap.size v (playN n f len).2 ∧ Only [] w w' := by
  refine calls_abs fun R hR => ?_
  have HREC := Lib.hid h
  clear h
  go_enter Try.func22, Try.ntmps22
  go_wp2_with fail
  refine (new_yes w n h1 h24).mono ?_
  rintro e w1 ⟨p, b, rfl, hp, o1, gp, gb⟩
  have HP1 := Lib.hid hp
  have HO1 := Lib.hid o1
  obtain ⟨base, hbase⟩ : ∃ base, base = w1.heap.size := ⟨_, rfl⟩
  have hpb : Hid (p < base ∧ b < base) := by
    obtain ⟨_, _, _, _, x1, x2⟩ := hp.facts
    show p < base ∧ b < base; rw [hbase]; exact ⟨x1, x2⟩
  have hwb : Hid (w.heap.size ≤ base) := by show w.heap.size ≤ base; rw [hbase]; exact o1.size
  have HBase := Lib.hid hbase
  have HG : Hid (w.heap.size ≤ p ∧ w.heap.size ≤ b) := ⟨gp, gb⟩
  clear hp o1 gp gb hbase
  go_wp2_with fail
  go_loopw [8, 27] (fun v i wr => ∃ x : Nat, i = .int .i64 x ∧ x ≤ len ∧ Ints wr base v (playN n f x).2 ∧ PRep wr p b (playN n f x).1 ∧ Only [] w wr ∧ base ≤ wr.heap.size) (fun _ i _ => len - (intOf i).toNat)
  case atStart => exact ⟨0, rfl, by omega, Ints.nil _ _, HP1.out, HO1.out, by have := HBase.out; omega⟩
  case round =>
    clear HP1 HO1
    obtain ⟨x, rfl, hx, hv, hp, ho, hs⟩ := hrel
    have HV := Lib.hid hv
    have HP := Lib.hid hp
    have HO := Lib.hid ho
    have HS := Lib.hid hs
    clear hv hp hs
    by_cases hlt : x < len
    · rcases HREC.out.2 with h0 | ⟨bb, oo, rfl, hc⟩
      · omega
      have c0 := ho.cell (hc x hlt 0 (by omega)).1 (by simp)
      have c1 := ho.cell (hc x hlt 1 (by omega)).1 (by simp)
      have c2 := ho.cell (hc x hlt 2 (by omega)).1 (by simp)
      rw [Nat.add_zero] at c0
      rw [← Nat.add_assoc] at c1 c2
      clear ho hc
      have hstep : Hid (playN n f (x + 1) = (((playN n f x).1.do (f x 0) (f x 1) (f x 2)).2.2, (playN n f x).2 ++ [told ((playN n f x).1.do (f x 0) (f x 1) (f x 2))])) := rfl
      have hlen : Hid ((playN n f x).2.length ≤ 200) := by show _ ≤ _; rw [playN_len]; omega
      have hbd := (playN n f x).1.do_bound (f x 0) (f x 1) (f x 2)
      generalize (playN n f x).2 = l at *
      generalize (playN n f x).1 = P at *
      generalize f x 0 = d at *
      generalize f x 1 = y at *
      generalize f x 2 = z at *
      have HPA : Hid (PRep (wr.alloc (.cells #[.int .i64 d, .int .i64 y, .int .i64 z] 34)) p b P) := HP.out.only ((Only.refl [] wr).alloc _) (by simp) (by simp)
      have HOA : Hid (Only [] w (wr.alloc (.cells #[.int .i64 d, .int .i64 y, .int .i64 z] 34))) := HO.out.alloc _
      have HVA : Hid (Ints (wr.alloc (.cells #[.int .i64 d, .int .i64 y, .int .i64 z] 34)) base u8 l) := HV.out.alloc _
      have HSA : Hid (base ≤ (wr.alloc (.cells #[.int .i64 d, .int .i64 y, .int .i64 z] 34)).heap.size) := by have := HS.out; show _ ≤ _; simp; omega
      have e1 := do_rep (wr.alloc (.cells #[.int .i64 d, .int .i64 y, .int .i64 z] 34)) p b P HPA.out d y z
      obtain ⟨r, hr⟩ : ∃ r, r = P.do d y z := ⟨_, rfl⟩
      rw [← hr] at e1 hbd hstep
      clear hr HP HO HV HS
      obtain ⟨r1, r2, r3⟩ := r
      have hbd2 : 0 ≤ r2 ∧ r2 ≤ 14 := hbd
      clear hbd
      have ht : Hid (told (r1, r2, r3) = if r2 = 0 then r1 else -r2) := rfl
      go_wp2_with fail
      refine e1.mono ?_
      rintro e w4 ⟨rfl, g4, o4⟩
      have HV4 := Lib.hid (HVA.out.kept o4 (fun x hx => by simp at hx; subst hx; exact hpb.out.2))
      have HP4 : Hid (PRep w4 p b r3) := g4
      have HO4 := Lib.hid (HOA.out.trans o4 (fun x hx => .inr (by simp at hx; have := HG.out.2; omega)))
      have HS4 : Hid (base ≤ w4.heap.size) := Nat.le_trans HSA.out o4.size
      clear g4 o4 e1 HVA HPA HOA HSA c0 c1 c2
      by_cases hz : r2 = 0
      · have ht2 := Lib.hid (show told (r1, r2, r3) = r1 by rw [ht.out, if_pos hz])
        subst hz
        go_wp2_with (at_builtin; refine append_int1 rfl _ _ rfl base _ _ rfl (HV4.out.alloc _) w4.heap.size r1 rfl ?c1 ?c2 ?c3 ?c4)
        case c1 => exact (Row.new w4 _ [_]).cell 0 rfl
        case c2 => have := hlen.out; omega
        case c3 => have := HS4.out; simp; omega
        case c4 =>
          intro v' w5 hv1 ho1 hb1
          have hg := play_grow (HV4.out.alloc _) (HP4.out.only ((Only.refl [] w4).alloc _) (by simp) (by simp)) ho1 hpb.out.1 hpb.out.2 (HO4.out.alloc _) hwb.out
          have HG5 := Lib.hid hg
          have HV5 := Lib.hid hv1
          have HS5 : Hid (base ≤ w5.heap.size) := by have := ho1.size; have := HS4.out; simp at *; show base ≤ w5.heap.size; omega
          clear hg hv1 ho1 hb1
          go_wp2_with fail
          exact ⟨⟨x + 1, by go_num, by omega, by rw [hstep.out]; show Ints _ _ _ (l ++ [told _]); rw [ht2.out]; exact HV5.out, by rw [hstep.out]; exact HG5.out.1, HG5.out.2, HS5.out⟩, by simp [intOf]; omega⟩
      · have ht2 := Lib.hid (show told (r1, r2, r3) = -r2 by rw [ht.out, if_neg hz])
        go_wp2_with (at_builtin; refine append_int1 rfl _ _ rfl base _ _ rfl (HV4.out.alloc _) w4.heap.size (-r2) rfl ?c1 ?c2 ?c3 ?c4)
        case c1 => exact (Row.new w4 _ [_]).cell 0 rfl
        case c2 => have := hlen.out; omega
        case c3 => have := HS4.out; simp; omega
        case c4 =>
          intro v' w5 hv1 ho1 hb1
          have hg := play_grow (HV4.out.alloc _) (HP4.out.only ((Only.refl [] w4).alloc _) (by simp) (by simp)) ho1 hpb.out.1 hpb.out.2 (HO4.out.alloc _) hwb.out
          have HG5 := Lib.hid hg
          have HV5 := Lib.hid hv1
          have HS5 : Hid (base ≤ w5.heap.size) := by have := ho1.size; have := HS4.out; simp at *; show base ≤ w5.heap.size; omega
          clear hg hv1 ho1 hb1
          go_wp2_with fail
          exact ⟨⟨x + 1, by go_num, by omega, by rw [hstep.out]; show Ints _ _ _ (l ++ [told _]); rw [ht2.out]; exact HV5.out, by rw [hstep.out]; exact HG5.out.1, HG5.out.2, HS5.out⟩, by simp [intOf]; omega⟩
    · have hx9 : x = len := by omega
      rw [hx9] at HV HP
      clear ho
      go_wp2_with fail
      exact hR.out _ _ ⟨_, rfl, HV.out.base hwb.out, HO.out⟩
theorem rplay_no (w : World) (n : Int) (h : n < 1 ∨ 24 < n) (v : Value) :
    Calls Try.prog 24 #[.int .i64 n, v] w fun e w' => e = .returned (.tuple #[.slice none 0 0, .int .i64 1]) ∧ Only [] w w' := by
  refine calls_abs fun R hR => ?_
  go_enter Try.func24, Try.ntmps24
  go_wp2_with fail
  refine (rnew_bad w n h).mono ?_
  rintro e _ ⟨rfl, rfl⟩
  go_wp2_with fail
  exact hR.out _ _ ⟨rfl, Only.refl _ _⟩
theorem rplay_long (w : World) (n : Nat) (h1 : 1 ≤ n) (h24 : n ≤ 24) (a : Option Addr) (len cap : Nat) (h : 200 < len) (h2 : len ≤ 9223372036854775807) :
    Calls Try.prog 24 #[.int .i64 n, .slice a len cap] w fun e w' => e = .returned (.tuple #[.slice none 0 0, .int .i64 1]) ∧ Only [] w w' := by
  refine calls_abs fun R hR => ?_
  go_enter Try.func24, Try.ntmps24
  go_wp2_with fail
  refine (rnew_yes w n h1 h24).mono ?_
  rintro e w1 ⟨q, k, c, m, rfl, hp, o1, gq, gk, gc, gm⟩
  go_wp2_with fail
  exact hR.out _ _ ⟨rfl, o1⟩
theorem rplay_yes (w : World) (n : Nat) (h1 : 1 ≤ n) (h24 : n ≤ 24) (a : Option Addr) (len cap : Nat) (f : Nat → Nat → Int) (h : Recs 3 w a len f) (h200 : len ≤ 200) :
    Calls Try.prog 24 #[.int .i64 n, .slice a len cap] w fun e w' => ∃ v, e = .returned (.tuple #[v, .int .i64 0]) ∧ Ints w' w.heap.size v (playN n f len).2 ∧ Only [] w w' := by
  refine calls_abs fun R hR => ?_
  have HREC := Lib.hid h
  clear h
  go_enter Try.func24, Try.ntmps24
  go_wp2_with fail
  refine (rnew_yes w n h1 h24).mono ?_
  rintro e w1 ⟨q, k, c, m, rfl, hp, o1, gq, gk, gc, gm⟩
  have HP1 := Lib.hid hp
  have HO1 := Lib.hid o1
  obtain ⟨base, hbase⟩ : ∃ base, base = w1.heap.size := ⟨_, rfl⟩
  have hpb : Hid (q < base ∧ k < base ∧ c < base ∧ m < base) := by
    obtain ⟨_, _, _, _, _, _, _, _, _, x1, x2, x3, x4⟩ := hp.facts
    show q < base ∧ k < base ∧ c < base ∧ m < base; rw [hbase]; exact ⟨x1, x2, x3, x4⟩
  have hwb : Hid (w.heap.size ≤ base) := by show w.heap.size ≤ base; rw [hbase]; exact o1.size
  have HBase := Lib.hid hbase
  have HG : Hid (w.heap.size ≤ q ∧ w.heap.size ≤ k ∧ w.heap.size ≤ c ∧ w.heap.size ≤ m) := ⟨gq, gk, gc, gm⟩
  clear hp o1 gq gk gc gm hbase
  go_wp2_with fail
  go_loopw [8, 9] (fun v i wr => ∃ x : Nat, i = .int .i64 x ∧ x ≤ len ∧ Ints wr base v (playN n f x).2 ∧ RRep wr q k c m (playN n f x).1 ∧ Only [] w wr ∧ base ≤ wr.heap.size ∧ (playN n f x).1.ok) (fun _ i _ => len - (intOf i).toNat)
  case atStart => exact ⟨0, rfl, by omega, Ints.nil _ _, HP1.out, HO1.out, by have := HBase.out; omega, Pl.zero_ok n⟩
  case round =>
    clear HP1 HO1
    obtain ⟨x, rfl, hx, hv, hp, ho, hs, hok⟩ := hrel
    have HK := Lib.hid hok
    clear hok
    have HV := Lib.hid hv
    have HP := Lib.hid hp
    have HO := Lib.hid ho
    have HS := Lib.hid hs
    clear hv hp hs
    by_cases hlt : x < len
    · rcases HREC.out.2 with h0 | ⟨bb, oo, rfl, hc⟩
      · omega
      have c0 := ho.cell (hc x hlt 0 (by omega)).1 (by simp)
      have c1 := ho.cell (hc x hlt 1 (by omega)).1 (by simp)
      have c2 := ho.cell (hc x hlt 2 (by omega)).1 (by simp)
      rw [Nat.add_zero] at c0
      rw [← Nat.add_assoc] at c1 c2
      clear ho hc
      have hstep : Hid (playN n f (x + 1) = (((playN n f x).1.do (f x 0) (f x 1) (f x 2)).2.2, (playN n f x).2 ++ [told ((playN n f x).1.do (f x 0) (f x 1) (f x 2))])) := rfl
      have hlen : Hid ((playN n f x).2.length ≤ 200) := by show _ ≤ _; rw [playN_len]; omega
      have hbd := (playN n f x).1.do_bound (f x 0) (f x 1) (f x 2)
      generalize (playN n f x).2 = l at *
      generalize (playN n f x).1 = P at *
      generalize f x 0 = d at *
      generalize f x 1 = y at *
      generalize f x 2 = z at *
      have hok2 : Hid ((P.do d y z).2.2.ok) := (HK.out.do d y z).1
      have e1 := rdo_rep wr q k c m P HP.out HK.out d y z
      obtain ⟨r, hr⟩ : ∃ r, r = P.do d y z := ⟨_, rfl⟩
      rw [← hr] at e1 hbd hstep hok2
      clear hr
      obtain ⟨r1, r2, r3⟩ := r
      have hbd2 : 0 ≤ r2 ∧ r2 ≤ 14 := hbd
      clear hbd
      have ht : Hid (told (r1, r2, r3) = if r2 = 0 then r1 else -r2) := rfl
      go_wp2_with fail
      refine e1.mono ?_
      rintro e w4 ⟨rfl, g4, o4⟩
      have HV4 := Lib.hid (HV.out.kept o4 (fun x hx => by simp at hx; have := hpb.out; omega))
      have HP4 : Hid (RRep w4 q k c m r3) := g4
      have HO4 := Lib.hid (HO.out.trans o4 (fun x hx => .inr (by simp at hx; have := HG.out; omega)))
      have HS4 : Hid (base ≤ w4.heap.size) := Nat.le_trans HS.out o4.size
      clear g4 o4 e1 HV HP HO HS c0 c1 c2
      by_cases hz : r2 = 0
      · have ht2 := Lib.hid (show told (r1, r2, r3) = r1 by rw [ht.out, if_pos hz])
        subst hz
        go_wp2_with (at_builtin; refine append_int1 rfl _ _ rfl base _ _ rfl (HV4.out.alloc _) w4.heap.size r1 rfl ?c1 ?c2 ?c3 ?c4)
        case c1 => exact (Row.new w4 _ [_]).cell 0 rfl
        case c2 => have := hlen.out; omega
        case c3 => have := HS4.out; simp; omega
        case c4 =>
          intro v' w5 hv1 ho1 hb1
          have hg := rplay_grow (HV4.out.alloc _) (HP4.out.only ((Only.refl [] w4).alloc _) (by simp) (by simp) (by simp) (by simp)) ho1 hpb.out (HO4.out.alloc _) hwb.out
          have HG5 := Lib.hid hg
          have HV5 := Lib.hid hv1
          have HS5 : Hid (base ≤ w5.heap.size) := by have := ho1.size; have := HS4.out; simp at *; show base ≤ w5.heap.size; omega
          clear hg hv1 ho1 hb1
          go_wp2_with fail
          exact ⟨⟨x + 1, by go_num, by omega, by rw [hstep.out]; show Ints _ _ _ (l ++ [told _]); rw [ht2.out]; exact HV5.out, by rw [hstep.out]; exact HG5.out.1, HG5.out.2, HS5.out, by rw [hstep.out]; exact hok2.out⟩, by simp [intOf]; omega⟩
      · have ht2 := Lib.hid (show told (r1, r2, r3) = -r2 by rw [ht.out, if_neg hz])
        go_wp2_with (at_builtin; refine append_int1 rfl _ _ rfl base _ _ rfl (HV4.out.alloc _) w4.heap.size (-r2) rfl ?c1 ?c2 ?c3 ?c4)
        case c1 => exact (Row.new w4 _ [_]).cell 0 rfl
        case c2 => have := hlen.out; omega
        case c3 => have := HS4.out; simp; omega
        case c4 =>
          intro v' w5 hv1 ho1 hb1
          have hg := rplay_grow (HV4.out.alloc _) (HP4.out.only ((Only.refl [] w4).alloc _) (by simp) (by simp) (by simp) (by simp)) ho1 hpb.out (HO4.out.alloc _) hwb.out
          have HG5 := Lib.hid hg
          have HV5 := Lib.hid hv1
          have HS5 : Hid (base ≤ w5.heap.size) := by have := ho1.size; have := HS4.out; simp at *; show base ≤ w5.heap.size; omega
          clear hg hv1 ho1 hb1
          go_wp2_with fail
          exact ⟨⟨x + 1, by go_num, by omega, by rw [hstep.out]; show Ints _ _ _ (l ++ [told _]); rw [ht2.out]; exact HV5.out, by rw [hstep.out]; exact HG5.out.1, HG5.out.2, HS5.out, by rw [hstep.out]; exact hok2.out⟩, by simp [intOf]; omega⟩
    · have hx9 : x = len := by omega
      rw [hx9] at HV HP
      clear ho
      go_wp2_with fail
      exact hR.out _ _ ⟨_, rfl, HV.out.base hwb.out, HO.out⟩
end Go.Proofs.Ytngmiacekcmidaa
