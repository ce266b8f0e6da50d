/- Lemmas of this claim. -/
import Derived.Test.YthflghdaejbdkaaKObjD
import Derived.OwnWalk
namespace Go.Proofs.Ythflghdaejbdkaa
open Go.RowKit Go.Maps
set_option maxHeartbeats 3200000
set_option maxRecDepth 100000
set_option linter.unusedVariables false
def BArg (w : World) (v : Value) (l : List Bool) : Prop :=
  (v = .slice none 0 0 ∧ l = []) ∨ ∃ ad c, v = .slice (some ad) l.length c ∧ ∀ i, i < l.length → w.cell? (ad.add i) = some (.bool (gB l i))
theorem BArg.len {w : World} {v : Value} {l : List Bool} (h : BArg w v l) : ∃ a c, v = .slice a l.length c := by
  rcases h with ⟨h1, h2⟩ | ⟨ad, c, h1, h2⟩
  · exact ⟨none, 0, by rw [h1, h2]; rfl⟩
  · exact ⟨_, _, h1⟩
theorem clone_barg (w : World) (v : Value) (l : List Bool) (h : BArg w v l) (hl : l.length ≤ 1000000) :
    Calls Try.prog 41 #[v] w fun e w' => ∃ v', e = .returned v' ∧ Bls w' w.heap.size v' l ∧ Only [] w w' := by
  rcases h with ⟨rfl, rfl⟩ | ⟨ad, c, rfl, hc⟩
  · exact (clone_bnil w).mono (fun e w' ⟨h1, h2⟩ => ⟨_, h1, Bls.nil _ _, h2 ▸ Only.refl _ _⟩)
  · obtain ⟨n, hn⟩ : ∃ n, n = l.length := ⟨_, rfl⟩
    rw [← hn] at hc hl ⊢
    have hq := fun (wx : World) => Lib.run_eql_slice_nil (P := Try.prog) wx 63 4 (some ad) n c 0 0 Try.underlying63
    have HL := Lib.hid hn
    have HC := Lib.hid hc
    clear hn hc
    refine calls_abs fun R hR => ?_
    go_enter Try.func41, Try.ntmps41
    go_wp2_with (at_builtin; refine append_bls rfl _ _ rfl w.heap.size _ _ rfl (Bls.made w) ad n c l rfl ?_ ?_ ?_ ?_ ?_)
    · exact HL.out.symm
    · intro j u hu
      have hj : j < n := by have := (List.getElem?_eq_some_iff.1 hu).1; have := HL.out; omega
      have h1 := HC.out j hj
      rw [((Only.refl [] w).alloc _).cell h1 (by simp), gB, hu]
      rfl
    · simp; omega
    · simp
    · intro v w1 hv ho hn hblk
      clear hn
      go_wp2_with fail
      exact hR.out _ _ ⟨v, rfl, hv, ((Only.refl _ _).alloc _).trans ho (fun x hx => .inr (by simp [Value.ownBlock] at hx; omega))⟩
section
variable {L : Nat → Option Lb} {hb : Nat} {M : Hp} {X : HX}
theorem newObject_rep (w : World) (h : HRep w L hb M X) (hk : M.Ok) (c : Int) (v : Value) (l : List Bool) (hv : BArg w v l) (hl : l.length ≤ 1000000) :
    Calls Try.prog 20 #[.pointer (some ⟨hb, 0, none⟩), .int .i64 c, v] w (HDid w L hb (.tuple #[.int .i64 (M.newObject c l).1, .int .i64 (M.newObject c l).2.1]) (M.newObject c l).2.2) := by
  refine calls_abs fun R hR => ?_
  have h1 := hnone_rep w h
  have hcl := clone_barg w v l hv hl
  obtain ⟨a, cp, hve⟩ := hv.len
  subst hve
  obtain ⟨n, hn⟩ : ∃ n, n = l.length := ⟨_, rfl⟩
  rw [← hn] at hcl ⊢
  by_cases hbad : c < 0 ∨ 10 ≤ c ∨ 7 < l.length
  · have hr : M.newObject c l = (0, 1, M) := by unfold Hp.newObject; rw [if_pos hbad]
    rw [hr] at hR
    have HD := Lib.hid (HDid.none (r := .tuple #[.int .i64 0, .int .i64 1]) h (Drew.refl w))
    rw [← hn] at hbad
    by_cases b1 : c < 0
    · clear h hr hbad hcl hv hn hk
      go_enter Try.func20, Try.ntmps20
      go_wp2_with fail
      refine h1.mono ?_
      rintro e _ ⟨rfl, rfl⟩
      go_wp2_with fail
      exact hR.out _ _ HD.out
    · by_cases b2 : 10 ≤ c
      · clear h hr hbad hcl hv hn hk
        go_enter Try.func20, Try.ntmps20
        go_wp2_with fail
        refine h1.mono ?_
        rintro e _ ⟨rfl, rfl⟩
        go_wp2_with fail
        exact hR.out _ _ HD.out
      · have b3 : (7 : Int) < n := by omega
        clear h hr hbad hcl hv hn hk
        go_enter Try.func20, Try.ntmps20
        go_wp2_with fail
        refine h1.mono ?_
        rintro e _ ⟨rfl, rfl⟩
        go_wp2_with fail
        exact hR.out _ _ HD.out
  · have hr : M.newObject c l = M.add (objT c l) := by unfold Hp.newObject; rw [if_neg hbad]
    rw [hr] at hR
    rw [← hn] at hbad
    have b1 : ¬ c < 0 := by omega
    have b2 : ¬ 10 ≤ c := by omega
    have b3 : ¬ (7 : Int) < n := by omega
    have hok : Hid (objT c l).ok1 := ⟨.inl ⟨rfl, by show 0 ≤ c; omega, by show c < 10; omega, by show (List.replicate l.length (0 : Int)).length ≤ 7; simp; omega⟩, by show l.length = (List.replicate l.length (0 : Int)).length; simp⟩
    have HH := Lib.hid h
    have HK := Lib.hid hk
    have HN := Lib.hid hn
    clear h hr hbad hv hn hk
    go_enter Try.func20, Try.ntmps20
    go_wp2_with fail
    refine h1.mono ?_
    rintro e _ ⟨rfl, rfl⟩
    go_wp2_with fail
    refine hcl.mono ?_
    rintro e w3 ⟨v3, rfl, hv3, ho3⟩
    obtain ⟨a3, c3, he3⟩ := hv3.len
    rw [← HN.out] at he3
    subst he3
    have hadd := add_rep (w0 := w) w3 HH.out HK.out ho3 (objT c l) hok.out _ hv3
    rw [show (objT c l).kind = 2 from rfl, show (objT c l).cls = c from rfl, show (objT c l).slots.length = n by rw [HN.out]; show (List.replicate l.length (0 : Int)).length = _; simp] at hadd
    generalize M.add (objT c l) = r at hadd hR
    obtain ⟨r1, r2, r3⟩ := r
    clear hv3 ho3 hcl
    go_wp2_with fail
    refine hadd.mono ?_
    rintro e w4 ⟨rfl, hd⟩
    have HD := Lib.hid hd
    clear hd hadd
    go_wp2_with fail
    exact hR.out _ _ ⟨rfl, HD.out⟩
end
end Go.Proofs.Ythflghdaejbdkaa
namespace Go.Proofs.Ythflghdaejbdkaa
open Go.RowKit Go.Maps
set_option maxHeartbeats 3200000
set_option maxRecDepth 100000
set_option linter.unusedVariables false
theorem Ints.row {w : World} {base g n cap : Nat} {l : List Int} (h : Ints w base (.slice (some ⟨g, 0, none⟩) n cap) l) : n = l.length ∧ base ≤ g ∧ ∃ cs, Row w g 3 cs ∧ cs.length = cap ∧ cs.take l.length = l.map (.int .i64) ∧ l.length ≤ cap ∧ cap ≤ maxLen := by
  rcases h.2 with ⟨h1, _⟩ | ⟨g', cap', cur, hv, hg, hh, hc, hm, hs, ht⟩
  · simp at h1
  · simp only [Value.slice.injEq, Option.some.injEq, Addr.mk.injEq] at hv
    obtain ⟨⟨rfl, _⟩, hn, rfl⟩ := hv
    exact ⟨hn, hg, cur.toList, by unfold Row; rw [hh], by simp [hs], by rw [← ht, Nat.mul_one], hc, hm⟩
theorem Ints.ofRow {w : World} {base g cap : Nat} {l : List Int} {cs : List Value} (hb : base ≤ g) (hr : Row w g 3 cs) (hl : cs.length = cap) (ht : cs.take l.length = l.map (.int .i64)) (hc : l.length ≤ cap) (hm : cap ≤ maxLen) : Ints w base (.slice (some ⟨g, 0, none⟩) l.length cap) l := by
  refine ⟨by simp, .inr ⟨g, cap, cs.toArray, rfl, hb, hr, hc, hm, by simp [hl], by simp; exact ht⟩⟩
theorem Ints.setAt {w : World} {base g n cap : Nat} {l : List Int} (h : Ints w base (.slice (some ⟨g, 0, none⟩) n cap) l) (i : Nat) (y : Int) : Ints (w.setCell ⟨g, i, none⟩ (.int .i64 y)) base (.slice (some ⟨g, 0, none⟩) n cap) (l.set i y) := by
  obtain ⟨rfl, hb, cs, hr, h1, h2, h3, h4⟩ := h.row
  have := Ints.ofRow (l := l.set i y) hb (hr.set i (.int .i64 y)) (cap := cap) (by simp [h1]) (by rw [List.length_set, List.take_set, h2, List.map_set]) (by simpa using h3) h4
  rwa [List.length_set] at this
section
variable {w w' : World} {L : Nat → Option Lb} {hb : Nat} {M : Hp} {X : HX}
end
end Go.Proofs.Ythflghdaejbdkaa
namespace Go.Proofs.Ythflghdaejbdkaa
open Go.RowKit Go.Maps
set_option maxHeartbeats 3200000
set_option maxRecDepth 100000
set_option linter.unusedVariables false
section
variable {w w' : World} {L : Nat → Option Lb} {hb : Nat} {M : Hp} {X : HX}
theorem HRep.start {p b mb T : Nat} {P : Pl} {v : Nat} (hp : PRep w' p b P) (hr : Row w' hb T [.pointer (some ⟨p, 0, none⟩), .map (some mb)]) (hm : MapAt w' mb 0 (fun _ => none))
    (h1 : v ≤ p) (h2 : v ≤ b) (h3 : v ≤ mb) (h4 : v ≤ hb) (d1 : p ≠ mb) (d2 : p ≠ hb) (d3 : b ≠ mb) (d4 : b ≠ hb) (d5 : mb ≠ hb) :
    ∃ L' X', HRep w' L' hb ⟨P, fun _ => none⟩ X' ∧ (∀ k, L' k ≠ none → v ≤ k) ∧ X'.mb = mb ∧ X'.pp = p := by
  have hpb := hp.ne
  obtain ⟨_, _, _, _, f1, f2⟩ := hp.facts
  obtain ⟨L', hL'⟩ : ∃ L' : Nat → Option Lb, L' = fun j => if j = hb then some .mem else if j = mb then some .map else if j = p then some .pool else if j = b then some .pages else none := ⟨_, rfl⟩
  have hin : ∀ k, L' k ≠ none → k = hb ∨ k = mb ∨ k = p ∨ k = b := fun k hk => by
    rw [hL'] at hk
    simp only at hk
    by_cases e1 : k = hb
    · exact .inl e1
    · by_cases e2 : k = mb
      · exact .inr (.inl e2)
      · by_cases e3 : k = p
        · exact .inr (.inr (.inl e3))
        · by_cases e4 : k = b
          · exact .inr (.inr (.inr e4))
          · simp [e1, e2, e3, e4] at hk
  have hl1 := hr.lt
  have hl2 := hm.lt
  refine ⟨L', ⟨p, b, mb, fun _ => 0, fun _ => .slice none 0 0, fun _ => .slice none 0 0⟩, ⟨fun k hk => ?_, ⟨T, hr⟩, by rw [hL']; simp, hp, by rw [hL']; simp [d1, d2], by rw [hL']; simp [d3, d4, Ne.symm hpb], (hm.mono (Nat.zero_le _)).congr (fun _ => rfl), by rw [hL']; simp [d5], fun k o hk => by cases hk⟩, fun k hk => ?_, rfl, rfl⟩
  · rcases hin k hk with rfl | rfl | rfl | rfl <;> assumption
  · rcases hin k hk with rfl | rfl | rfl | rfl <;> assumption
end
theorem hnew_good (w : World) (n : Nat) (h1 : 1 ≤ n) (h24 : n ≤ 24) : Calls Try.prog 18 #[.int .i64 n] w fun e w' =>
    ∃ hb L X, e = .returned (.tuple #[.pointer (some ⟨hb, 0, none⟩), .int .i64 0]) ∧ HRep w' L hb (Hp.new n) X ∧ (∀ k, L k ≠ none → w.heap.size ≤ k) ∧ Only [] w w' := by
  refine calls_abs fun R hR => ?_
  have h2 := new_yes w n h1 h24
  have hmm := @run_makeMap Try.prog
  clear h1 h24
  go_enter Try.func18, Try.ntmps18
  go_wp2_with fail
  refine h2.mono ?_
  rintro e w3 ⟨p, b, rfl, hp, ho, hp1, hb1⟩
  obtain ⟨_, _, _, _, f1, f2⟩ := hp.facts
  have hp5 : PRep ((w3.alloc (.map #[] 0)).alloc (.cells #[.pointer (some ⟨p, 0, none⟩), .map (some w3.heap.size)] 98)) p b (Pl.zero n) := hp.only (((Only.refl [] w3).alloc _).alloc _) (by simp) (by simp)
  have hrow : Row ((w3.alloc (.map #[] 0)).alloc (.cells #[.pointer (some ⟨p, 0, none⟩), .map (some w3.heap.size)] 98)) (w3.heap.size + 1) 98 [.pointer (some ⟨p, 0, none⟩), .map (some w3.heap.size)] := by
    have := Row.new (w3.alloc (.map #[] 0)) 98 [.pointer (some ⟨p, 0, none⟩), .map (some w3.heap.size)]
    rwa [World.size_alloc] at this
  have hmap : MapAt ((w3.alloc (.map #[] 0)).alloc (.cells #[.pointer (some ⟨p, 0, none⟩), .map (some w3.heap.size)] 98)) w3.heap.size 0 (fun _ => none) := (MapAt.made w3).only ((OnlyP.refl (fun _ => False) _).alloc _) (fun x => x)
  have hO : Only [] w ((w3.alloc (.map #[] 0)).alloc (.cells #[.pointer (some ⟨p, 0, none⟩), .map (some w3.heap.size)] 98)) := (ho.alloc _).alloc _
  have hsz := ho.size
  obtain ⟨L1, X1, q1, q2, _⟩ := HRep.start (v := w.heap.size) hp5 hrow hmap hp1 hb1 (by omega) (by omega) (by omega) (by omega) (by omega) (by omega) (by omega)
  have Q1 := Lib.hid q1
  have Q2 := Lib.hid q2
  have QO := Lib.hid hO
  clear h2 hp hp5 hrow hmap hO q1 q2 hp1 hb1 f1 f2 hsz ho
  go_wp2_with fail
  exact hR.out _ _ ⟨_, L1, X1, rfl, Q1.out, Q2.out, QO.out⟩
end Go.Proofs.Ythflghdaejbdkaa
namespace Go.Proofs.Ythflghdaejbdkaa
open Go.RowKit Go.Maps
set_option maxHeartbeats 3200000
set_option maxRecDepth 100000
set_option linter.unusedVariables false
theorem Only.cellN {w0 wl : World} (h : Only [] w0 wl) {a : Addr} {v : Value} (hc : w0.cell? a = some v) : wl.cell? a = some v := h.cell hc (by simp)
theorem clone_ownI (w : World) (v : Value) (l : List Int) (h : Ints w 0 v l) (hl : l.length ≤ 1000000) :
    Calls Try.prog 35 #[v] w fun e w' => ∃ v', e = .returned v' ∧ Ints w' w.heap.size v' l ∧ Only [] w w' := by
  rcases h.form with ⟨rfl, rfl⟩ | ⟨g, cap, rfl, _, hg, _, hc⟩
  · refine (clone_nil w).mono ?_
    rintro e _ ⟨rfl, rfl⟩
    exact ⟨_, rfl, Ints.nil _ _, Only.refl _ _⟩
  · refine (clone_ints w g l.length cap l rfl (by omega) hc).mono ?_
    rintro e w1 ⟨v', rfl, hv, ho, _⟩
    exact ⟨v', rfl, hv, ho⟩
section
variable {L : Nat → Option Lb} {hb : Nat} {M : Hp} {X : HX}
end
end Go.Proofs.Ythflghdaejbdkaa
