/- Play of the reference. -/
import Derived.Test.YtemdkffkpdhciaaPlayC
import Derived.Test.YtemdkffkpdhciaaQBoth
namespace Go.Proofs.Ytemdkffkpdhciaa
open Go.RowKit
set_option maxHeartbeats 1600000
set_option maxRecDepth 100000
set_option linter.unusedVariables false

/-- What Play tells. -/
def plOut (size : Int) (puts : List Int) (takes : Int) (sched : List Int) : List Bool × List Int :=
  if playErr size puts takes sched = 0 then ((sched.foldl PSt.step ⟨QSt.new size.toNat, puts, takes.toNat, [], []⟩).put, (sched.foldl PSt.step ⟨QSt.new size.toNat, puts, takes.toNat, [], []⟩).taken) else ([], [])
def PlayPost (w : World) (er : Int) (out : List Bool × List Int) (e : Ending) (w' : World) : Prop :=
  ∃ u1 u2, e = .returned (.tuple #[u1, u2, .int .i64 er]) ∧ Flags w' w.heap.size u1 out.1 ∧ Ints w' w.heap.size u2 out.2 ∧ Only [] w w'
theorem PlayPost.no {w w' : World} {size takes er : Int} {puts sched : List Int} (h : playErr size puts takes sched = er) (hne : er ≠ 0) (o : Only [] w w') :
    PlayPost w (playErr size puts takes sched) (plOut size puts takes sched) (.returned (.tuple #[.slice none 0 0, .slice none 0 0, .int .i64 er])) w' := by
  have : plOut size puts takes sched = ([], []) := by unfold plOut; rw [if_neg (by rw [h]; exact hne)]
  rw [this, h]
  exact ⟨_, _, rfl, Flags.nil _ _, Ints.nil _ _, o⟩
theorem play_any (w : World) (size takes : Int) (v1 v3 : Value) (puts sched : List Int) (h1 : Read w v1 puts) (h3 : Read w v3 sched) (hb1 : ∀ k, v1.ownBlock = some k → k < w.heap.size) (hc1 : ∀ a m c', v1 = .slice a m c' → m ≤ c')
    (hl1 : puts.length ≤ 500) (hl3 : sched.length ≤ 500) :
    Calls Try.prog 27 #[.int .i64 size, v1, .int .i64 takes, v3] w (PlayPost w (playErr size puts takes sched) (plOut size puts takes sched)) := by
  by_cases he : playErr size puts takes sched = 0
  · have hh := he
    unfold playErr at hh
    split at hh
    · omega
    rename_i hh1
    split at hh
    · omega
    rename_i hh2
    split at hh
    · omega
    rename_i hh3
    split at hh
    · omega
    rename_i hh4
    obtain ⟨n, rfl, hn1, hn8⟩ : ∃ n : Nat, size = n ∧ 1 ≤ n ∧ n ≤ 8 := ⟨size.toNat, by omega, by omega, by omega⟩
    obtain ⟨t, rfl, ht⟩ : ∃ t : Nat, takes = t ∧ t ≤ 40 := ⟨takes.toNat, by omega, by omega⟩
    refine (play_yes w n t v1 v3 puts sched h1 h3 hb1 hc1 hn1 hn8 ht (by simpa using hh2) (by simpa using hh3) (by omega) (by omega)).mono ?_
    rintro e w' ⟨u1, u2, rfl, f1, f2, o⟩
    refine ⟨u1, u2, by rw [he], ?_, ?_, o⟩ <;> (unfold plOut; rw [if_pos he]; assumption)
  · refine (play_no w size takes v1 v3 puts sched h1 h3 hl1 hl3 he).mono ?_
    rintro e w' ⟨rfl, o⟩
    exact PlayPost.no rfl he o

/-- What the loop of the reference's Play holds. -/
structure RRel (w wr : World) (p : Nat) (F : List Nat) (v8 v9 : Value) (ρ : RPl) : Prop where
  hq : RRep wr p F ρ.q
  ok : ρ.q.ok
  wl : ρ.q.words.length ≤ ρ.begun
  f8 : Flags wr w.heap.size v8 ρ.put
  f9 : Ints wr w.heap.size v9 ρ.taken
  d8 : ∀ k, v8.ownBlock = some k → k ∉ F
  d9 : ∀ k, v9.ownBlock = some k → k ∉ F
  d89 : ∀ k, v8.ownBlock = some k → v9.ownBlock ≠ some k
  bF : ∀ x ∈ F, w.heap.size ≤ x
  o : Only [] w wr
theorem RRel.step {w wr w1 : World} {p : Nat} {F F' : List Nat} {v8 v9 : Value} {ρ ρ' : RPl} (h : RRel w wr p F v8 v9 ρ) (g : RRep w1 p F' ρ'.q) (k : ρ'.q.ok) (wl : ρ'.q.words.length ≤ ρ'.begun) (o : Only F wr w1) (hw : Within wr F F') (e1 : ρ'.put = ρ.put) (e2 : ρ'.taken = ρ.taken) :
    RRel w w1 p F' v8 v9 ρ' := by
  have hs := h.o.size
  have h8 : ∀ k, v8.ownBlock = some k → w.heap.size ≤ k ∧ k < wr.heap.size := h.f8.own
  have h9 : ∀ k, v9.ownBlock = some k → w.heap.size ≤ k ∧ k < wr.heap.size := h.f9.own
  refine ⟨g, k, wl, by rw [e1]; exact h.f8.only o h.d8, by rw [e2]; exact h.f9.only o h.d9, ?_, ?_, h.d89, ?_, h.o.trans o (fun x hx => .inr (h.bF x hx))⟩
  · intro x hx hm
    rcases hw x hm with h1 | h1
    · exact h.d8 x hx h1
    · have := (h8 x hx).2; omega
  · intro x hx hm
    rcases hw x hm with h1 | h1
    · exact h.d9 x hx h1
    · have := (h9 x hx).2; omega
  · intro x hx
    rcases hw x hx with h1 | h1
    · exact h.bF x h1
    · omega
theorem RRel.drewN {w wr : World} {p : Nat} {F : List Nat} {v8 v9 : Value} {ρ : RPl} (h : RRel w wr p F v8 v9 ρ) (n : Nat) : RRel w (wr.drewN n) p F v8 v9 ρ :=
  ⟨h.hq.drewN n, h.ok, h.wl, h.f8.only (F := []) ((Only.refl _ _).drewN n) (by simp), h.f9.only (F := []) ((Only.refl _ _).drewN n) (by simp), h.d8, h.d9, h.d89, h.bF, h.o.drewN n⟩
theorem RRel.flag {w wr w1 : World} {p : Nat} {F : List Nat} {v8 v9 v' : Value} {ρ ρ' : RPl} (h : RRel w wr p F v8 v9 ρ) {ob : Obj} (f : Flags w1 w.heap.size v' ρ'.put) (o : Only v8.ownBlock.toList (wr.alloc ob) w1)
    (hb : v'.ownBlock = v8.ownBlock ∨ v'.ownBlock = some (wr.heap.size + 1)) (e1 : ρ'.q = ρ.q) (e2 : ρ'.begun = ρ.begun) (e3 : ρ'.taken = ρ.taken) : RRel w w1 p F v' v9 ρ' := by
  have hs := h.o.size
  have hlt := h.hq.lt
  have o1 : Only v8.ownBlock.toList wr w1 := ((Only.refl _ _).alloc ob).trans o (fun x hx => .inl hx)
  have h8 : ∀ k, v8.ownBlock = some k → w.heap.size ≤ k ∧ k < wr.heap.size := h.f8.own
  have h9 : ∀ k, v9.ownBlock = some k → w.heap.size ≤ k ∧ k < wr.heap.size := h.f9.own
  refine ⟨by rw [e1]; exact h.hq.only o1 (fun x hx hm => h.d8 x (by simpa using hm) hx), by rw [e1]; exact h.ok, by rw [e1, e2]; exact h.wl, f, by rw [e3]; exact h.f9.only o1 (fun x hx hm => h.d89 x (by simpa using hm) hx), ?_, h.d9, ?_, h.bF, h.o.trans o1 (fun x hx => .inr (h8 x (by simpa using hx)).1)⟩
  · intro k hk
    rcases hb with hb | hb
    · exact h.d8 k (by rw [← hb]; exact hk)
    · rw [hb] at hk; cases hk; intro hm; have := hlt _ hm; omega
  · intro k hk h3
    rcases hb with hb | hb
    · exact h.d89 k (by rw [← hb]; exact hk) h3
    · rw [hb] at hk; cases hk; have := (h9 _ h3).2; omega
theorem RRel.int {w wr w1 : World} {p : Nat} {F : List Nat} {v8 v9 v' : Value} {ρ ρ' : RPl} (h : RRel w wr p F v8 v9 ρ) {ob : Obj} (f : Ints w1 w.heap.size v' ρ'.taken) (o : Only v9.ownBlock.toList (wr.alloc ob) w1)
    (hb : v'.ownBlock = v9.ownBlock ∨ v'.ownBlock = some (wr.heap.size + 1)) (e1 : ρ'.q = ρ.q) (e2 : ρ'.begun = ρ.begun) (e3 : ρ'.put = ρ.put) : RRel w w1 p F v8 v' ρ' := by
  have hs := h.o.size
  have hlt := h.hq.lt
  have o1 : Only v9.ownBlock.toList wr w1 := ((Only.refl _ _).alloc ob).trans o (fun x hx => .inl hx)
  have h8 : ∀ k, v8.ownBlock = some k → w.heap.size ≤ k ∧ k < wr.heap.size := h.f8.own
  have h9 : ∀ k, v9.ownBlock = some k → w.heap.size ≤ k ∧ k < wr.heap.size := h.f9.own
  refine ⟨by rw [e1]; exact h.hq.only o1 (fun x hx hm => h.d9 x (by simpa using hm) hx), by rw [e1]; exact h.ok, by rw [e1, e2]; exact h.wl, by rw [e3]; exact h.f8.only o1 (fun x hx hm => h.d89 x hx (by simpa using hm)), f, h.d8, ?_, ?_, h.bF, h.o.trans o1 (fun x hx => .inr (h9 x (by simpa using hx)).1)⟩
  · intro k hk
    rcases hb with hb | hb
    · exact h.d9 k (by rw [← hb]; exact hk)
    · rw [hb] at hk; cases hk; intro hm; have := hlt _ hm; omega
  · intro k hk h3
    rcases hb with hb | hb
    · exact h.d89 k hk (by rw [← hb]; exact h3)
    · rw [hb] at h3; cases h3; have := (h8 _ hk).2; omega
theorem foldl_succR {l ps : List Int} {k : Nat} (h : k < l.length) (ρ : RPl) : (l.take (k + 1)).foldl (RPl.step ps) ρ = RPl.step ps ((l.take k).foldl (RPl.step ps) ρ) (gI l k) := by
  rw [List.take_succ_eq_append_getElem h, List.foldl_append]
  simp [gI, h]
def RAt (w wr : World) (p k m : Nat) (ρ : RPl) (s2 s15 s16 s17 : Value) : Prop :=
  ∃ F, s2 = .int .i64 ρ.takes ∧ s17 = .int .i64 ρ.begun ∧ RRel w wr p F s15 s16 ρ ∧ ρ.put.length ≤ k ∧ ρ.taken.length ≤ k ∧ ρ.takes ≤ 40 ∧ ρ.begun ≤ m

theorem plOut_ref {n t : Nat} {puts sched : List Int} (hn1 : 1 ≤ n) (hn8 : n ≤ 8) (he : playErr n puts t sched = 0) :
    plOut n puts t sched = ((sched.foldl (RPl.step puts) ⟨RSt.new n, 0, t, [], []⟩).put, (sched.foldl (RPl.step puts) ⟨RSt.new n, 0, t, [], []⟩).taken) := by
  have h0 : PCpl puts ⟨QSt.new n, puts, t, [], []⟩ ⟨RSt.new n, 0, t, [], []⟩ := ⟨Cpl.new n hn1 hn8, rfl, by simp, rfl, rfl, rfl, by simp [RSt.new]⟩
  have h := PCpl.foldl sched h0
  unfold plOut
  rw [if_pos he, h.put, h.taken]
  rfl
theorem refPlay_any (w : World) (size takes : Int) (v1 v3 : Value) (puts sched : List Int) (h1 : Read w v1 puts) (h3 : Read w v3 sched) (hl1 : puts.length ≤ 500) (hl3 : sched.length ≤ 500) :
    Calls Try.prog 28 #[.int .i64 size, v1, .int .i64 takes, v3] w (PlayPost w (playErr size puts takes sched) (plOut size puts takes sched)) := by
  refine calls_abs fun R hR => ?_
  obtain ⟨a1, c1, e1⟩ := h1.len
  obtain ⟨a3, c3, e3⟩ := h3.len
  subst e1
  subst e3
  have H1 := Lib.hid h1
  have H3 := Lib.hid h3
  clear h1 h3
  by_cases hs : size < 1 ∨ 8 < size
  · have e1 : Hid (playErr size puts takes sched = 1) := by unfold playErr Hid; rw [if_pos (by omega)]
    go_enter Try.func28, Try.ntmps28
    go_wp2_with fail
    refine (refNew_no w size hs).mono ?_
    rintro e _ ⟨rfl, rfl⟩
    go_wp2_with fail
    go_ret3
    exact hR.out _ _ (PlayPost.no e1.out (by decide) (Only.refl _ _))
  · obtain ⟨n, rfl, hn1, hn8⟩ : ∃ n : Nat, size = n ∧ 1 ≤ n ∧ n ≤ 8 := ⟨size.toNat, by omega, by omega, by omega⟩
    by_cases ht0 : takes < 0
    · have e1 : Hid (playErr n puts takes sched = 1) := by unfold playErr Hid; rw [if_pos (by omega)]
      go_enter Try.func28, Try.ntmps28
      go_wp2_with fail
      refine (refNew_yes w n hn1 hn8).mono ?_
      rintro e w2 ⟨p, F, rfl, h2, o2, b2⟩
      go_wp2_with fail
      go_ret3
      exact hR.out _ _ (PlayPost.no e1.out (by decide) o2)
    · by_cases ht4 : 40 < takes
      · have e1 : Hid (playErr n puts takes sched = 1) := by unfold playErr Hid; rw [if_pos (by omega)]
        go_enter Try.func28, Try.ntmps28
        go_wp2_with fail
        refine (refNew_yes w n hn1 hn8).mono ?_
        rintro e w2 ⟨p, F, rfl, h2, o2, b2⟩
        go_wp2_with fail
        go_ret3
        exact hR.out _ _ (PlayPost.no e1.out (by decide) o2)
      · obtain ⟨t, rfl⟩ : ∃ t : Nat, takes = t := ⟨takes.toNat, by omega⟩
        have ht : t ≤ 40 := by omega
        clear ht0 ht4
        have E : Hid (playErr n puts t sched = if puts.any p2 then 1 else if sched.any p1 then 1 else if 40 < puts.length ∨ 300 < sched.length then 2 else 0) := by unfold playErr Hid; rw [if_neg (by omega)]
        go_enter Try.func28, Try.ntmps28
        go_wp2_with fail
        refine (refNew_yes w n hn1 hn8).mono ?_
        rintro e w2 ⟨p, F, rfl, h2, o2, b2⟩
        have O2 := Lib.hid o2
        have H2 := Lib.hid h2
        have B2 := Lib.hid b2
        clear o2 h2 b2
        go_wp2_with fail
        go_loopw [13] (fun i wr => ∃ k : Nat, k ≤ puts.length ∧ i = .int .i64 k ∧ w2 = wr ∧ Hid ((puts.take k).any p2 = false)) (fun i _ => puts.length - (intOf i).toNat)
        case atStart => exact ⟨0, by omega, rfl, rfl, rfl⟩
        case round =>
          obtain ⟨k, hk, rfl, rfl, hf⟩ := hrel
          by_cases hlt : k < puts.length
          · rcases H1.out.only O2.out (by simp) with ⟨b, o, d, f1, g1⟩ | ⟨oa, d, f1, g1⟩
            rotate_left
            · rw [g1] at hlt; simp at hlt
            simp only [Value.slice.injEq] at f1
            obtain ⟨rfl, hzz, rfl⟩ := f1
            clear hzz
            have k1 := g1 k hlt
            clear g1
            cases hp : isWordB (gI puts k)
            · have e1 : Hid (playErr n puts t sched = 1) := by show _ = _; rw [E.out, any_found hlt (by simp [p2, hp])]; rfl
              go_wp2_with fail
              refine (refWord_any _ _).mono ?_
              rintro e _ ⟨rfl, rfl⟩
              go_wp2_with fail
              go_ret3
              exact hR.out _ _ (PlayPost.no e1.out (by decide) O2.out)
            · go_wp2_with fail
              refine (refWord_any _ _).mono ?_
              rintro e _ ⟨rfl, rfl⟩
              go_wp2_with fail
              exact ⟨⟨k + 1, by omega, by go_num, by trivial, any_step hlt hf.out (by simp [p2, hp])⟩, by simp [intOf]; omega⟩
          · have hp2 : Hid (puts.any p2 = false) := by
              have := hf.out
              rw [List.take_of_length_le (by omega)] at this
              exact this
            clear hf
            go_wp2_with fail
            clear hk hlt
            go_loopw [14] (fun i wr => ∃ k : Nat, k ≤ sched.length ∧ i = .int .i64 k ∧ w2 = wr ∧ Hid ((sched.take k).any p1 = false)) (fun i _ => sched.length - (intOf i).toNat)
            case atStart => exact ⟨0, by omega, rfl, rfl, rfl⟩
            case round =>
              obtain ⟨k, hk, rfl, rfl, hf⟩ := hrel
              by_cases hlt : k < sched.length
              · rcases H3.out.only O2.out (by simp) with ⟨b, o, d, f1, g1⟩ | ⟨oa, d, f1, g1⟩
                rotate_left
                · rw [g1] at hlt; simp at hlt
                simp only [Value.slice.injEq] at f1
                obtain ⟨rfl, hzz, rfl⟩ := f1
                clear hzz
                have k1 := g1 k hlt
                clear g1
                cases hp : p1 (gI sched k)
                · have HS := any_step hlt hf.out hp
                  rcases p1_false hp with hx | hx
                  · rw [hx] at k1
                    have HS := Lib.hid HS
                    clear hp hx
                    go_wp2_with fail
                    exact ⟨⟨k + 1, by omega, by go_num, by trivial, HS.out⟩, by simp [intOf]; omega⟩
                  · rw [hx] at k1
                    have HS := Lib.hid HS
                    clear hp hx
                    go_wp2_with fail
                    exact ⟨⟨k + 1, by omega, by go_num, by trivial, HS.out⟩, by simp [intOf]; omega⟩
                · have e1 : Hid (playErr n puts t sched = 1) := by show _ = _; rw [E.out, hp2.out, any_found hlt hp]; rfl
                  have hx0 : ((gI sched k) != 0) = true := by simp [p1] at hp; simp [bne_iff_ne]; omega
                  have hx1 : ((gI sched k) != 1) = true := by simp [p1] at hp; simp [bne_iff_ne]; omega
                  clear hp
                  go_wp2_with fail
                  go_ret3
                  exact hR.out _ _ (PlayPost.no e1.out (by decide) O2.out)
              · have hp1 : Hid (sched.any p1 = false) := by
                  have := hf.out
                  rw [List.take_of_length_le (by omega)] at this
                  exact this
                clear hf
                by_cases hl40 : 40 < puts.length
                · have e1 : Hid (playErr n puts t sched = 2) := by show _ = _; rw [E.out, hp2.out, hp1.out]; simp [hl40]
                  go_wp2_with fail
                  go_ret3
                  exact hR.out _ _ (PlayPost.no e1.out (by decide) O2.out)
                by_cases hl300 : 300 < sched.length
                · have e1 : Hid (playErr n puts t sched = 2) := by show _ = _; rw [E.out, hp2.out, hp1.out]; simp [hl300]
                  go_wp2_with fail
                  go_ret3
                  exact hR.out _ _ (PlayPost.no e1.out (by decide) O2.out)
                have e1 : playErr n puts t sched = 0 := by rw [E.out, hp2.out, hp1.out]; simp [hl40, hl300]
                have EO := Lib.hid (plOut_ref hn1 hn8 e1)
                have E1 := Lib.hid e1
                clear e1
                have hinit : Hid (RAt w w2 p 0 puts.length ⟨RSt.new n, 0, t, [], []⟩ (.int .i64 t) (.slice none 0 0) (.slice none 0 0) (.int .i64 0)) :=
                  ⟨F, rfl, rfl, ⟨H2.out, (Cpl.new n hn1 hn8).tok, by simp [RSt.new], Flags.nil _ _, Ints.nil _ _, by simp [Value.ownBlock], by simp [Value.ownBlock], by simp [Value.ownBlock], B2.out, O2.out⟩, by simp, by simp, ht, by simp⟩
                go_wp2_with fail
                clear hk hlt
                go_loopw [2, 15, 16, 17, 18] (fun s2 s15 s16 s17 i wr => ∃ (k : Nat) (ρ : RPl), k ≤ sched.length ∧ i = .int .i64 k ∧ Hid ((sched.take k).foldl (RPl.step puts) ⟨RSt.new n, 0, t, [], []⟩ = ρ) ∧ RAt w wr p k puts.length ρ s2 s15 s16 s17) (fun _ _ _ _ i _ => sched.length - (intOf i).toNat)
                case atStart => exact ⟨0, _, by omega, rfl, rfl, hinit.out⟩
                case round =>
                  clear hinit
                  obtain ⟨k, ρ, hk, rfl, hρ, G, rfl, rfl, hr, hl8, hl9, ht40, hbm⟩ := hrel
                  by_cases hlt : k < sched.length
                  · rcases H3.out.only hr.o (by simp) with ⟨b3, o3, d3, f3, g3⟩ | ⟨oa, d3, f3, g3⟩
                    rotate_left
                    · rw [g3] at hlt; simp at hlt
                    simp only [Value.slice.injEq] at f3
                    obtain ⟨rfl, hzz, rfl⟩ := f3
                    clear hzz
                    have k3 := g3 k hlt
                    clear g3
                    have hnx : Hid ((sched.take (k + 1)).foldl (RPl.step puts) ⟨RSt.new n, 0, t, [], []⟩ = RPl.step puts ρ (gI sched k)) := by
                      show _ = _
                      rw [foldl_succR hlt, hρ.out]
                    have hwl : ρ.q.words.length < 1099511627776 := by have := hr.wl; omega
                    obtain ⟨_, _, _, _, _, _, _, _, k4, k5, kf, klt⟩ := hr.hq.facts
                    have HWL := Lib.hid hwl
                    have HR := Lib.hid hr
                    clear hr hwl
                    rcases p1_false (any_false_at hp1.out hlt) with hx | hx
                    · have HX := Lib.hid hx
                      rw [hx] at k3
                      clear hx
                      by_cases hpt : ρ.q.putS = 0
                      · have HPT := Lib.hid hpt
                        rw [hpt] at k4
                        clear hpt
                        by_cases hbg : ρ.begun = puts.length
                        · have e1 : Hid (RPl.step puts ρ (gI sched k) = ρ) := by show _ = _; unfold RPl.step; rw [if_pos HX.out, if_pos HPT.out, if_pos hbg]
                          have hb0 : ((ρ.begun : Int) == (puts.length : Int)) = true := by rw [beq_iff_eq]; omega
                          clear hbg
                          go_wp2_with fail
                          exact ⟨⟨k + 1, ρ, by omega, by go_num, (by show _ = _; rw [hnx.out, e1.out]), G, rfl, rfl, HR.out.drewN 0, by omega, by omega, ht40, hbm⟩, by simp [intOf]; omega⟩
                        · have hb0 : ((ρ.begun : Int) == (puts.length : Int)) = false := by rw [beq_eq_false_iff_ne]; omega
                          have hbl : ρ.begun < puts.length := by omega
                          have e1 : Hid (RPl.step puts ρ (gI sched k) = RPl.putStep { ρ with q := (ρ.q.beginPut (gI puts ρ.begun)).2, begun := ρ.begun + 1 }) := by show _ = _; unfold RPl.step; rw [if_pos HX.out, if_pos HPT.out, if_neg hbg]
                          clear hbg
                          rcases H1.out.only HR.out.o (by simp) with ⟨b1, o1, d1, f1, g1⟩ | ⟨oa, d1, f1, g1⟩
                          rotate_left
                          · rw [g1] at hbl; simp at hbl
                          simp only [Value.slice.injEq] at f1
                          obtain ⟨rfl, hzz, rfl⟩ := f1
                          clear hzz
                          have ky := g1 _ hbl
                          clear g1
                          go_wp2_with fail
                          refine (refBeginPut_rep _ _ _ _ HR.out.hq HWL.out (gI puts ρ.begun)).mono ?_
                          rintro e w4 ⟨G4, rfl, g4, o4, i4⟩
                          obtain ⟨ρ4, hρ4⟩ : ∃ ρ4 : RPl, ρ4 = { ρ with q := (ρ.q.beginPut (gI puts ρ.begun)).2, begun := ρ.begun + 1 } := ⟨_, rfl⟩
                          rw [← hρ4] at e1
                          have r4 : RRel w w4 p G4 _ _ ρ4 := HR.out.step (by rw [hρ4]; exact g4) (by rw [hρ4]; exact (HR.out.ok.beginPut _).1) (by rw [hρ4]; exact Nat.le_trans (HR.out.ok.beginPut _).2.2 (Nat.succ_le_succ HR.out.wl)) o4 i4 (by rw [hρ4]) (by rw [hρ4])
                          have bq : Hid (ρ4.begun = ρ.begun + 1) := by show _ = _; rw [hρ4]
                          have tq : Hid (ρ4.takes = ρ.takes) := by show _ = _; rw [hρ4]
                          have hl8 : ρ4.put.length ≤ k := by rw [hρ4]; exact hl8
                          have hl9 : ρ4.taken.length ≤ k := by rw [hρ4]; exact hl9
                          have ht40 : ρ4.takes ≤ 40 := by rw [tq.out]; exact ht40
                          have hbm : ρ4.begun ≤ puts.length := by rw [bq.out]; omega
                          clear hρ4 HR g4 o4 i4
                          have HR := Lib.hid r4
                          clear r4
                          rw [← tq.out]
                          have HWL : Hid (ρ4.q.words.length < 1099511627776) := by have := HR.out.wl; show _ < _; omega
                          go_wp2_with fail
                          refine (refStepPut_rep _ _ _ _ HR.out.hq HR.out.ok HWL.out).mono ?_
                          rintro e w5 ⟨rfl, g5, o5⟩
                          have HG := Lib.hid g5
                          have HO := Lib.hid o5
                          clear g5 o5
                          cases hd : ρ4.q.stepPut.1
                          · have e2 : Hid (RPl.putStep ρ4 = { ρ4 with q := ρ4.q.stepPut.2.2.2 }) := by show _ = _; unfold RPl.putStep; rw [hd]; rfl
                            have R5 : Hid (RRel w w5 p _ _ _ { ρ4 with q := ρ4.q.stepPut.2.2.2 }) := HR.out.step (ρ' := { ρ4 with q := ρ4.q.stepPut.2.2.2 }) HG.out HR.out.ok.stepPut.1 (Nat.le_trans HR.out.ok.stepPut.2.2 HR.out.wl) HO.out (Within.refl _ _) rfl rfl
                            go_wp2_with fail
                            exact ⟨⟨k + 1, { ρ4 with q := ρ4.q.stepPut.2.2.2 }, by omega, by go_num, (by show _ = _; rw [hnx.out, e1.out, e2.out]), _, (by first | rfl | go_num), (by first | rfl | (rw [bq.out]; go_num)), R5.out, by simp; omega, by simp; omega, by simp; omega, by simp; omega⟩, by simp [intOf]; omega⟩
                          · have e2 : Hid (RPl.putStep ρ4 = { ρ4 with q := ρ4.q.stepPut.2.2.2, put := ρ4.put ++ [ρ4.q.stepPut.2.1] }) := by show _ = _; unfold RPl.putStep; rw [hd]; rfl
                            have R5 : Hid (RRel w w5 p _ _ _ { ρ4 with q := ρ4.q.stepPut.2.2.2 }) := HR.out.step (ρ' := { ρ4 with q := ρ4.q.stepPut.2.2.2 }) HG.out HR.out.ok.stepPut.1 (Nat.le_trans HR.out.ok.stepPut.2.2 HR.out.wl) HO.out (Within.refl _ _) rfl rfl
                            have f8 := R5.out.f8
                            have hB5 : Hid (w.heap.size ≤ w5.heap.size) := R5.out.o.size
                            go_wp2_with (at_builtin; refine append_flag1 rfl _ _ rfl w.heap.size _ _ rfl (f8.alloc _) w5.heap.size ρ4.q.stepPut.2.1 rfl ?c1 ?c2 ?c3 ?c4)
                            case c1 => exact (Row.new w5 _ [_]).cell 0 rfl
                            case c2 => simp; omega
                            case c3 => have := hB5.out; simp; omega
                            case c4 =>
                              intro v' w6 f6 o6 b6
                              have R6 : Hid (RRel w w6 p _ _ _ { ρ4 with q := ρ4.q.stepPut.2.2.2, put := ρ4.put ++ [ρ4.q.stepPut.2.1] }) := R5.out.flag f6 o6 (by simpa using b6) rfl rfl rfl
                              clear f6 o6 b6 f8
                              go_wp2_with fail
                              exact ⟨⟨k + 1, { ρ4 with q := ρ4.q.stepPut.2.2.2, put := ρ4.put ++ [ρ4.q.stepPut.2.1] }, by omega, by go_num, (by show _ = _; rw [hnx.out, e1.out, e2.out]), _, (by first | rfl | go_num), (by first | rfl | (rw [bq.out]; go_num)), R6.out, by simp; omega, by simp; omega, by simp; omega, by simp; omega⟩, by simp [intOf]; omega⟩
                      · have hb0 : ((ρ.q.putS : Int) == 0) = false := by rw [beq_eq_false_iff_ne]; omega
                        have e1 : Hid (RPl.step puts ρ (gI sched k) = ρ.putStep) := by show _ = _; unfold RPl.step; rw [if_pos HX.out, if_neg hpt]
                        clear hpt
                        go_wp2_with fail
                        refine (refStepPut_rep _ _ _ _ HR.out.hq HR.out.ok HWL.out).mono ?_
                        rintro e w5 ⟨rfl, g5, o5⟩
                        have HG := Lib.hid g5
                        have HO := Lib.hid o5
                        clear g5 o5
                        cases hd : ρ.q.stepPut.1
                        · have e2 : Hid (RPl.putStep ρ = { ρ with q := ρ.q.stepPut.2.2.2 }) := by show _ = _; unfold RPl.putStep; rw [hd]; rfl
                          have R5 : Hid (RRel w w5 p _ _ _ { ρ with q := ρ.q.stepPut.2.2.2 }) := HR.out.step (ρ' := { ρ with q := ρ.q.stepPut.2.2.2 }) HG.out HR.out.ok.stepPut.1 (Nat.le_trans HR.out.ok.stepPut.2.2 HR.out.wl) HO.out (Within.refl _ _) rfl rfl
                          go_wp2_with fail
                          exact ⟨⟨k + 1, { ρ with q := ρ.q.stepPut.2.2.2 }, by omega, by go_num, (by show _ = _; rw [hnx.out, e1.out, e2.out]), _, (by first | rfl | go_num), (by first | rfl | (rw [bq.out]; go_num)), R5.out, by simp; omega, by simp; omega, by simp; omega, by simp; omega⟩, by simp [intOf]; omega⟩
                        · have e2 : Hid (RPl.putStep ρ = { ρ with q := ρ.q.stepPut.2.2.2, put := ρ.put ++ [ρ.q.stepPut.2.1] }) := by show _ = _; unfold RPl.putStep; rw [hd]; rfl
                          have R5 : Hid (RRel w w5 p _ _ _ { ρ with q := ρ.q.stepPut.2.2.2 }) := HR.out.step (ρ' := { ρ with q := ρ.q.stepPut.2.2.2 }) HG.out HR.out.ok.stepPut.1 (Nat.le_trans HR.out.ok.stepPut.2.2 HR.out.wl) HO.out (Within.refl _ _) rfl rfl
                          have f8 := R5.out.f8
                          have hB5 : Hid (w.heap.size ≤ w5.heap.size) := R5.out.o.size
                          go_wp2_with (at_builtin; refine append_flag1 rfl _ _ rfl w.heap.size _ _ rfl (f8.alloc _) w5.heap.size ρ.q.stepPut.2.1 rfl ?c1 ?c2 ?c3 ?c4)
                          case c1 => exact (Row.new w5 _ [_]).cell 0 rfl
                          case c2 => simp; omega
                          case c3 => have := hB5.out; simp; omega
                          case c4 =>
                            intro v' w6 f6 o6 b6
                            have R6 : Hid (RRel w w6 p _ _ _ { ρ with q := ρ.q.stepPut.2.2.2, put := ρ.put ++ [ρ.q.stepPut.2.1] }) := R5.out.flag f6 o6 (by simpa using b6) rfl rfl rfl
                            clear f6 o6 b6 f8
                            go_wp2_with fail
                            exact ⟨⟨k + 1, { ρ with q := ρ.q.stepPut.2.2.2, put := ρ.put ++ [ρ.q.stepPut.2.1] }, by omega, by go_num, (by show _ = _; rw [hnx.out, e1.out, e2.out]), _, (by first | rfl | go_num), (by first | rfl | (rw [bq.out]; go_num)), R6.out, by simp; omega, by simp; omega, by simp; omega, by simp; omega⟩, by simp [intOf]; omega⟩
                    · have HX := Lib.hid hx
                      rw [hx] at k3
                      have hx0 : ¬ gI sched k = 0 := by omega
                      have HX0 := Lib.hid hx0
                      clear hx hx0
                      by_cases hpt : ρ.q.takeS = 0
                      · have HPT := Lib.hid hpt
                        rw [hpt] at k5
                        clear hpt
                        by_cases htk : ρ.takes = 0
                        · have e1 : Hid (RPl.step puts ρ (gI sched k) = ρ) := by show _ = _; unfold RPl.step; rw [if_neg HX0.out, if_pos HPT.out, if_pos htk]
                          have HT := Lib.hid htk
                          rw [htk]
                          clear htk
                          go_wp2_with fail
                          exact ⟨⟨k + 1, ρ, by omega, by go_num, (by show _ = _; rw [hnx.out, e1.out]), G, (by rw [HT.out]), rfl, HR.out.drewN 0, by omega, by omega, ht40, hbm⟩, by simp [intOf]; omega⟩
                        · obtain ⟨tk, htk1⟩ : ∃ tk, ρ.takes = tk + 1 := ⟨ρ.takes - 1, by omega⟩
                          have e1 : Hid (RPl.step puts ρ (gI sched k) = RPl.takeStep { ρ with q := ρ.q.beginTake.2, takes := tk }) := by show _ = _; unfold RPl.step; rw [if_neg HX0.out, if_pos HPT.out, if_neg htk, htk1]; rfl
                          rw [htk1] at ht40 ⊢
                          have hb0 : (((tk + 1 : Nat) : Int) == 0) = false := by rw [beq_eq_false_iff_ne]; omega
                          clear htk htk1
                          go_wp2_with fail
                          refine (refBeginTake_rep _ _ _ _ HR.out.hq).mono ?_
                          rintro e w4 ⟨rfl, g4, o4⟩
                          obtain ⟨ρ4, hρ4⟩ : ∃ ρ4 : RPl, ρ4 = { ρ with q := ρ.q.beginTake.2, takes := tk } := ⟨_, rfl⟩
                          rw [← hρ4] at e1
                          have r4 : RRel w w4 p G _ _ ρ4 := HR.out.step (by rw [hρ4]; exact g4) (by rw [hρ4]; exact HR.out.ok.beginTake.1) (by rw [hρ4]; show ρ.q.beginTake.2.words.length ≤ _; rw [HR.out.ok.beginTake.2.2]; exact HR.out.wl) o4 (Within.refl _ _) (by rw [hρ4]) (by rw [hρ4])
                          have bq : Hid (ρ4.begun = ρ.begun) := by show _ = _; rw [hρ4]
                          have tq : ρ4.takes = tk := by rw [hρ4]
                          have hl8 : ρ4.put.length ≤ k := by rw [hρ4]; exact hl8
                          have hl9 : ρ4.taken.length ≤ k := by rw [hρ4]; exact hl9
                          have ht40 : ρ4.takes ≤ 40 := by rw [tq]; omega
                          have hbm : ρ4.begun ≤ puts.length := by rw [bq.out]; omega
                          clear hρ4 HR g4 o4
                          have HR := Lib.hid r4
                          clear r4
                          rw [← bq.out]
                          subst tq
                          have HWL : Hid (ρ4.q.words.length < 1099511627776) := by have := HR.out.wl; show _ < _; omega
                          go_wp2_with fail
                          refine (refStepTake_rep _ _ _ _ HR.out.hq HR.out.ok HWL.out).mono ?_
                          rintro e w5 ⟨rfl, g5, o5⟩
                          have HG := Lib.hid g5
                          have HO := Lib.hid o5
                          clear g5 o5
                          have R5 : Hid (RRel w w5 p _ _ _ { ρ4 with q := ρ4.q.stepTake.2.2.2.2 }) := HR.out.step (ρ' := { ρ4 with q := ρ4.q.stepTake.2.2.2.2 }) HG.out HR.out.ok.stepTake.1 (by show ρ4.q.stepTake.2.2.2.2.words.length ≤ _; rw [HR.out.ok.stepTake.2.2]; exact HR.out.wl) HO.out (Within.refl _ _) rfl rfl
                          cases hd : ρ4.q.stepTake.2.1
                          · have e2 : Hid (RPl.takeStep ρ4 = { ρ4 with q := ρ4.q.stepTake.2.2.2.2 }) := by show _ = _; unfold RPl.takeStep; rw [hd]; rfl
                            go_wp2_with fail
                            exact ⟨⟨k + 1, { ρ4 with q := ρ4.q.stepTake.2.2.2.2 }, by omega, by go_num, (by show _ = _; rw [hnx.out, e1.out, e2.out]), _, (by first | rfl | go_num), (by first | rfl | (rw [bq.out]; go_num)), R5.out, by simp; omega, by simp; omega, by simp; omega, by simp; omega⟩, by simp [intOf]; omega⟩
                          · have e2 : Hid (RPl.takeStep ρ4 = { ρ4 with q := ρ4.q.stepTake.2.2.2.2, taken := ρ4.taken ++ [ρ4.q.stepTake.2.2.1] }) := by show _ = _; unfold RPl.takeStep; rw [hd]; rfl
                            have f9 := R5.out.f9
                            have hB5 : Hid (w.heap.size ≤ w5.heap.size) := R5.out.o.size
                            go_wp2_with (at_builtin; refine append_int1 rfl _ _ rfl w.heap.size _ _ rfl (f9.alloc _) w5.heap.size ρ4.q.stepTake.2.2.1 rfl ?c1 ?c2 ?c3 ?c4)
                            case c1 => exact (Row.new w5 _ [_]).cell 0 rfl
                            case c2 => simp; omega
                            case c3 => have := hB5.out; simp; omega
                            case c4 =>
                              intro v' w6 f6 o6 b6
                              have R6 : Hid (RRel w w6 p _ _ _ { ρ4 with q := ρ4.q.stepTake.2.2.2.2, taken := ρ4.taken ++ [ρ4.q.stepTake.2.2.1] }) := R5.out.int f6 o6 (by simpa using b6) rfl rfl rfl
                              clear f6 o6 b6 f9
                              go_wp2_with fail
                              exact ⟨⟨k + 1, { ρ4 with q := ρ4.q.stepTake.2.2.2.2, taken := ρ4.taken ++ [ρ4.q.stepTake.2.2.1] }, by omega, by go_num, (by show _ = _; rw [hnx.out, e1.out, e2.out]), _, (by first | rfl | go_num), (by first | rfl | (rw [bq.out]; go_num)), R6.out, by simp; omega, by simp; omega, by simp; omega, by simp; omega⟩, by simp [intOf]; omega⟩
                      · have hb0 : ((ρ.q.takeS : Int) == 0) = false := by rw [beq_eq_false_iff_ne]; omega
                        have e1 : Hid (RPl.step puts ρ (gI sched k) = ρ.takeStep) := by show _ = _; unfold RPl.step; rw [if_neg HX0.out, if_neg hpt]
                        clear hpt
                        go_wp2_with fail
                        refine (refStepTake_rep _ _ _ _ HR.out.hq HR.out.ok HWL.out).mono ?_
                        rintro e w5 ⟨rfl, g5, o5⟩
                        have HG := Lib.hid g5
                        have HO := Lib.hid o5
                        clear g5 o5
                        have R5 : Hid (RRel w w5 p _ _ _ { ρ with q := ρ.q.stepTake.2.2.2.2 }) := HR.out.step (ρ' := { ρ with q := ρ.q.stepTake.2.2.2.2 }) HG.out HR.out.ok.stepTake.1 (by show ρ.q.stepTake.2.2.2.2.words.length ≤ _; rw [HR.out.ok.stepTake.2.2]; exact HR.out.wl) HO.out (Within.refl _ _) rfl rfl
                        cases hd : ρ.q.stepTake.2.1
                        · have e2 : Hid (RPl.takeStep ρ = { ρ with q := ρ.q.stepTake.2.2.2.2 }) := by show _ = _; unfold RPl.takeStep; rw [hd]; rfl
                          go_wp2_with fail
                          exact ⟨⟨k + 1, { ρ with q := ρ.q.stepTake.2.2.2.2 }, by omega, by go_num, (by show _ = _; rw [hnx.out, e1.out, e2.out]), _, (by first | rfl | go_num), (by first | rfl | (rw [bq.out]; go_num)), R5.out, by simp; omega, by simp; omega, by simp; omega, by simp; omega⟩, by simp [intOf]; omega⟩
                        · have e2 : Hid (RPl.takeStep ρ = { ρ with q := ρ.q.stepTake.2.2.2.2, taken := ρ.taken ++ [ρ.q.stepTake.2.2.1] }) := by show _ = _; unfold RPl.takeStep; rw [hd]; rfl
                          have f9 := R5.out.f9
                          have hB5 : Hid (w.heap.size ≤ w5.heap.size) := R5.out.o.size
                          go_wp2_with (at_builtin; refine append_int1 rfl _ _ rfl w.heap.size _ _ rfl (f9.alloc _) w5.heap.size ρ.q.stepTake.2.2.1 rfl ?c1 ?c2 ?c3 ?c4)
                          case c1 => exact (Row.new w5 _ [_]).cell 0 rfl
                          case c2 => simp; omega
                          case c3 => have := hB5.out; simp; omega
                          case c4 =>
                            intro v' w6 f6 o6 b6
                            have R6 : Hid (RRel w w6 p _ _ _ { ρ with q := ρ.q.stepTake.2.2.2.2, taken := ρ.taken ++ [ρ.q.stepTake.2.2.1] }) := R5.out.int f6 o6 (by simpa using b6) rfl rfl rfl
                            clear f6 o6 b6 f9
                            go_wp2_with fail
                            exact ⟨⟨k + 1, { ρ with q := ρ.q.stepTake.2.2.2.2, taken := ρ.taken ++ [ρ.q.stepTake.2.2.1] }, by omega, by go_num, (by show _ = _; rw [hnx.out, e1.out, e2.out]), _, (by first | rfl | go_num), (by first | rfl | (rw [bq.out]; go_num)), R6.out, by simp; omega, by simp; omega, by simp; omega, by simp; omega⟩, by simp [intOf]; omega⟩
                  · go_wp2_with fail
                    go_ret3
                    refine hR.out _ _ ⟨_, _, (by rw [E1.out]; rfl), ?_, ?_, hr.o⟩
                    · rw [EO.out, ← List.take_of_length_le (show sched.length ≤ k by omega), hρ.out]; exact hr.f8
                    · rw [EO.out, ← List.take_of_length_le (show sched.length ≤ k by omega), hρ.out]; exact hr.f9
end Go.Proofs.Ytemdkffkpdhciaa
