/- Play of the program, walked. -/
import Derived.Test.YtemdkffkpdhciaaPlay
import Derived.Test.YtemdkffkpdhciaaQueueC
namespace Go.Proofs.Ytemdkffkpdhciaa
open Go.RowKit
set_option maxHeartbeats 800000
set_option maxRecDepth 100000
set_option linter.unusedVariables false

/-- What Play's loop holds. -/
structure PRel (w wr : World) (q c : Nat) (pv v8 v9 : Value) (σ : PSt) : Prop where
  hq : QRep wr q c σ.q
  ok : σ.q.ok
  hpv : Read wr pv σ.puts
  pvb : ∀ k, pv.ownBlock = some k → k < w.heap.size
  pc : ∀ a n c', pv = .slice a n c' → n ≤ c'
  f8 : Flags wr w.heap.size v8 σ.put
  f9 : Ints wr w.heap.size v9 σ.taken
  d8 : ∀ k, v8.ownBlock = some k → k ≠ q ∧ k ≠ c
  d9 : ∀ k, v9.ownBlock = some k → k ≠ q ∧ k ≠ c
  d89 : ∀ k, v8.ownBlock = some k → v9.ownBlock ≠ some k
  bq : w.heap.size ≤ q
  bc : w.heap.size ≤ c
  o : Only [] w wr

theorem PRel.step {w wr w1 : World} {q c : Nat} {pv v8 v9 : Value} {σ : PSt} (h : PRel w wr q c pv v8 v9 σ) {s' : QSt} (g : QRep w1 q c s') (k : s'.ok) (o : Only [q, c] wr w1) : PRel w w1 q c pv v8 v9 { σ with q := s' } := by
  refine ⟨g, k, h.hpv.only o (fun x hx hm => ?_), h.pvb, h.pc, h.f8.only o (fun x hx hm => ?_), h.f9.only o (fun x hx hm => ?_), h.d8, h.d9, h.d89, h.bq, h.bc, h.o.trans o (fun x hx => ?_)⟩
  · have h1 := h.pvb x hx
    have h2 := h.bq
    have h3 := h.bc
    simp only [List.mem_cons, List.not_mem_nil, or_false] at hm
    omega
  · have h1 := h.d8 x hx
    simp only [List.mem_cons, List.not_mem_nil, or_false] at hm
    omega
  · have h1 := h.d9 x hx
    simp only [List.mem_cons, List.not_mem_nil, or_false] at hm
    omega
  · have h2 := h.bq
    have h3 := h.bc
    simp only [List.mem_cons, List.not_mem_nil, or_false] at hx
    right
    omega
theorem PRel.drewN {w wr : World} {q c : Nat} {pv v8 v9 : Value} {σ : PSt} (h : PRel w wr q c pv v8 v9 σ) (n : Nat) : PRel w (wr.drewN n) q c pv v8 v9 σ :=
  ⟨h.hq.drewN n, h.ok, h.hpv.only (F := []) ((Only.refl _ _).drewN n) (by simp), h.pvb, h.pc, h.f8.only (F := []) ((Only.refl _ _).drewN n) (by simp), h.f9.only (F := []) ((Only.refl _ _).drewN n) (by simp), h.d8, h.d9, h.d89, h.bq, h.bc, h.o.drewN n⟩
theorem PRel.flag {w wr w1 : World} {q c : Nat} {pv v8 v9 v' : Value} {σ : PSt} (h : PRel w wr q c pv v8 v9 σ) {l : List Bool} {ob : Obj} (f : Flags w1 w.heap.size v' l) (o : Only v8.ownBlock.toList (wr.alloc ob) w1)
    (hb : v'.ownBlock = v8.ownBlock ∨ v'.ownBlock = some (wr.heap.size + 1)) : PRel w w1 q c pv v' v9 { σ with put := l } := by
  have hs := h.o.size
  have hlt := h.hq.lt
  have o1 : Only v8.ownBlock.toList wr w1 := ((Only.refl _ _).alloc ob).trans o (fun x hx => .inl hx)
  have h8 : ∀ k, v8.ownBlock = some k → w.heap.size ≤ k ∧ k < wr.heap.size := h.f8.own
  have h9 : ∀ k, v9.ownBlock = some k → w.heap.size ≤ k ∧ k < wr.heap.size := h.f9.own
  refine ⟨h.hq.only o1 (fun hm => (h.d8 q (by simpa using hm)).1 rfl) (fun hm => (h.d8 c (by simpa using hm)).2 rfl), h.ok, h.hpv.only o1 (fun x hx hm => ?_), h.pvb, h.pc, f, h.f9.only o1 (fun x hx hm => h.d89 x (by simpa using hm) hx), ?_, h.d9, ?_, h.bq, h.bc, h.o.trans o1 (fun x hx => .inr (h8 x (by simpa using hx)).1)⟩
  · have h1 := h.pvb x hx
    have h2 := (h8 x (by simpa using hm)).1
    omega
  · intro k hk
    rcases hb with hb | hb
    · exact h.d8 k (by rw [← hb]; exact hk)
    · rw [hb] at hk; cases hk; omega
  · intro k hk h3
    rcases hb with hb | hb
    · exact h.d89 k (by rw [← hb]; exact hk) h3
    · rw [hb] at hk; cases hk; have := (h9 _ h3).2; omega
theorem PRel.int {w wr w1 : World} {q c : Nat} {pv v8 v9 v' : Value} {σ : PSt} (h : PRel w wr q c pv v8 v9 σ) {l : List Int} {ob : Obj} (f : Ints w1 w.heap.size v' l) (o : Only v9.ownBlock.toList (wr.alloc ob) w1)
    (hb : v'.ownBlock = v9.ownBlock ∨ v'.ownBlock = some (wr.heap.size + 1)) : PRel w w1 q c pv v8 v' { σ with taken := l } := by
  have hs := h.o.size
  have hlt := h.hq.lt
  have o1 : Only v9.ownBlock.toList wr w1 := ((Only.refl _ _).alloc ob).trans o (fun x hx => .inl hx)
  have h8 : ∀ k, v8.ownBlock = some k → w.heap.size ≤ k ∧ k < wr.heap.size := h.f8.own
  have h9 : ∀ k, v9.ownBlock = some k → w.heap.size ≤ k ∧ k < wr.heap.size := h.f9.own
  refine ⟨h.hq.only o1 (fun hm => (h.d9 q (by simpa using hm)).1 rfl) (fun hm => (h.d9 c (by simpa using hm)).2 rfl), h.ok, h.hpv.only o1 (fun x hx hm => ?_), h.pvb, h.pc, h.f8.only o1 (fun x hx hm => h.d89 x hx (by simpa using hm)), f, h.d8, ?_, ?_, h.bq, h.bc, h.o.trans o1 (fun x hx => .inr (h9 x (by simpa using hx)).1)⟩
  · have h1 := h.pvb x hx
    have h2 := (h9 x (by simpa using hm)).1
    omega
  · intro k hk
    rcases hb with hb | hb
    · exact h.d9 k (by rw [← hb]; exact hk)
    · rw [hb] at hk; cases hk; omega
  · intro k hk h3
    rcases hb with hb | hb
    · exact h.d89 k hk (by rw [← hb]; exact h3)
    · rw [hb] at h3; cases h3; have := (h8 _ hk).2; omega
/-- The puts without their first word. -/
theorem PRel.tail {w wr : World} {q c b o cp : Nat} {v8 v9 : Value} {σ : PSt} {y : Int} {ys : List Int} (h : PRel w wr q c (.slice (some ⟨b, o, none⟩) (ys.length + 1) cp) v8 v9 σ) (hy : σ.puts = y :: ys) :
    PRel w wr q c (.slice (if cp = 1 then some ⟨b, o, none⟩ else some ⟨b, o + 1, none⟩) ys.length (cp - 1)) v8 v9 { σ with puts := ys } := by
  have hcp := h.pc _ _ _ rfl
  refine ⟨h.hq, h.ok, ?_, ?_, fun a n c' e => ?_, h.f8, h.f9, h.d8, h.d9, h.d89, h.bq, h.bc, h.o⟩
  · rcases h.hpv with ⟨b', o', c', h1, h2⟩ | ⟨oa, c', h1, h2⟩
    · simp only [Value.slice.injEq, Option.some.injEq, Addr.mk.injEq] at h1
      obtain ⟨⟨rfl, rfl, _⟩, h3, rfl⟩ := h1
      split
      · rename_i h5
        have h4 : ys.length = 0 := by omega
        exact .inr ⟨_, _, by rw [h4], List.eq_nil_of_length_eq_zero h4⟩
      · refine .inl ⟨b, o + 1, _, rfl, fun i hi => ?_⟩
        have := h2 (i + 1) (by rw [hy]; simpa using hi)
        rw [show o + 1 + i = o + (i + 1) by omega, this, hy]
        simp [gI]
    · rw [hy] at h2; cases h2
  · intro k hk
    refine h.pvb k ?_
    split at hk <;> simpa [Value.ownBlock] using hk
  · simp only [Value.slice.injEq] at e
    omega

/-- Play's error. -/
def playErr (size : Int) (puts : List Int) (takes : Int) (sched : List Int) : Int :=
  if size < 1 ∨ 8 < size ∨ takes < 0 ∨ 40 < takes then 1
  else if puts.any p2 then 1
  else if sched.any p1 then 1
  else if 40 < puts.length ∨ 300 < sched.length then 2 else 0

theorem play_no (w : World) (size takes : Int) (v1 v3 : Value) (puts sched : List Int) (h1 : Read w v1 puts) (h3 : Read w v3 sched) (hl1 : puts.length ≤ 500) (hl3 : sched.length ≤ 500) (he : playErr size puts takes sched ≠ 0) :
    Calls Try.prog 27 #[.int .i64 size, v1, .int .i64 takes, v3] w fun e w' => e = .returned (.tuple #[.slice none 0 0, .slice none 0 0, .int .i64 (playErr size puts takes sched)]) ∧ Only [] w w' := by
  refine calls_abs fun R hR => ?_
  obtain ⟨a1, c1, e1⟩ := h1.len
  obtain ⟨a3, c3, e3⟩ := h3.len
  subst e1
  subst e3
  have H1 := Lib.hid h1
  have H3 := Lib.hid h3
  clear h1 h3
  by_cases hs : size < 1 ∨ 8 < size
  · have e1 : Hid (playErr size puts takes sched = 1) := by unfold playErr Hid; rw [if_pos (by omega)]
    go_enter Try.func27, Try.ntmps27
    go_wp2_with fail
    refine (new_no w size hs).mono ?_
    rintro e _ ⟨rfl, rfl⟩
    go_wp2_with fail
    go_ret3
    refine hR.out _ _ ?_
    rw [e1.out]
    exact ⟨rfl, Only.refl _ _⟩
  · obtain ⟨n, rfl, hn1, hn8⟩ : ∃ n : Nat, size = n ∧ 1 ≤ n ∧ n ≤ 8 := ⟨size.toNat, by omega, by omega, by omega⟩
    by_cases ht0 : takes < 0
    · have e1 : Hid (playErr n puts takes sched = 1) := by unfold playErr Hid; rw [if_pos (by omega)]
      go_enter Try.func27, Try.ntmps27
      go_wp2_with fail
      refine (new_yes w n hn1 hn8).mono ?_
      rintro e w2 ⟨q, c, rfl, h2, o2, b2, b3⟩
      go_wp2_with fail
      go_ret3
      refine hR.out _ _ ?_
      rw [e1.out]
      exact ⟨rfl, o2⟩
    · by_cases ht4 : 40 < takes
      · have e1 : Hid (playErr n puts takes sched = 1) := by unfold playErr Hid; rw [if_pos (by omega)]
        go_enter Try.func27, Try.ntmps27
        go_wp2_with fail
        refine (new_yes w n hn1 hn8).mono ?_
        rintro e w2 ⟨q, c, rfl, h2, o2, b2, b3⟩
        go_wp2_with fail
        go_ret3
        refine hR.out _ _ ?_
        rw [e1.out]
        exact ⟨rfl, o2⟩
      · have e0 : playErr n puts takes sched = if puts.any p2 then 1
            else if sched.any p1 then 1
            else if 40 < puts.length ∨ 300 < sched.length then 2 else 0 := by unfold playErr; rw [if_neg (by omega)]
        cases hp : puts.any p2
        · cases hq : sched.any p1
          · rw [hp, hq] at e0
            have hlen : 40 < puts.length ∨ 300 < sched.length := by
              by_cases h : 40 < puts.length ∨ 300 < sched.length
              · exact h
              · exfalso; apply he; rw [e0]; simp [h]
            have e1 : Hid (playErr n puts takes sched = 2) := by show _ = _; rw [e0]; simp [hlen]
            clear e0 he
            have HP := Lib.hid hp
            have HQ := Lib.hid hq
            clear hp hq
            by_cases hl40 : 40 < puts.length
            · go_enter Try.func27, Try.ntmps27
              go_wp2_with fail
              refine (new_yes w n hn1 hn8).mono ?_
              rintro e w2 ⟨q, c, rfl, h2, o2, b2, b3⟩
              go_wp2_with fail
              have hcc := containsFunc2_any w2 _ _ (H1.out.only o2 (by simp)) (by omega)
              rw [HP.out] at hcc
              refine hcc.mono ?_
              rintro e _ ⟨rfl, rfl⟩
              clear hcc
              go_wp2_with fail
              have hcc := containsFunc1_any w2 _ _ (H3.out.only o2 (by simp)) (by omega)
              rw [HQ.out] at hcc
              refine hcc.mono ?_
              rintro e _ ⟨rfl, rfl⟩
              clear hcc
              go_wp2_with fail
              go_ret3
              refine hR.out _ _ ?_
              rw [e1.out]
              exact ⟨rfl, o2⟩
            · have hl300 : 300 < sched.length := by omega
              go_enter Try.func27, Try.ntmps27
              go_wp2_with fail
              refine (new_yes w n hn1 hn8).mono ?_
              rintro e w2 ⟨q, c, rfl, h2, o2, b2, b3⟩
              go_wp2_with fail
              have hcc := containsFunc2_any w2 _ _ (H1.out.only o2 (by simp)) (by omega)
              rw [HP.out] at hcc
              refine hcc.mono ?_
              rintro e _ ⟨rfl, rfl⟩
              clear hcc
              go_wp2_with fail
              have hcc := containsFunc1_any w2 _ _ (H3.out.only o2 (by simp)) (by omega)
              rw [HQ.out] at hcc
              refine hcc.mono ?_
              rintro e _ ⟨rfl, rfl⟩
              clear hcc
              go_wp2_with fail
              go_ret3
              refine hR.out _ _ ?_
              rw [e1.out]
              exact ⟨rfl, o2⟩
          · rw [hp, hq] at e0
            have e1 : Hid (playErr n puts takes sched = 1) := by show _ = _; rw [e0]; simp
            clear e0 he
            have HP := Lib.hid hp
            have HQ := Lib.hid hq
            clear hp hq
            go_enter Try.func27, Try.ntmps27
            go_wp2_with fail
            refine (new_yes w n hn1 hn8).mono ?_
            rintro e w2 ⟨q, c, rfl, h2, o2, b2, b3⟩
            go_wp2_with fail
            have hcc := containsFunc2_any w2 _ _ (H1.out.only o2 (by simp)) (by omega)
            rw [HP.out] at hcc
            refine hcc.mono ?_
            rintro e _ ⟨rfl, rfl⟩
            clear hcc
            go_wp2_with fail
            have hcc := containsFunc1_any w2 _ _ (H3.out.only o2 (by simp)) (by omega)
            rw [HQ.out] at hcc
            refine hcc.mono ?_
            rintro e _ ⟨rfl, rfl⟩
            clear hcc
            go_wp2_with fail
            go_ret3
            refine hR.out _ _ ?_
            rw [e1.out]
            exact ⟨rfl, o2⟩
        · rw [hp] at e0
          have e1 : Hid (playErr n puts takes sched = 1) := by show _ = _; rw [e0]; simp
          clear e0 he
          have HP := Lib.hid hp
          clear hp
          go_enter Try.func27, Try.ntmps27
          go_wp2_with fail
          refine (new_yes w n hn1 hn8).mono ?_
          rintro e w2 ⟨q, c, rfl, h2, o2, b2, b3⟩
          go_wp2_with fail
          have hcc := containsFunc2_any w2 _ _ (H1.out.only o2 (by simp)) (by omega)
          rw [HP.out] at hcc
          refine hcc.mono ?_
          rintro e _ ⟨rfl, rfl⟩
          clear hcc
          go_wp2_with fail
          go_ret3
          refine hR.out _ _ ?_
          rw [e1.out]
          exact ⟨rfl, o2⟩
end Go.Proofs.Ytemdkffkpdhciaa
