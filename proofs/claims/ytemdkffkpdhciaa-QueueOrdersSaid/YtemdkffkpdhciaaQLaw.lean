/- The law's own functions: ints, word, do, alike, sane, over the two queues side by side. -/
import Derived.Test.YtemdkffkpdhciaaQBoth
namespace Go.Proofs.Ytemdkffkpdhciaa
open Go.RowKit
set_option maxHeartbeats 400000

/-- The slice value v reads as the numbers l. -/
def Read (w : World) (v : Value) (l : List Int) : Prop :=
  (∃ b o c, v = .slice (some ⟨b, o, none⟩) l.length c ∧ ∀ i, i < l.length → w.cell? ⟨b, o + i, none⟩ = some (.int .i64 (gI l i))) ∨ (∃ oa c, v = .slice oa 0 c ∧ l = [])
theorem Ints.read {w : World} {base : Nat} {v : Value} {l : List Int} (h : Ints w base v l) : Read w v l := by
  rcases h.form with ⟨h1, h2⟩ | ⟨g, cap, h1, _, _, _, h2⟩
  · exact .inr ⟨none, 0, h1, h2⟩
  · exact .inl ⟨g, 0, cap, h1, fun i hi => by rw [Nat.zero_add]; exact h2 i hi⟩
theorem Read.len {w : World} {v : Value} {l : List Int} (h : Read w v l) : ∃ a c, v = .slice a l.length c := by
  rcases h with ⟨b, o, c, h1, _⟩ | ⟨oa, c, h1, h2⟩
  · exact ⟨_, _, h1⟩
  · exact ⟨oa, c, by rw [h1, h2]; rfl⟩
theorem Only.cell {F : List Nat} {w w' : World} (h : Only F w w') {a : Addr} {v : Value} (hv : w.cell? a = some v) (ha : a.block ∉ F) : w'.cell? a = some v :=
  (World.cell?_of_block (h.block a.block (World.block_lt_of_cell? w a hv) ha)).trans hv
theorem Read.only {w w' : World} {v : Value} {l : List Int} {F : List Nat} (h : Read w v l) (ho : Only F w w') (hF : ∀ k, v.ownBlock = some k → k ∉ F) : Read w' v l := by
  rcases h with ⟨b, o, c, h1, h2⟩ | h
  · exact .inl ⟨b, o, c, h1, fun i hi => ho.cell (h2 i hi) (hF b (by rw [h1]; rfl))⟩
  · exact .inr h

theorem ints_eq (w : World) (v1 v2 : Value) (l : List Int) (h1 : Read w v1 l) (h2 : Read w v2 l) (hl : l.length < 1099511627776) :
    Calls Try.prog 18 #[v1, v2] w (Same w (.bool true)) := by
  refine calls_abs fun R hR => ?_
  obtain ⟨a1, c1, e1⟩ := h1.len
  obtain ⟨a2, c2, e2⟩ := h2.len
  subst e1
  subst e2
  have H1 := Lib.hid h1
  have H2 := Lib.hid h2
  clear h1 h2
  go_enter Try.func18, Try.ntmps18
  go_wp2_with fail
  go_loopw [5] (fun i wr => ∃ k : Nat, k ≤ l.length ∧ i = .int .i64 k ∧ ∃ n, wr = w.drewN n) (fun i _ => l.length - (intOf i).toNat)
  case atStart => exact ⟨0, by omega, rfl, drewN_0 _⟩
  case round =>
    obtain ⟨k, hk, rfl, n, rfl⟩ := hrel
    by_cases hlt : k < l.length
    · rcases H1.out with ⟨b1, o1, d1, f1, g1⟩ | ⟨oa, c, f1, g1⟩
      rotate_left
      · rw [g1] at hlt; simp at hlt
      rcases H2.out with ⟨b2, o2, d2, f2, g2⟩ | ⟨oa, c, f2, g2⟩
      rotate_left
      · rw [g2] at hlt; simp at hlt
      simp only [Value.slice.injEq] at f1 f2
      obtain ⟨rfl, _, rfl⟩ := f1
      obtain ⟨rfl, _, rfl⟩ := f2
      have k1 := g1 k hlt
      have k2 := g2 k hlt
      clear g1 g2
      go_wp2_with fail
      go_quiet (fail)
      go_wp2_with fail
      exact ⟨⟨k + 1, by omega, by go_num, drewN_n _ _⟩, by simp [intOf]; omega⟩
    · go_wp2_with fail
      exact hR.out _ _ ⟨rfl, drewN_n _ _⟩

/-- A queue of the program and one of the reference that hold the same; all their blocks lie from B on; at most N words were put. -/
structure Both (w : World) (B N : Nat) (q c p : Nat) (F : List Nat) (s : QSt) (t : RSt) : Prop where
  hq : QRep w q c s
  hp : RRep w p F t
  cpl : Cpl s t
  dq : q ∉ F
  dc : c ∉ F
  bq : B ≤ q
  bc : B ≤ c
  bF : ∀ x ∈ F, B ≤ x
  len : t.words.length ≤ N

theorem Both.drewN {w : World} {B N q c p : Nat} {F : List Nat} {s : QSt} {t : RSt} (h : Both w B N q c p F s t) (n : Nat) : Both (w.drewN n) B N q c p F s t :=
  ⟨h.hq.drewN n, h.hp.drewN n, h.cpl, h.dq, h.dc, h.bq, h.bc, h.bF, h.len⟩
theorem Both.more {w : World} {B N M q c p : Nat} {F : List Nat} {s : QSt} {t : RSt} (h : Both w B N q c p F s t) (hM : N ≤ M) : Both w B M q c p F s t :=
  ⟨h.hq, h.hp, h.cpl, h.dq, h.dc, h.bq, h.bc, h.bF, Nat.le_trans h.len hM⟩
theorem Both.only {w w' : World} {B N q c p : Nat} {F G : List Nat} {s : QSt} {t : RSt} (h : Both w B N q c p F s t) (ho : Only G w w') (hG : ∀ x ∈ q :: c :: F, x ∉ G) : Both w' B N q c p F s t :=
  ⟨h.hq.only ho (hG q (by simp)) (hG c (by simp)), h.hp.only ho (fun x hx => hG x (by simp [hx])), h.cpl, h.dq, h.dc, h.bq, h.bc, h.bF, h.len⟩
theorem Both.lt {w : World} {B N q c p : Nat} {F : List Nat} {s : QSt} {t : RSt} (h : Both w B N q c p F s t) : ∀ x ∈ q :: c :: F, B ≤ x ∧ x < w.heap.size := by
  intro x hx
  rcases List.mem_cons.1 hx with rfl | hx
  · exact ⟨h.bq, h.hq.lt.1⟩
  · rcases List.mem_cons.1 hx with rfl | hx
    · exact ⟨h.bc, h.hq.lt.2⟩
    · exact ⟨h.bF x hx, h.hp.lt x hx⟩

/-- What a deed leaves: the two queues hold the same still. -/
def Done (w : World) (B N q c p : Nat) (F : List Nat) (w' : World) : Prop :=
  ∃ F' s' t', Both w' B N q c p F' s' t' ∧ Only (q :: c :: F) w w' ∧ Within w F F'
theorem Done.of {w w1 w2 : World} {B N M q c p : Nat} {F F' : List Nat} {s s' : QSt} {t t' : RSt} (h : Both w B N q c p F s t)
    (h1 : QRep w1 q c s') (ho1 : Only [q, c] w w1) (h2 : RRep w2 p F' t') (ho2 : Only F w1 w2) (hin : Within w1 F F') (hc : Cpl s' t') (hl : t'.words.length ≤ M) (hB : B ≤ w.heap.size) : Done w B M q c p F w2 := by
  have hw : w.heap.size ≤ w1.heap.size := ho1.size
  refine ⟨F', s', t', ⟨h1.only ho2 h.dq h.dc, h2, hc, ?_, ?_, h.bq, h.bc, ?_, hl⟩, ?_, ?_⟩
  · intro hm
    rcases hin q hm with h3 | h3
    · exact h.dq h3
    · have := h.hq.lt.1; omega
  · intro hm
    rcases hin c hm with h3 | h3
    · exact h.dc h3
    · have := h.hq.lt.2; omega
  · intro x hx
    rcases hin x hx with h3 | h3
    · exact h.bF x h3
    · omega
  · refine (ho1.mono (fun x hx => .inl ?_)).trans ho2 (fun x hx => .inl (by simp [hx]))
    simp only [List.mem_cons, List.not_mem_nil, or_false] at hx
    rcases hx with rfl | rfl <;> simp
  · intro x hx
    rcases hin x hx with h3 | h3
    · exact .inl h3
    · exact .inr (by omega)
theorem Both.ref {w w1 : World} {B N q c p : Nat} {F : List Nat} {s : QSt} {t : RSt} (h : Both w B N q c p F s t) (ho : Only [q, c] w w1) : RRep w1 p F t :=
  h.hp.only ho (fun x hx hm => by
    simp only [List.mem_cons, List.not_mem_nil, or_false] at hm
    rcases hm with rfl | rfl
    · exact h.dq hx
    · exact h.dc hx)

/-- .. where a block was laid ahead. -/
theorem Done.before {w w0 w2 : World} {B N q c p : Nat} {F : List Nat} (h : Done w0 B N q c p F w2) (ho : Only [] w w0) : Done w B N q c p F w2 := by
  obtain ⟨F', s', t', hb, h1, h2⟩ := h
  have := ho.size
  refine ⟨F', s', t', hb, (ho.mono (by simp)).trans h1 (fun x hx => .inl hx), fun x hx => ?_⟩
  rcases h2 x hx with h3 | h3
  · exact .inl h3
  · exact .inr (by omega)

theorem do_both (w : World) (B N q c p : Nat) (F : List Nat) (s : QSt) (t : RSt) (h : Both w B N q c p F s t) (hN : N < 274877906944) (hB : B ≤ w.heap.size) (d n : Int) :
    Calls Try.prog 21 #[.pointer (some ⟨q, 0, none⟩), .pointer (some ⟨p, 0, none⟩), .agg #[.int .i64 d, .int .i64 n]] w fun e w' =>
      e = .returned (.bool true) ∧ Done w B (N + 1) q c p F w' := by
  refine calls_abs fun R hR => ?_
  have hnew := Row.new w 48 [.int .i64 d, .int .i64 n]
  have hal : Only [] w (w.alloc (.cells #[.int .i64 d, .int .i64 n] 48)) := (Only.refl _ _).alloc _
  have h1 := h.only hal (by simp)
  have hlen := h.len
  have hnq : w.heap.size ∉ [q, c] := by
    have h2 := (h.lt q (by simp)).2
    have h3 := (h.lt c (by simp)).2
    simp
    omega
  have hB1 : B ≤ (w.alloc (.cells #[.int .i64 d, .int .i64 n] 48)).heap.size := by simp; omega
  have HB := Lib.hid hB1
  have hsok := h.cpl.sok
  have htok := h.cpl.tok
  clear hB1
  by_cases c0 : d = 0
  · subst c0
    have hc := h.cpl.beginPut n
    have HC := Lib.hid hc
    have hl := (htok.beginPut n).2.2
    clear hc
    go_enter Try.func21, Try.ntmps21
    go_wp2_with fail
    refine (beginPut_rep _ _ _ _ h1.hq hsok n).mono ?_
    rintro e w1 ⟨rfl, g1, o1⟩
    have o1' : Only [q, c] _ w1 := o1.mono (by simp)
    have hr := o1'.row hnew hnq
    have k0 := hr.cell 0 rfl
    have k1 := hr.cell 1 rfl
    go_wp2_with fail
    have hcc := refBeginPut_rep w1 p F t (h1.ref o1') (by omega) n
    rw [HC.out.1] at hcc
    refine hcc.mono ?_
    rintro e w2 ⟨F', rfl, g2, o2, i2⟩
    clear hcc
    go_wp2_with fail
    exact hR.out _ _ ⟨rfl, (Done.of h1 g1 o1' g2 o2 i2 HC.out.2 (by omega) HB.out).before hal⟩
  by_cases c1 : d = 1
  · subst c1
    have HC := Lib.hid h.cpl.stepPut
    have hl := htok.stepPut.2.2
    go_enter Try.func21, Try.ntmps21
    go_wp2_with fail
    refine (stepPut_rep _ _ _ _ h1.hq hsok).mono ?_
    rintro e w1 ⟨rfl, g1, o1⟩
    have o1' : Only [q, c] _ w1 := o1.mono (by simp)
    have hr := o1'.row hnew hnq
    have k0 := hr.cell 0 rfl
    have k1 := hr.cell 1 rfl
    go_wp2_with fail
    have hcc := refStepPut_rep w1 p F t (h1.ref o1') htok (by omega)
    rw [HC.out.1, HC.out.2.1, HC.out.2.2.1] at hcc
    refine hcc.mono ?_
    rintro e w2 ⟨rfl, g2, o2⟩
    clear hcc
    go_wp2_with fail
    exact hR.out _ _ ⟨rfl, (Done.of h1 g1 o1' g2 o2 (Within.refl _ _) HC.out.2.2.2 (by omega) HB.out).before hal⟩
  by_cases c2 : d = 2
  · subst c2
    have HC := Lib.hid h.cpl.beginTake
    have hl : t.beginTake.2.words.length ≤ t.words.length := by rw [htok.beginTake.2.2]; exact Nat.le_refl _
    go_enter Try.func21, Try.ntmps21
    go_wp2_with fail
    refine (beginTake_rep _ _ _ _ h1.hq hsok).mono ?_
    rintro e w1 ⟨rfl, g1, o1⟩
    have o1' : Only [q, c] _ w1 := o1.mono (by simp)
    have hr := o1'.row hnew hnq
    have k0 := hr.cell 0 rfl
    have k1 := hr.cell 1 rfl
    go_wp2_with fail
    have hcc := refBeginTake_rep w1 p F t (h1.ref o1')
    rw [HC.out.1] at hcc
    refine hcc.mono ?_
    rintro e w2 ⟨rfl, g2, o2⟩
    clear hcc
    go_wp2_with fail
    exact hR.out _ _ ⟨rfl, (Done.of h1 g1 o1' g2 o2 (Within.refl _ _) HC.out.2 (by omega) HB.out).before hal⟩
  by_cases c3 : d = 3
  · subst c3
    have HC := Lib.hid h.cpl.stepTake
    have hl : t.stepTake.2.2.2.2.words.length ≤ t.words.length := by rw [htok.stepTake.2.2]; exact Nat.le_refl _
    go_enter Try.func21, Try.ntmps21
    go_wp2_with fail
    refine (stepTake_rep _ _ _ _ h1.hq hsok).mono ?_
    rintro e w1 ⟨rfl, g1, o1⟩
    have o1' : Only [q, c] _ w1 := o1.mono (by simp)
    have hr := o1'.row hnew hnq
    have k0 := hr.cell 0 rfl
    have k1 := hr.cell 1 rfl
    go_wp2_with fail
    have hcc := refStepTake_rep w1 p F t (h1.ref o1') htok (by omega)
    rw [HC.out.1, HC.out.2.1, HC.out.2.2.1, HC.out.2.2.2.1] at hcc
    refine hcc.mono ?_
    rintro e w2 ⟨rfl, g2, o2⟩
    clear hcc
    go_wp2_with fail
    exact hR.out _ _ ⟨rfl, (Done.of h1 g1 o1' g2 o2 (Within.refl _ _) HC.out.2.2.2.2 (by omega) HB.out).before hal⟩
  by_cases c4 : d = 4
  · subst c4
    have HC := Lib.hid (h.cpl.doPut n)
    have hl := RSt.doPut_len htok n
    go_enter Try.func21, Try.ntmps21
    go_wp2_with fail
    refine (doPut_rep _ _ _ _ h1.hq hsok n).mono ?_
    rintro e w1 ⟨rfl, g1, o1⟩
    have o1' : Only [q, c] _ w1 := o1.mono (by simp)
    have hr := o1'.row hnew hnq
    have k0 := hr.cell 0 rfl
    have k1 := hr.cell 1 rfl
    go_wp2_with fail
    have hcc := refPut_rep w1 p F t (h1.ref o1') htok (by omega) n
    rw [HC.out.1, HC.out.2.1] at hcc
    refine hcc.mono ?_
    rintro e w2 ⟨F', rfl, g2, o2, i2⟩
    clear hcc
    go_wp2_with fail
    exact hR.out _ _ ⟨rfl, (Done.of h1 g1 o1' g2 o2 i2 HC.out.2.2 (by omega) HB.out).before hal⟩
  have d0 : (d == 0) = false := by simpa using c0
  have d1 : (d == 1) = false := by simpa using c1
  have d2 : (d == 2) = false := by simpa using c2
  have d3 : (d == 3) = false := by simpa using c3
  have d4 : (d == 4) = false := by simpa using c4
  have HC := Lib.hid h.cpl.doTake
  have hl := RSt.doTake_len htok
  go_enter Try.func21, Try.ntmps21
  go_wp2_with fail
  refine (doTake_rep _ _ _ _ h1.hq hsok).mono ?_
  rintro e w1 ⟨rfl, g1, o1⟩
  have o1' : Only [q, c] _ w1 := o1.mono (by simp)
  have hr := o1'.row hnew hnq
  have k0 := hr.cell 0 rfl
  have k1 := hr.cell 1 rfl
  go_wp2_with fail
  have hcc := refTake_rep w1 p F t (h1.ref o1') htok (by omega)
  rw [HC.out.1, HC.out.2.1, HC.out.2.2.1] at hcc
  refine hcc.mono ?_
  rintro e w2 ⟨rfl, g2, o2⟩
  clear hcc
  go_wp2_with fail
  exact hR.out _ _ ⟨rfl, (Done.of h1 g1 o1' g2 o2 (Within.refl _ _) HC.out.2.2.2 (by omega) HB.out).before hal⟩
end Go.Proofs.Ytemdkffkpdhciaa
