/- Layer 15's laws: play, with what never goes (printed by wip/gen/slawk.py from XSLawD). Law ScopeLeaves: what holds while threads leave in the program alone. Law ScopeLeaves: the walk. -/
import Derived.Test.YtbjmgbbggbbidaaSLawH
import Derived.Test.YtbjmgbbggbbidaaSModelD
namespace Go.Proofs.Ytbjmgbbggbbidaa
open Go.ChangeShapes Go.WideShapes Go.Deep
open Go.RowKit Go.Maps
set_option maxHeartbeats 3200000
set_option maxRecDepth 100000
set_option linter.unusedVariables false
def PlayedL (w : World) (base : Nat) (vp vq : Value) : Prop := (vp = .pointer none ∧ vq = .pointer none) ∨ ∃ p q M, vp = .pointer (some ⟨p, 0, none⟩) ∧ vq = .pointer (some ⟨q, 0, none⟩) ∧ Half w base p q M M ∧ OkL M.obs
theorem play_goodL (w : World) (l : List Int) (a : Option Addr) (len cap : Nat) (hr : Read w (.slice a len cap) l) (h20 : len ≤ 20) (hb : goodSizes l = true) (b : Option Addr) (n cap2 : Nat) (f : Nat → Nat → Int) (hd : Recs 3 w b n f) :
    Calls Try.prog 12 #[.slice a len cap, .slice b n cap2] w (fun e w' => ∃ p q M, e = .returned (.tuple #[.pointer (some ⟨p, 0, none⟩), .pointer (some ⟨q, 0, none⟩), .bool true]) ∧ Half w' w.heap.size p q M M ∧ OkL M.obs ∧ Only [] w w') := by
  refine calls_abs fun R hR => ?_
  have c1 := new_good w _ l hr hb
  have HRD := Lib.hid hr
  have HD := Lib.hid hd
  have HGS := Lib.hid hb
  clear hr hb hd
  go_enter Try.func12, Try.ntmps12
  go_wp2_with fail
  refine c1.mono ?_
  rintro e w1 ⟨p, L, X, rfl, hp, hL, ho⟩
  have O1 := Lib.hid ho
  have HP := Lib.hid hp
  have HL := Lib.hid hL
  clear hp hL ho c1
  have c2 := rnew_good w1 _ l (HRD.out.only O1.out (by simp)) HGS.out
  go_wp2_with fail
  refine c2.mono ?_
  rintro e w2 ⟨q, K, Y, rfl, hq, hK, ho⟩
  have O2 := Lib.hid (O1.out.trans ho (by simp))
  have HB : Hid (Half w2 w.heap.size p q (Sc.new l) (Sc.new l)) := by
    refine ⟨L, K, X, Y, HP.out.only0 ho, hq, Sc.Ok.new HGS.out, Sc.Ok.new HGS.out, fun k hk => ?_, HL.out, fun k hk => Nat.le_trans O1.out.size (hK k hk)⟩
    cases e : K k with
    | none => rfl
    | some ℓ => have := hK k (by rw [e]; simp); have := HP.out.lt k hk; omega
  clear hq hK ho c2 HP HL
  go_wp2_with fail
  go_loopw [11] (fun iv wr => ∃ (x : Nat) (M : Sc), x ≤ n ∧ x ≤ 80 ∧ iv = .int .i64 x ∧ Half wr w.heap.size p q M M ∧ OkL M.obs ∧ Only [] w wr) (fun iv _ => n - (intOf iv).toNat)
  case atStart => exact ⟨0, Sc.new l, by omega, by omega, rfl, HB.out, OkL.nil, O2.out⟩
  case round =>
    obtain ⟨x, M, hx, hx80, rfl, hB, hLO, hO⟩ := hrel
    have HLO := Lib.hid hLO
    clear hLO
    have HB := Lib.hid hB
    have HO := Lib.hid hO
    clear hB hO
    by_cases hlt : x < n ∧ x < 80
    · obtain ⟨hlt, hl8⟩ := hlt
      have hlt1 : (x : Int) < n := by omega
      have hl81 : (x : Int) < 80 := by omega
      rcases HD.out.2 with h0 | ⟨bb, oo, rfl, hc⟩
      · omega
      have c0 := HO.out.cell (hc x (by omega) 0 (by omega)).1 (by simp)
      have c1 := HO.out.cell (hc x (by omega) 1 (by omega)).1 (by simp)
      have c2 := HO.out.cell (hc x (by omega) 2 (by omega)).1 (by simp)
      rw [Nat.add_zero] at c0
      rw [← Nat.add_assoc] at c1 c2
      have wa := (hc x (by omega) 1 (by omega)).2
      have wb := (hc x (by omega) 2 (by omega)).2
      obtain ⟨d0, hd0⟩ : ∃ z, z = f x 0 := ⟨_, rfl⟩
      obtain ⟨d1, hd1⟩ : ∃ z, z = f x 1 := ⟨_, rfl⟩
      obtain ⟨d2, hd2⟩ : ∃ z, z = f x 2 := ⟨_, rfl⟩
      rw [← hd0] at c0
      rw [← hd1] at c1 wa
      rw [← hd2] at c2 wb
      have hbase : w.heap.size ≤ wr.heap.size := HO.out.size
      have hc1 : Calls Try.prog _ _ wr _ := HB.out.pstep (M' := (M.do d0 d1 d2).2.2) (F := 38) (args := #[.pointer (some ⟨p, 0, none⟩), .agg #[.int .i64 d0, .int .i64 d1, .int .i64 d2]]) (r := .tuple #[.int .i64 (M.do d0 d1 d2).1, .int .i64 (M.do d0 d1 d2).2.1]) hbase (HB.out.okp.do _ _ _) (fun L X hp => by
        have := do_rep wr hp HB.out.okp.toP d0 d1 d2 wa wb
        rw [HB.out.okp.toP_do] at this
        exact this)
      have hc2 : Hid (∀ w3, w.heap.size ≤ w3.heap.size → Half w3 w.heap.size p q (M.do d0 d1 d2).2.2 M → Calls Try.prog 45 #[.pointer (some ⟨q, 0, none⟩), .agg #[.int .i64 d0, .int .i64 d1, .int .i64 d2]] w3 (fun e w4 => e = .returned (.tuple #[.int .i64 (M.do d0 d1 d2).1, .int .i64 (M.do d0 d1 d2).2.1]) ∧ Half w4 w.heap.size p q (M.do d0 d1 d2).2.2 (M.do d0 d1 d2).2.2 ∧ OnlyP (fun k => w.heap.size ≤ k) w3 w4)) := fun w3 hb3 h3 =>
        h3.rstep hb3 (HB.out.okp.do _ _ _) (fun K Y hq => rdo_rep w3 hq HB.out.okr d0 d1 d2)
      have HL2 := Lib.hid (HLO.out.do d0 d1 d2)
      generalize M.do d0 d1 d2 = res at *
      obtain ⟨r0, r1, M'⟩ := res
      have CC0 : Hid (w.cell? ⟨bb, oo + x * 3, none⟩ = some (.int .i64 d0)) := by
        have := (hc x (by omega) 0 (by omega)).1; rw [Nat.add_zero, ← hd0] at this; exact this
      have CC1 : Hid (w.cell? ⟨bb, oo + x * 3 + 1, none⟩ = some (.int .i64 d1)) := by
        have := (hc x (by omega) 1 (by omega)).1; rw [← Nat.add_assoc, ← hd1] at this; exact this
      have CC2 : Hid (w.cell? ⟨bb, oo + x * 3 + 2, none⟩ = some (.int .i64 d2)) := by
        have := (hc x (by omega) 2 (by omega)).1; rw [← Nat.add_assoc, ← hd2] at this; exact this
      clear hc hd0 hd1 hd2 wa wb
      go_wp2_with fail
      refine hc1.mono ?_
      rintro e w3 ⟨rfl, hB3, ho3⟩
      have HO3 := Lib.hid (HO.out.past ho3)
      have hc2 := hc2.out w3 HO3.out.size hB3
      clear hB3 ho3 hc1 c0 c1 c2
      have c0 := HO3.out.cell CC0.out (by simp)
      have c1 := HO3.out.cell CC1.out (by simp)
      have c2 := HO3.out.cell CC2.out (by simp)
      go_wp2_with fail
      refine hc2.mono ?_
      rintro e w4 ⟨rfl, hB4, ho4⟩
      have HO4 := Lib.hid (HO3.out.past ho4)
      have HB4 := Lib.hid hB4
      clear hB4 ho4 hc2 c0 c1 c2
      go_wp2_with fail
      exact ⟨⟨x + 1, M', by omega, by omega, by go_num, HB4.out, HL2.out, HO4.out⟩, by simp [intOf]; omega⟩
    · by_cases h1 : x < n
      · have hl81 : (80 : Int) ≤ x := by omega
        have hlt1 : (x : Int) < n := by omega
        go_wp2_with fail
        refine bodyPost_ret (results_tmp3 rfl _ _ _) rfl ?_
        exact hR.out _ _ ⟨p, q, M, rfl, HB.out, HLO.out, HO.out⟩
      · obtain rfl : x = n := by omega
        go_wp2_with fail
        refine bodyPost_ret (results_tmp3 rfl _ _ _) rfl ?_
        exact hR.out _ _ ⟨p, q, M, rfl, HB.out, HLO.out, HO.out⟩
theorem play_anyL (w : World) (f : Nat → Int) (a : Option Addr) (len cap : Nat) (hf : Numk w a len cap f) (b : Option Addr) (n cap2 : Nat) (g : Nat → Nat → Int) (hd : Recs 3 w b n g) :
    Calls Try.prog 12 #[.slice a len cap, .slice b n cap2] w (fun e w' => ∃ vp vq, e = .returned (.tuple #[vp, vq, .bool true]) ∧ PlayedL w' w.heap.size vp vq ∧ Only [] w w') := by
  by_cases h20 : len ≤ 20
  · have hr : Read w (.slice a len cap) (listOf len f) := hf.1.read (Nat.le_refl _)
    cases hb : goodSizes (listOf len f)
    · refine (play_bad w _ a len cap hr h20 hb b n cap2).mono ?_
      rintro e _ ⟨rfl, rfl⟩
      exact ⟨_, _, rfl, .inl ⟨rfl, rfl⟩, Only.refl _ _⟩
    · refine (play_goodL w _ a len cap hr h20 hb b n cap2 g hd).mono ?_
      rintro e w' ⟨p, q, M, rfl, h1, h0, h2⟩
      exact ⟨_, _, rfl, Or.inr ⟨p, q, M, rfl, rfl, h1, h0⟩, h2⟩
  · refine (play_cut w f a len cap hf (by omega) b n cap2).mono ?_
    rintro e _ ⟨rfl, rfl⟩
    exact ⟨_, _, rfl, .inl ⟨rfl, rfl⟩, Only.refl _ _⟩
end Go.Proofs.Ytbjmgbbggbbidaa
namespace Go.Proofs.Ytbjmgbbggbbidaa
open Go.RowKit Go.Maps
set_option maxHeartbeats 3200000
set_option maxRecDepth 100000
set_option linter.unusedVariables false
section
variable {w w' : World} {base p q : Nat} {Mp Mr : Sc} {v : Value} {l : List Int}
/-- Both memories, and a row of numbers that neither holds. -/
def Kept (w : World) (base p q : Nat) (Mp Mr : Sc) (v : Value) (l : List Int) : Prop := ∃ L K X Y, HalfL w base p q Mp Mr L K X Y ∧ Ints w 0 v l ∧ ∀ g, v.ownBlock = some g → L g = none
theorem Kept.half (h : Kept w base p q Mp Mr v l) : Half w base p q Mp Mr := by obtain ⟨L, K, X, Y, h, _⟩ := h; exact ⟨L, K, X, Y, h⟩
theorem Kept.read (h : Kept w base p q Mp Mr v l) : Read w v l := by obtain ⟨L, K, X, Y, h, h2, _⟩ := h; exact h2.read
theorem Kept.of (h : Half w base p q Mp Mr) (hi : Ints w' w.heap.size v l) (ho : Only [] w w') : Kept w' base p q Mp Mr v l := by
  obtain ⟨L, K, X, Y, h⟩ := h
  refine ⟨L, K, X, Y, ⟨h.hp.only0 ho, h.hq.only0 ho, h.okp, h.okr, h.d, h.gp, h.gq⟩, hi.base (Nat.zero_le _), fun g hg => ?_⟩
  have h1 := hi.own g hg
  cases e : L g with
  | none => rfl
  | some ℓ => have := h.hp.lt g (by rw [e]; simp); omega
theorem Kept.only0 (h : Kept w base p q Mp Mr v l) (ho : Only [] w w') : Kept w' base p q Mp Mr v l := by
  obtain ⟨L, K, X, Y, h, h1, h2⟩ := h
  exact ⟨L, K, X, Y, ⟨h.hp.only0 ho, h.hq.only0 ho, h.okp, h.okr, h.d, h.gp, h.gq⟩, h1.onlyP (ho.toP0 (S := fun _ => False)) (fun _ _ x => x), h2⟩
theorem HalfL.leave {L : Nat → Option Lb} {K : Nat → Option Rb} {X : PX} {Y : RX} (h : HalfL w base p q Mp Mr L K X Y) (hbase : base ≤ w.heap.size) (t : Int) :
    Calls Try.prog 20 #[.pointer (some ⟨p, 0, none⟩), .int .i64 t] w (fun e w1 => e = .returned (.tuple #[.int .i64 (Mp.leave t).1, .int .i64 (Mp.leave t).2.1]) ∧
      ∃ L' X', HalfL w1 base p q (Mp.leave t).2.2 Mr L' K X' Y ∧ (∀ k, L' k ≠ none → L k ≠ none ∨ w.heap.size ≤ k) ∧ OnlyP (fun k => L k ≠ none) w w1) := by
  have hc := leave_rep w h.hp h.okp.toP t
  rw [h.okp.toP_leave] at hc
  refine hc.mono ?_
  rintro e w1 ⟨rfl, L', X', h1, h2, h3⟩
  refine ⟨rfl, L', X', ⟨h1, h.hq.only h3 (fun k hk => h.d k hk), h.okp.leave t, h.okr, fun k h4 => ?_, fun k h4 => (h2 k h4).elim (h.gp k) (fun x => by omega), h.gq⟩, h2, h3⟩
  rcases h2 k h4 with h5 | h5
  · exact h.d k h5
  · cases e : K k with
    | none => rfl
    | some ℓ => have := h.hq.lt k (by rw [e]; simp); omega
theorem Kept.leave (h : Kept w base p q Mp Mr v l) (hbase : base ≤ w.heap.size) (t : Int) {a r : Int} {M' : Sc} (he : Mp.leave t = (a, r, M')) :
    Calls Try.prog 20 #[.pointer (some ⟨p, 0, none⟩), .int .i64 t] w (fun e w1 => e = .returned (.tuple #[.int .i64 a, .int .i64 r]) ∧ Kept w1 base p q M' Mr v l ∧ OnlyP (fun k => base ≤ k) w w1) := by
  obtain ⟨L, K, X, Y, h, h1, h2⟩ := h
  have hc := h.leave hbase t
  rw [he] at hc
  refine hc.mono ?_
  rintro e w1 ⟨rfl, L', X', h3, h4, h5⟩
  refine ⟨rfl, ⟨L', K, X', Y, h3, h1.onlyP h5 (fun k hk hn => hn (h2 k hk)), fun g hg => ?_⟩, ⟨h5.os, h5.tape, h5.output, h5.size, fun k hk hn => h5.block k hk (fun x => hn (h.gp k x))⟩⟩
  cases e : L' g with
  | none => rfl
  | some ℓ =>
    rcases h4 g (by rw [e]; simp) with h6 | h6
    · exact absurd (h2 g hg) h6
    · have := (h1.own g hg).2; omega
theorem Half.pusers (h : Half w base p q Mp Mr) (a : Int) {r : Int × Int} (hr : Mp.users a = r) : Calls Try.prog 14 #[.pointer (some ⟨p, 0, none⟩), .int .i64 a] w (Two w r) := by
  obtain ⟨L, K, X, Y, h⟩ := h
  have := users_rep w h.hp h.okp.toP a; rw [Sc.toP_usersQ, hr] at this; exact this
theorem Half.pparent (h : Half w base p q Mp Mr) (a : Int) {r : Int × Int} (hr : Mp.parent a = r) : Calls Try.prog 15 #[.pointer (some ⟨p, 0, none⟩), .int .i64 a] w (Two w r) := by
  obtain ⟨L, K, X, Y, h⟩ := h
  have := parent_rep w h.hp h.okp.toP a; rw [Sc.toP_parentQ, hr] at this; exact this
theorem Half.proom (h : Half w base p q Mp Mr) (a : Int) {r : Int × Int} (hr : Mp.room a = r) : Calls Try.prog 18 #[.pointer (some ⟨p, 0, none⟩), .int .i64 a] w (Two w r) := by
  obtain ⟨L, K, X, Y, h⟩ := h
  have := room_rep w h.hp h.okp.toP a; rw [Sc.toP_roomQ, hr] at this; exact this
theorem Half.prefs (h : Half w base p q Mp Mr) (x : Int) (hx : wfI x) {r : List Int × Int} (hr : Mp.refs x = r) : Calls Try.prog 21 #[.pointer (some ⟨p, 0, none⟩), .int .i64 x] w (TwoL w r) := by
  obtain ⟨L, K, X, Y, h⟩ := h
  have := refs_rep w h.hp h.okp.toP x hx; rw [Sc.toP_refs, hr] at this; exact this
theorem Half.rstack (h : Half w base p q Mp Mr) (t : Int) {r : List Int × Int} (hr : Mr.stack t = r) : Calls Try.prog 19 #[.pointer (some ⟨q, 0, none⟩), .int .i64 t] w (TwoL w r) := by
  obtain ⟨L, K, X, Y, h⟩ := h
  have := rstack_rep w h.hq h.okr t; rw [hr] at this; exact this
/-- The document's sizes and objects, cell by cell. -/
theorem Half.rsizes' (h : Half w base p q Mp Mr) : ∃ va vc, w.cell? ⟨q, 0, none⟩ = some (.slice va Mr.n vc) ∧ Read w (.slice va Mr.n vc) Mr.sizes := by
  obtain ⟨L, K, X, Y, h⟩ := h
  obtain ⟨va, vc, hv⟩ := h.hq.szs
  refine ⟨va, vc, by rw [← hv]; exact h.hq.cells.1, by rw [← hv]; exact h.hq.sz.read⟩
theorem Half.robjs' (h : Half w base p q Mp Mr) : ∃ vb vd, w.cell? ⟨q, 2, none⟩ = some (.slice vb Mr.obs.length vd) ∧ ∀ k, (hk : k < Mr.obs.length) → ∃ g, vb = some ⟨g, 0, none⟩ ∧ w.cell? ⟨g, k * 4, none⟩ = some (.int .i64 (Mr.obs[k]).area) ∧ ∃ v, w.cell? ⟨g, k * 4 + 2, none⟩ = some v ∧ Read w v (Mr.obs[k]).refs := by
  obtain ⟨L, K, X, Y, h⟩ := h
  obtain ⟨vb, vd, hv⟩ := h.hq.ob.len
  refine ⟨vb, vd, by rw [← hv]; exact h.hq.cells.2.2.1, fun k hk => ?_⟩
  obtain ⟨g, cap, e1, _, e2, e3, e4, _⟩ := h.hq.obj hk
  rw [hv] at e1
  cases e1
  exact ⟨g, rfl, e2, _, e4, (h.hq.ob.2 k _ (List.getElem?_eq_getElem hk)).1.read⟩
end
/-- How far the threads have left: those before t wholly, t down to its area i, the others not at all. -/
structure Gone (M Mp : Sc) (t i : Nat) : Prop where
  left : Left M Mp
  done : ∀ s, s < t → (Mp.stk s).length = 1
  here : t < 5 → Mp.stk t = (M.stk t).take (i + 1)
  todo : ∀ s, t < s → s < 5 → Mp.stk s = M.stk s
theorem Gone.start {M : Sc} (h : M.Ok) (hl : OkL M.obs) : Gone M M 0 ((M.stk 0).length - 1) :=
  ⟨Left.refl h hl, fun s hs => by omega, fun _ => by have := h.s1 0 (by omega); rw [List.take_of_length_le (by omega)], fun _ _ _ => rfl⟩
theorem Gone.step {M Mp : Sc} {t i : Nat} (h : Gone M Mp t (i + 1)) (ht : t < 5) (hi : i + 1 < (M.stk t).length) :
    ∃ M', Mp.leave t = (gI (M.stk t) (i + 1), 0, M') ∧ Gone M M' t i := by
  obtain ⟨h1, h2, h3, h4⟩ := left_take (Mp := Mp) ht hi (by omega) (h.here ht)
  refine ⟨(Mp.leave t).2.2, by rw [← h1, ← h2], h.left.leave t, fun s hs => by rw [h4 s (by omega)]; exact h.done s hs, fun _ => h3, fun s hs h5 => by rw [h4 s (by omega)]; exact h.todo s hs h5⟩
theorem Gone.last {M Mp : Sc} {t : Nat} (h : Gone M Mp t 0) (hok : M.Ok) (ht : t < 5) : Mp.leave t = (0, 13, Mp) ∧ Gone M Mp (t + 1) ((M.stk (t + 1)).length - 1) := by
  have h1 : (Mp.stk t).length = 1 := by rw [h.here ht, List.length_take]; have := hok.s1 t ht; omega
  refine ⟨left_one ht h1, h.left, fun s hs => ?_, fun h5 => ?_, fun s hs h5 => h.todo s (by omega) h5⟩
  · by_cases e : s = t
    · subst e; exact h1
    · exact h.done s (by omega)
  · rw [h.todo (t + 1) (by omega) h5, List.take_of_length_le (by omega)]
theorem Gone.all {M Mp : Sc} {i : Nat} (h : Gone M Mp 5 i) : ∀ t, t < 5 → (Mp.stk t).length = 1 := fun t ht => h.done t ht
end Go.Proofs.Ytbjmgbbggbbidaa
namespace Go.Proofs.Ytbjmgbbggbbidaa
open Go.RowKit Go.Maps
set_option maxHeartbeats 3200000
set_option maxRecDepth 100000
set_option linter.unusedVariables false
theorem obrefs_len {M : Sc} (h : M.Ok) {k : Nat} (hk : k < M.obs.length) : (M.obs[k]).refs.length ≤ 1000 := by
  have h1 := h.oa _ (List.getElem_mem hk)
  have h2 := nodup_le h1.2.2.2.2.1 h1.2.2.2.2.2
  have h4 := h.ob
  omega
theorem Gone.step' {M Mp : Sc} {t i : Nat} (h : Gone M Mp t i) (h0 : 0 < i) (ht : t < 5) (hi : i < (M.stk t).length) :
    ∃ M', Mp.leave t = (gI (M.stk t) i, 0, M') ∧ Gone M M' t (i - 1) := by
  obtain ⟨k, rfl⟩ : ∃ k, i = k + 1 := ⟨i - 1, by omega⟩
  exact h.step ht hi
theorem walk_ScopeLeaves (a0 : Option Addr) (len0 cap0 : Nat) (f0 : Nat → Int) (a1 : Option Addr) (len1 cap1 : Nat) (f1 : Nat → Nat → Int) (w : World) (w0 : Numk w a0 len0 cap0 f0) (w1 : Recs 3 w a1 len1 f1) :
    Calls Try.prog 5 #[.slice a0 len0 cap0, .slice a1 len1 cap1] w fun e w' => e = .returned (.bool true) ∧ Below w.heap.size w w' := by
  refine calls_abs fun R hR => ?_
  have c := play_anyL w f0 a0 len0 cap0 w0 a1 len1 cap1 f1 w1
  clear w0 w1
  go_enter Try.func5, Try.ntmps5
  go_wp2_with fail
  refine c.mono ?_
  rintro e w2 ⟨vp, vq, rfl, hP, ho⟩
  have HO := Lib.hid ho
  clear c ho
  rcases hP with ⟨rfl, rfl⟩ | ⟨p, q, M, rfl, rfl, hH, hL⟩
  · have c3 := sane_any w2
    go_wp2_with fail
    refine c3.mono ?_
    rintro e w5 ⟨rfl, ho⟩
    have HO5 := Lib.hid (HO.out.trans ho (by simp))
    clear c3 ho
    go_wp2_with fail
    exact hR.out _ _ ⟨rfl, HO5.out.bel⟩
  · have HG := Lib.hid (Gone.start hH.okp hL)
    have OK := Lib.hid hH.okp
    have HH := Lib.hid hH
    clear hH hL
    go_wp2_with fail
    go_loopw [8] (fun iv wr => ∃ (t i : Nat) (Mp : Sc), t ≤ 5 ∧ iv = .int .i64 t ∧ Half wr w.heap.size p q Mp M ∧ Gone M Mp t i ∧ Hid (t < 5 → i = (M.stk t).length - 1) ∧ Only [] w wr) (fun iv _ => 5 - (intOf iv).toNat)
    case atStart => exact ⟨0, _, M, by omega, rfl, HH.out, HG.out, fun _ => rfl, HO.out⟩
    case round =>
      clear HG HH HO
      obtain ⟨t, i, Mp, ht, rfl, hH, hG, HI, ho⟩ := hrel
      have HH := Lib.hid hH
      have HG := Lib.hid hG
      have HO := Lib.hid ho
      clear hH hG ho
      by_cases htl : t < 5
      · have htl1 : (t : Int) < 5 := by omega
        have hstk : M.stack t = (M.stk t, 0) := stack_in htl
        have c := HH.out.rstack t hstk
        have hs1 := OK.out.s1 t htl
        have hii := HI.out htl
        have HGG : Hid (∀ (Mp : Sc) (i : Nat), Gone M Mp t i → 0 < i → i < (M.stk t).length → ∃ M', Mp.leave t = (gI (M.stk t) i, 0, M') ∧ Gone M M' t (i - 1)) := fun Mp i h h0 hi => h.step' h0 htl hi
        obtain ⟨l, hl⟩ : ∃ z, z = M.stk t := ⟨_, rfl⟩
        rw [← hl] at c hs1 hii HGG
        clear hl hstk
        go_wp2_with fail
        refine c.mono ?_
        rintro e w3 ⟨v3, rfl, hi3, ho3⟩
        have HK : Hid (Kept w3 w.heap.size p q Mp M v3 l) := Kept.of HH.out hi3 ho3
        have HO3 := Lib.hid (HO.out.trans ho3 (by simp))
        obtain ⟨a3, cp3, hv3⟩ := hi3.len
        obtain ⟨ln, hln⟩ : ∃ z, z = l.length := ⟨_, rfl⟩
        rw [← hln] at hv3 hs1 hii
        have HLN := Lib.hid hln
        have hl1 : (1 : Int) ≤ ln := by omega
        have hl8 : (ln : Int) ≤ 8 := by omega
        subst hv3
        subst hii
        clear hi3 ho3 c hln
        go_wp2_with fail
        go_loopw [11] (fun iv wr => ∃ (i : Nat) (Mp : Sc), iv = .int .i64 i ∧ i < ln ∧ Kept wr w.heap.size p q Mp M (.slice a3 ln cp3) l ∧ Gone M Mp t i ∧ Only [] w wr) (fun iv _ => (intOf iv).toNat)
        case atStart => exact ⟨ln - 1, Mp, by rw [show ((ln - 1 : Nat) : Int) = (ln : Int) - 1 by omega], by omega, HK.out, HG.out, HO3.out⟩
        case round =>
          clear HK HG HO3 HH HO HI
          obtain ⟨i, Mp, rfl, hi, hK, hG, ho⟩ := hrel
          have HK := Lib.hid hK
          have HG := Lib.hid hG
          have HO := Lib.hid ho
          clear hK hG ho
          by_cases h0 : 0 < i
          · have h01 : (0 : Int) < i := by omega
            have hi0 : (0 : Int) ≤ i := by omega
            have hil : (i : Int) < ln := by omega
            obtain ⟨M', he, hG'⟩ := HGG.out Mp i HG.out h0 (by have := HLN.out; omega)
            obtain ⟨y, hy⟩ : ∃ y, y = gI l i := ⟨_, rfl⟩
            rw [← hy] at he
            have HY := Lib.hid hy
            have c := HK.out.leave HO.out.size t he
            have HG2 := Lib.hid hG'
            clear he hG' hy
            go_wp2_with fail
            refine c.mono ?_
            rintro e w4 ⟨rfl, hK4, ho4⟩
            have HK4 := Lib.hid hK4
            have HO4 := Lib.hid (HO.out.past ho4)
            clear hK4 ho4 c
            rcases HK4.out.read with ⟨b, o, d, g1, g2⟩ | ⟨oa, d, g1, g2⟩
            rotate_left
            · have := HLN.out; rw [g2] at this; simp at this; omega
            have e1 : a3 = some ⟨b, o, none⟩ := by cases g1; rfl
            subst e1
            have hci := g2 i (by have := HLN.out; omega)
            rw [← HY.out] at hci
            clear g1 g2
            go_wp2_with fail
            exact ⟨⟨i - 1, M', by rw [show ((i - 1 : Nat) : Int) = (i : Int) - 1 by omega], by omega, HK4.out, HG2.out, HO4.out⟩, by simp [intOf]; omega⟩
          · obtain rfl : i = 0 := by omega
            have h := HG.out.last OK.out htl
            have HL1 := Lib.hid h.2
            have c := HK.out.leave HO.out.size t h.1
            clear h
            go_wp2_with fail
            refine c.mono ?_
            rintro e w4 ⟨rfl, hK4, ho4⟩
            have HK4 := Lib.hid hK4.half
            have HO4 := Lib.hid (HO.out.past ho4)
            clear hK4 ho4 c
            go_wp2_with fail
            exact ⟨⟨t + 1, _, Mp, by omega, by go_num, HK4.out, HL1.out, fun _ => rfl, HO4.out⟩, by simp [intOf]; omega⟩
      · have HT5 : Hid (t = 5) := by show t = 5; omega
        have htl1 : (5 : Int) ≤ t := by omega
        have HA : Hid (∀ s : Nat, 2 ≤ s → s < M.n + 2 → Mp.users s = (0, 0) ∧ Mp.parent s = (0, 3) ∧ Mp.room s = (gI M.sizes (s - 2), 0)) := fun s h2 hs => HG.out.left.areas (fun t' h => HG.out.done t' (by have := HT5.out; omega)) h2 hs
        have HB : Hid (∀ k : Nat, (hk : k < M.obs.length) → Mp.refs ((k : Int) + 1) = if (M.obs[k]).area < 2 then ((M.obs[k]).refs, 0) else ([], 3)) := fun k hk => HG.out.left.objs (fun t' h => HG.out.done t' (by have := HT5.out; omega)) hk
        obtain ⟨ua, uc, hu0, husz⟩ := HH.out.rsizes'
        obtain ⟨ub, ud, hu2, huob⟩ := HH.out.robjs'
        obtain ⟨nobs, hnobs⟩ : ∃ z, z = M.obs.length := ⟨_, rfl⟩
        obtain ⟨nn, hnn⟩ : ∃ z, z = M.n := ⟨_, rfl⟩
        rw [← hnn] at hu0 husz HA
        rw [← hnobs] at hu2
        have HNO := Lib.hid hnobs
        have HNN := Lib.hid hnn
        have hn500 : nobs ≤ 500 := by have := OK.out.ob; omega
        have hn6 : nn ≤ 6 := by rw [hnn]; exact OK.out.n6
        have HU0 := Lib.hid hu0
        have HU2 := Lib.hid hu2
        have HSZ := Lib.hid husz
        have HOB := Lib.hid huob
        clear hu0 hu2 husz huob hnobs hnn HI
        obtain ⟨w9, hw9⟩ : ∃ z, z = wr := ⟨_, rfl⟩
        rw [← hw9] at HH HO HU0 HU2 HSZ HOB ⊢
        clear hw9
        go_wp2_with fail
        have hdf : decide ((t : Int) < 5) = false := by simp; omega
        try simp only [hdf]
        clear htl1 hdf htl ht
        go_loopw [16] (fun iv wr => ∃ s : Nat, 2 ≤ s ∧ s ≤ nn + 2 ∧ iv = .int .i64 s ∧ Only [] w9 wr) (fun iv _ => nn + 2 - (intOf iv).toNat)
        case atStart => exact ⟨2, by omega, by omega, rfl, Only.refl _ _⟩
        case round =>
          obtain ⟨s, hs1, hs, rfl, ho⟩ := hrel
          have HO1 := Lib.hid ho
          have m0 := ho.cell HU0.out (by simp)
          clear ho
          by_cases hslt : s < nn + 2
          · have hslt1 : (s : Int) < (nn : Int) + 2 := by omega
            obtain ⟨e1, e2, e3⟩ := HA.out s hs1 hslt
            have c1 := (HH.out.only0 HO1.out).pusers s e1
            have HE2 := Lib.hid e2
            obtain ⟨y, hy⟩ : ∃ y, y = gI M.sizes (s - 2) := ⟨_, rfl⟩
            rw [← hy] at e3
            have HE3 := Lib.hid e3
            have HY := Lib.hid hy
            clear e1 e2 e3 hy
            go_wp2_with fail
            refine c1.mono ?_
            rintro e w4 ⟨rfl, hd⟩
            have HO2 := Lib.hid (HO1.out.trans (hd.only []) (by simp))
            clear hd c1 m0
            have c1 := (HH.out.only0 HO2.out).pparent s HE2.out
            go_wp2_with fail
            refine c1.mono ?_
            rintro e w5 ⟨rfl, hd⟩
            have HO3 := Lib.hid (HO2.out.trans (hd.only []) (by simp))
            clear hd c1
            have c1 := (HH.out.only0 HO3.out).proom s HE3.out
            go_wp2_with fail
            refine c1.mono ?_
            rintro e w6 ⟨rfl, hd⟩
            have HO4 := Lib.hid (HO3.out.trans (hd.only []) (by simp))
            clear hd c1
            have m0 := HO4.out.cell HU0.out (by simp)
            rcases HSZ.out with ⟨b, o, d, g1, g2⟩ | ⟨oa, d, g1, g2⟩
            rotate_left
            · have hnl : M.n = 0 := by unfold Sc.n; rw [g2]; rfl
              have := HNN.out
              omega
            have e1 : ua = some ⟨b, o, none⟩ := by cases g1; rfl
            subst e1
            have hcs := HO4.out.cell (g2 (s - 2) (by have := HNN.out; unfold Sc.n at this; omega)) (by simp)
            rw [← HY.out] at hcs
            obtain ⟨j, hj⟩ : ∃ j : Nat, j = s - 2 := ⟨_, rfl⟩
            rw [← hj] at hcs
            have hjs : (s : Int) - 2 = (j : Int) := by omega
            have hj0 : (0 : Int) ≤ j := by omega
            have hjn : (j : Int) < nn := by omega
            clear g1 g2 hj
            go_wp2_with fail
            exact ⟨⟨s + 1, by omega, by omega, by go_num, HO4.out⟩, by simp [intOf]; omega⟩
          · have hslt1 : (nn : Int) + 2 ≤ s := by omega
            go_wp2_with fail
            have hdf : decide ((s : Int) < (nn : Int) + 2) = false := by simp; omega
            try simp only [hdf]
            clear m0 hslt1 hslt hdf
            obtain ⟨w8, hw8⟩ : ∃ z, z = wr := ⟨_, rfl⟩
            rw [← hw8] at HO1 ⊢
            clear hw8
            go_loopw [23] (fun xv wr => ∃ k : Nat, k ≤ nobs ∧ xv = .int .i64 ((k : Int) + 1) ∧ Only [] w9 wr) (fun xv _ => nobs + 1 - (intOf xv).toNat)
            case atStart => exact ⟨0, by omega, rfl, HO1.out⟩
            case round =>
              obtain ⟨k, hk, rfl, ho⟩ := hrel
              have HO10 := Lib.hid ho
              have m2 := ho.cell HU2.out (by simp)
              clear ho
              by_cases hkl : k < nobs
              · have hkl2 : k < M.obs.length := by have := HNO.out; omega
                have hrf := HB.out k hkl2
                obtain ⟨g, e1, b0, vr, b2, hrd⟩ := HOB.out k hkl2
                subst e1
                have hlen := obrefs_len OK.out hkl2
                obtain ⟨x, hx⟩ : ∃ x, x = (k : Int) + 1 := ⟨_, rfl⟩
                rw [← hx] at hrf ⊢
                have hx1 : x - 1 = (k : Int) := by omega
                have hx2 : x ≤ (nobs : Int) := by omega
                have hk0 : (0 : Int) ≤ k := by omega
                have hkn : (k : Int) < nobs := by omega
                have WF : wfI x := wfI_mk (by omega)
                obtain ⟨ar, har⟩ : ∃ z, z = M.obs[k].area := ⟨_, rfl⟩
                rw [← har] at hrf b0
                obtain ⟨rl, hrl⟩ : ∃ z, z = M.obs[k].refs := ⟨_, rfl⟩
                rw [← hrl] at hrf hrd hlen
                have HX := Lib.hid hx
                have HB0 := Lib.hid b0
                have HB2 := Lib.hid b2
                have HRD := Lib.hid hrd
                clear hx har hrl b0 b2 hrd
                by_cases ha : ar < 2
                · rw [if_pos ha] at hrf
                  have c1 := (HH.out.only0 HO10.out).prefs x WF hrf
                  clear hrf WF
                  go_wp2_with fail
                  refine c1.mono ?_
                  rintro e w4 ⟨v4, rfl, hi4, ho4⟩
                  have HO12 := Lib.hid (HO10.out.trans ho4 (by simp))
                  clear m2
                  have m2 := HO12.out.cell HU2.out (by simp)
                  have b0 := HO12.out.cell HB0.out (by simp)
                  have b2 := HO12.out.cell HB2.out (by simp)
                  have r2 := HRD.out.only HO12.out (by simp)
                  have c2 := ints_same w4 v4 vr rl hi4.read r2 hlen
                  obtain ⟨va4, vc4, hv4⟩ := hi4.len
                  subst hv4
                  obtain ⟨va5, vc5, hv5⟩ := r2.len
                  subst hv5
                  clear hi4 ho4 c1 r2
                  generalize rl.length = rn at *
                  go_wp2_with fail
                  refine c2.mono ?_
                  rintro e w5 ⟨rfl, hd⟩
                  have HO13 := Lib.hid (HO12.out.trans (hd.only []) (by simp))
                  clear hd c2 m2 b0 b2
                  go_wp2_with fail
                  exact ⟨⟨k + 1, by omega, by have := HX.out; go_num, HO13.out⟩, by simp [intOf]; have := HX.out; omega⟩
                · have ha2 : 2 ≤ ar := by omega
                  rw [if_neg ha] at hrf
                  have c1 := (HH.out.only0 HO10.out).prefs x WF hrf
                  clear hrf WF
                  go_wp2_with fail
                  refine c1.mono ?_
                  rintro e w4 ⟨v4, rfl, hi4, ho4⟩
                  have HO12 := Lib.hid (HO10.out.trans ho4 (by simp))
                  clear m2
                  have m2 := HO12.out.cell HU2.out (by simp)
                  have b0 := HO12.out.cell HB0.out (by simp)
                  obtain ⟨va4, vc4, hv4⟩ := hi4.len
                  subst hv4
                  clear hi4 ho4 c1
                  go_wp2_with fail
                  exact ⟨⟨k + 1, by omega, by have := HX.out; go_num, HO12.out⟩, by simp [intOf]; have := HX.out; omega⟩
              · obtain rfl : k = nobs := by omega
                have hkn : (k : Int) < (k : Int) + 1 := by omega
                have c3 := sane_any wr
                go_wp2_with fail
                refine c3.mono ?_
                rintro e w5 ⟨rfl, ho⟩
                have HO5 := Lib.hid ((HO.out.trans HO10.out (by simp)).trans ho (by simp))
                clear c3 ho
                go_wp2_with fail
                exact hR.out _ _ ⟨rfl, HO5.out.bel⟩
end Go.Proofs.Ytbjmgbbggbbidaa
