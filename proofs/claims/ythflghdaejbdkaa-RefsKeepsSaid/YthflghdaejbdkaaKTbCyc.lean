/- Lemmas of this claim. -/
import Derived.Test.YthflghdaejbdkaaKTbGood
namespace Go.Proofs.Ythflghdaejbdkaa
set_option linter.unusedVariables false
set_option maxRecDepth 100000
def En.key (e : En) : Int := if e.kind = 3 then 4 else e.kind
def Tb.past (t0 : Tb) (ph nx : Nat) (i : Nat) : Prop := (eAt t0.ents i).key < (ph : Int) ∨ ((eAt t0.ents i).key = (ph : Int) ∧ i < nx)
def Tb.whAt (t0 : Tb) (m0 : Mk) (i : Nat) : Bool := m0.isW (eAt t0.ents i).tgt
def Tb.upAt (t0 : Tb) (m0 : Mk) (i : Nat) : Bool := decide ((eAt t0.ents i).kind = 2) && t0.whAt m0 i
def Tb.upI (t0 : Tb) (m0 : Mk) (k : Nat) : List Nat := (List.range k).filter (fun i => t0.upAt m0 i)
def Tb.ups (t0 : Tb) (m0 : Mk) (k : Nat) : List Int := (t0.upI m0 k).map (fun i => (eAt t0.ents i).tag)
def Tb.upT (t0 : Tb) (m0 : Mk) (k : Nat) : List Int := (t0.upI m0 k).map (fun i => (eAt t0.ents i).tgt)
def Tb.upN (t0 : Tb) (ph nx : Nat) : Nat := if ph < 2 then 0 else if ph = 2 then nx else t0.ents.length
structure Cyc (t0 : Tb) (m0 : Mk) (t : Tb) (m : Mk) : Prop where
  len : t.ents.length = t0.ents.length
  kt : ∀ i, i < t0.ents.length → (eAt t.ents i).kind = (eAt t0.ents i).kind ∧ (eAt t.ents i).tag = (eAt t0.ents i).tag
  mM : m.M = m0.M
  mo : m.Ok
  bl : ∀ x, m0.col x = 2 → m.col x = 2
  i1 : ∀ i, i < t0.ents.length → ¬ t0.past t.ph t.nx i → (eAt t.ents i).tgt = (eAt t0.ents i).tgt
  i2 : ∀ i, i < t0.ents.length → t0.past t.ph t.nx i → (eAt t0.ents i).kind ≠ 3 → (eAt t.ents i).tgt = if t0.whAt m0 i = true then 0 else (eAt t0.ents i).tgt
  i3 : ∀ i, i < t0.ents.length → t0.past t.ph t.nx i → (eAt t0.ents i).kind = 3 → (eAt t.ents i).tgt = if m.col (eAt t0.ents i).tgt = 2 then (eAt t0.ents i).tgt else 0
  i4 : t.q = t0.q ++ t0.ups m0 (t0.upN t.ph t.nx)
  ri : ∀ roots, RInvM roots m0 → RInvM (roots ++ t0.upT m0 (t0.upN t.ph t.nx)) m
  i5 : t.ph = 1 → m = m0
  i6 : t.ph = 2 → ∀ i, i < t0.ents.length → t.fd i = t0.upAt m0 i
  i7 : t.ph = 4 → m.list = []
section
variable {t0 t : Tb} {m0 m : Mk} {n i k : Nat}
theorem upI_succ : t0.upI m0 (k + 1) = t0.upI m0 k ++ (if t0.upAt m0 k = true then [k] else []) := by
  unfold Tb.upI
  rw [List.range_succ, List.filter_append]
  congr 1
  by_cases h : t0.upAt m0 k = true
  · simp [h]
  · simp [h]
theorem ups_succ : t0.ups m0 (k + 1) = t0.ups m0 k ++ (if t0.upAt m0 k = true then [(eAt t0.ents k).tag] else []) := by
  unfold Tb.ups
  rw [upI_succ, List.map_append]
  by_cases h : t0.upAt m0 k = true
  · simp [h]
  · simp [h]
theorem upT_succ : t0.upT m0 (k + 1) = t0.upT m0 k ++ (if t0.upAt m0 k = true then [(eAt t0.ents k).tgt] else []) := by
  unfold Tb.upT
  rw [upI_succ, List.map_append]
  by_cases h : t0.upAt m0 k = true
  · simp [h]
  · simp [h]
theorem ups_skip {a b : Nat} (hab : a ≤ b) (h : ∀ i, a ≤ i → i < b → (eAt t0.ents i).kind ≠ 2) : t0.upI m0 b = t0.upI m0 a := by
  induction b with
  | zero => have : a = 0 := by omega
            rw [this]
  | succ b ih =>
    by_cases e : a = b + 1
    · rw [e]
    · rw [upI_succ, ih (by omega) (fun i h1 h2 => h i h1 (by omega))]
      have : t0.upAt m0 b = false := by unfold Tb.upAt; rw [decide_eq_false (h b (by omega) (by omega))]; rfl
      rw [this]; simp
theorem Rch_more {M : Hp} {l l' : List Int} (hl : ∀ x, x ∈ l → x ∈ l') {x : Int} (h : M.Rch l x) : M.Rch l' x := by
  induction h with
  | root h1 h2 => exact .root (hl _ h1) h2
  | step _ h2 h3 ih => exact .step ih h2 h3
theorem RInvM.shade {roots : List Int} {x : Int} (h : RInvM roots m) (hw : m.isW x = true) (h0 : x ≠ 0) : RInvM (roots ++ [x]) (m.shade x) := by
  unfold Mk.isW at hw
  rw [Bool.and_eq_true, decide_eq_true_eq] at hw
  have hwh : m.wh x = true := Mk.wh_iff.2 ⟨h0, hw.1, hw.2⟩
  have hx : (m.shade x).col x = 1 := by
    unfold Mk.shade
    rw [if_pos hwh]
    exact setI_same _ _ _
  have hkeep : ∀ k, m.col k ≠ 0 → (m.shade x).col k ≠ 0 := fun k hk => by
    rcases Mk.shade_col (m := m) (x := x) k with h1 | ⟨_, _, h1, _⟩
    · rw [h1]; exact hk
    · exact absurd h1 hk
  refine ⟨fun k hk => ?_, fun r hr h1 => ?_, fun k o hc ho y hy => ?_⟩
  · rw [Mk.shade_M]
    rcases Mk.shade_col (m := m) (x := x) k with h1 | ⟨h1, _⟩
    · rw [h1] at hk
      exact Rch_more (fun y hy => List.mem_append_left _ hy) (h.sound k hk)
    · rw [h1]; exact .root (by simp) h0
  · rcases List.mem_append.1 hr with h2 | h2
    · exact hkeep r (h.root r h2 h1)
    · simp at h2; rw [h2, hx]; decide
  · rw [Mk.shade_M] at ho
    rcases Mk.shade_col (m := m) (x := x) k with h1 | ⟨_, _, _, h1⟩
    · rw [h1] at hc; exact hkeep y (h.blk k o hc ho y hy)
    · rw [h1] at hc; cases hc
theorem RInvM.shadeN {roots : List Int} {x : Int} (h : RInvM roots m) (hw : m.isW x = false) (hu : (m.M.ob x).isSome = true) (h0 : x ≠ 0) : RInvM (roots ++ [x]) (m.shade x) := by
  unfold Mk.isW at hw
  rw [hu, Bool.true_and] at hw
  have hc : m.col x ≠ 0 := of_decide_eq_false hw
  have hsame : m.shade x = m := by
    unfold Mk.shade
    rw [if_neg]
    intro h1
    exact hc (Mk.wh_iff.1 h1).2.2
  rw [hsame]
  refine ⟨fun k hk => Rch_more (fun y hy => List.mem_append_left _ hy) (h.sound k hk), fun r hr h1 => ?_, h.blk⟩
  rcases List.mem_append.1 hr with h2 | h2
  · exact h.root r h2 h1
  · simp at h2; rw [h2]; exact hc
theorem Cyc.move (h : Cyc t0 m0 t m) {t' : Tb} (he : t'.ents = t.ents) (hq : t'.q = t.q) (hp : ∀ i, i < t0.ents.length → (t0.past t'.ph t'.nx i ↔ t0.past t.ph t.nx i)) (hu : t0.upI m0 (t0.upN t'.ph t'.nx) = t0.upI m0 (t0.upN t.ph t.nx)) (h5 : t'.ph = 1 → m = m0) (h6 : t'.ph = 2 → ∀ i, i < t0.ents.length → t'.fd i = t0.upAt m0 i) (h7 : t'.ph = 4 → m.list = []) : Cyc t0 m0 t' m :=
  ⟨by rw [he]; exact h.len, by rw [he]; exact h.kt, h.mM, h.mo, h.bl, fun i hi hn => by rw [he]; exact h.i1 i hi (fun x => hn ((hp i hi).2 x)), fun i hi hn => by rw [he]; exact h.i2 i hi ((hp i hi).1 hn), fun i hi hn => by rw [he]; exact h.i3 i hi ((hp i hi).1 hn), by rw [hq]; unfold Tb.ups; rw [hu]; exact h.i4, fun roots hr => by unfold Tb.upT; rw [hu]; exact h.ri roots hr, h5, h6, h7⟩
theorem key_of {e : En} (h : 1 ≤ e.kind ∧ e.kind ≤ 3) : (e.key = 1 ∧ e.kind = 1) ∨ (e.key = 2 ∧ e.kind = 2) ∨ (e.key = 4 ∧ e.kind = 3) := by
  unfold En.key
  by_cases h3 : e.kind = 3
  · rw [if_pos h3]; exact .inr (.inr ⟨rfl, h3⟩)
  · rw [if_neg h3]; omega
theorem past_next {a b : Nat} (hk : ∀ i, i < t0.ents.length → 1 ≤ (eAt t0.ents i).kind ∧ (eAt t0.ents i).kind ≤ 3) (hb : a < b) (hbt : ∀ i, i < t0.ents.length → (eAt t0.ents i).key ≤ (a : Int) ∨ (b : Int) ≤ (eAt t0.ents i).key) {nx : Nat} (hn : ∀ i, i < t0.ents.length → nx ≤ i → (eAt t0.ents i).key ≠ (a : Int)) (hi : i < t0.ents.length) : t0.past b 0 i ↔ t0.past a nx i := by
  unfold Tb.past
  have h1 := hbt i hi
  have h2 := hn i hi
  constructor
  · rintro (h | h)
    · by_cases e : (eAt t0.ents i).key = (a : Int)
      · exact .inr ⟨e, by have := fun x => h2 x e; omega⟩
      · exact .inl (by omega)
    · omega
  · rintro (h | h)
    · exact .inl (by omega)
    · exact .inl (by omega)
theorem past_skip {a nx nx' : Nat} (hle : nx ≤ nx') (hn : ∀ i, i < t0.ents.length → nx ≤ i → i < nx' → (eAt t0.ents i).key ≠ (a : Int)) (hi : i < t0.ents.length) : t0.past a nx' i ↔ t0.past a nx i := by
  unfold Tb.past
  have h2 := hn i hi
  constructor
  · rintro (h | h)
    · exact .inl h
    · exact .inr ⟨h.1, by have := fun x => h2 x h.2 h.1; omega⟩
  · rintro (h | h)
    · exact .inl h
    · exact .inr ⟨h.1, by omega⟩
theorem nxt_ge (hn : n ≤ t.ents.length) (a : Int) : n ≤ nxt t.ents a n := by
  by_cases h : nxt t.ents a n < t.ents.length
  · exact (nxt_at h).1
  · have := nxt_le (l := t.ents) (k := a) (n := n); omega
theorem Cyc.set4 (hk : ∀ i, i < t0.ents.length → 1 ≤ (eAt t0.ents i).kind ∧ (eAt t0.ents i).kind ≤ 3) (h : Cyc t0 m0 (t.at 4 n) m) (hn : n ≤ t.ents.length) : Cyc t0 m0 (t.set4 n) m := by
  refine h.move rfl rfl (fun i hi => past_skip (a := 4) (nx := n) (nx' := nxt t.ents 3 n) (nxt_ge hn 3) (fun i hi h1 h2 e => ?_) hi) rfl (fun e => by simp [Tb.set4, Tb.at] at e) (fun e => by simp [Tb.set4, Tb.at] at e) (fun _ => h.i7 rfl)
  have h3 := nxt_skip (l := t.ents) (k := 3) h1 h2
  have h4 : (eAt t.ents i).kind = (eAt t0.ents i).kind := (h.kt i hi).1
  rw [h4] at h3
  have := key_of (hk i hi)
  omega
theorem Cyc.set3 (hk : ∀ i, i < t0.ents.length → 1 ≤ (eAt t0.ents i).kind ∧ (eAt t0.ents i).kind ≤ 3) (h : Cyc t0 m0 (t.at 3 0) m) : Cyc t0 m0 (t.set3 m) m := by
  unfold Tb.set3
  split
  · rename_i hl
    refine Cyc.set4 hk (h.move (t' := t.at 4 0) rfl rfl (fun i hi => past_next (a := 3) (b := 4) (nx := 0) hk (by omega) (fun i hi => ?_) (fun i hi _ => ?_) hi) rfl (fun e => by simp [Tb.at] at e) (fun e => by simp [Tb.at] at e) (fun _ => hl)) (Nat.zero_le _)
    · have := key_of (hk i hi); omega
    · have := key_of (hk i hi); omega
  · exact h
theorem Cyc.set2 (hk : ∀ i, i < t0.ents.length → 1 ≤ (eAt t0.ents i).kind ∧ (eAt t0.ents i).kind ≤ 3) (h : Cyc t0 m0 (t.at 2 n) m) (hn : n ≤ t.ents.length) : Cyc t0 m0 (t.set2 m n) m := by
  have hlen : t.ents.length = t0.ents.length := h.len
  have hge := nxt_ge hn 2
  have hsk : ∀ i, i < t0.ents.length → n ≤ i → i < nxt t.ents 2 n → (eAt t0.ents i).kind ≠ 2 := fun i hi h1 h2 => by
    have h3 := nxt_skip (l := t.ents) (k := 2) h1 h2
    rw [show (eAt t.ents i).kind = (eAt t0.ents i).kind from (h.kt i hi).1] at h3
    exact h3
  have hks : ∀ i, i < t0.ents.length → n ≤ i → i < nxt t.ents 2 n → (eAt t0.ents i).key ≠ ((2 : Nat) : Int) := fun i hi h1 h2 e => by
    have := key_of (hk i hi)
    have := hsk i hi h1 h2
    omega
  unfold Tb.set2
  split
  · rename_i h1
    exact h.move rfl rfl (fun i hi => past_skip hge hks hi) (ups_skip (a := n) (b := nxt t.ents 2 n) hge (fun i h1' h2 => hsk i (by omega) h1' h2)) (fun e => by simp [Tb.at] at e) (fun _ => h.i6 rfl) (fun e => by simp [Tb.at] at e)
  · rename_i h1
    have h2 := nxt_le (l := t.ents) (k := 2) (n := n)
    refine Cyc.set3 hk (h.move (t' := t.at 3 0) rfl rfl (fun i hi => past_next (a := 2) (b := 3) (nx := n) hk (by omega) (fun i hi => ?_) (fun i hi h3 => hks i hi h3 (by omega)) hi) ?_ (fun e => by simp [Tb.at] at e) (fun e => by simp [Tb.at] at e) (fun e => by simp [Tb.at] at e))
    · have := key_of (hk i hi); omega
    · exact ups_skip (a := n) (b := t0.ents.length) (by omega) (fun i h3 h4 => hsk i h4 h3 (by omega))
theorem Cyc.set1 (hk : ∀ i, i < t0.ents.length → 1 ≤ (eAt t0.ents i).kind ∧ (eAt t0.ents i).kind ≤ 3) (h : Cyc t0 m0 (t.at 1 n) m) (hn : n ≤ t.ents.length) : Cyc t0 m0 (t.set1 m n) m := by
  have hlen : t.ents.length = t0.ents.length := h.len
  have hge := nxt_ge hn 1
  have hm : m = m0 := h.i5 rfl
  have hks : ∀ i, i < t0.ents.length → n ≤ i → i < nxt t.ents 1 n → (eAt t0.ents i).key ≠ ((1 : Nat) : Int) := fun i hi h1 h2 e => by
    have h3 := nxt_skip (l := t.ents) (k := 1) h1 h2
    rw [show (eAt t.ents i).kind = (eAt t0.ents i).kind from (h.kt i hi).1] at h3
    have := key_of (hk i hi)
    omega
  unfold Tb.set1
  split
  · rename_i h1
    exact h.move rfl rfl (fun i hi => past_skip hge hks hi) rfl (fun _ => hm) (fun e => by simp [Tb.at] at e) (fun e => by simp [Tb.at] at e)
  · rename_i h1
    have h2 := nxt_le (l := t.ents) (k := 1) (n := n)
    refine Cyc.set2 hk (t := t.find m) (h.move (t' := (t.find m).at 2 0) rfl rfl (fun i hi => past_next (a := 1) (b := 2) (nx := n) hk (by omega) (fun i hi => ?_) (fun i hi h3 => hks i hi h3 (by omega)) hi) rfl (fun e => by simp [Tb.at] at e) (fun _ i hi => ?_) (fun e => by simp [Tb.at] at e)) (Nat.zero_le _)
    · have := key_of (hk i hi); omega
    · show (decide ((eAt t.ents i).kind = 2) && m.isW (eAt t.ents i).tgt) = t0.upAt m0 i
      unfold Tb.upAt Tb.whAt
      have hkt : (eAt t.ents i).kind = (eAt t0.ents i).kind := (h.kt i hi).1
      rw [hkt, hm]
      by_cases e : (eAt t0.ents i).kind = 2
      · have h3 : (eAt t.ents i).tgt = (eAt t0.ents i).tgt := h.i1 i hi (fun hp => by
          have h4 := key_of (hk i hi)
          unfold Tb.past at hp
          have h5 : (t.at 1 n).ph = 1 := rfl
          rw [h5] at hp
          omega)
        rw [h3]
      · rw [decide_eq_false e]; rfl
theorem Cyc.settle (hk : ∀ i, i < t0.ents.length → 1 ≤ (eAt t0.ents i).kind ∧ (eAt t0.ents i).kind ≤ 3) (h : Cyc t0 m0 t m) (hn : t.nx ≤ t.ents.length) (h3 : t.ph = 3 → t.nx = 0) : Cyc t0 m0 (t.settle m) m := by
  obtain ⟨ents, q, ph, nx, fd⟩ := t
  unfold Tb.settle
  split
  · rename_i e; cases e; exact Cyc.set1 hk h hn
  split
  · rename_i e; cases e; exact Cyc.set2 hk h hn
  split
  · rename_i e; cases e; have h0 := h3 rfl; cases h0; exact Cyc.set3 hk h
  split
  · rename_i e; cases e; exact Cyc.set4 hk h hn
  · exact h
theorem Cyc.begin (hk : ∀ i, i < t0.ents.length → 1 ≤ (eAt t0.ents i).kind ∧ (eAt t0.ents i).kind ≤ 3) (hm : m0.Ok) : Cyc t0 m0 (t0.at 1 0) m0 := by
  have hno : ∀ i, i < t0.ents.length → ¬ t0.past 1 0 i := fun i hi hp => by
    unfold Tb.past at hp
    have := key_of (hk i hi)
    omega
  exact ⟨rfl, fun i _ => ⟨rfl, rfl⟩, rfl, hm, fun _ h => h, fun i hi _ => rfl, fun i hi hp => absurd hp (hno i hi), fun i hi hp => absurd hp (hno i hi), by show t0.q = t0.q ++ []; rw [List.append_nil], fun roots hr => by show RInvM (roots ++ []) m0; rw [List.append_nil]; exact hr, fun _ => rfl, fun e => by simp [Tb.at] at e, fun e => by simp [Tb.at] at e⟩
theorem shade_bl {x : Int} (h : ∀ y, m0.col y = 2 → m.col y = 2) : ∀ y, m0.col y = 2 → (m.shade x).col y = 2 := fun y hy => by
  have h1 := h y hy
  rcases Mk.shade_col (m := m) (x := x) y with h2 | ⟨_, _, h2, _⟩
  · rw [h2]; exact h1
  · rw [h1] at h2; cases h2
theorem step_bl (hm : m.Ok) (h : ∀ y, m0.col y = 2 → m.col y = 2) : ∀ y, m0.col y = 2 → m.step.2.2.col y = 2 := fun y hy => by
  have h1 := h y hy
  unfold Mk.step
  split
  · exact h1
  · rename_i x t e
    rcases Mk.step_col hm e y with ⟨h2, _⟩ | ⟨_, h2⟩ | ⟨_, h2, _⟩
    · exact h2
    · show (m.stepAt x).col y = 2
      rw [h2]; exact h1
    · rw [h1] at h2; cases h2
theorem Cyc.turn {s : Tb} {ents' : List En} {q' : List Int} {m' : Mk} (h : Cyc t0 m0 s m) (hx : s.nx < t0.ents.length) (hpx : (eAt t0.ents s.nx).key = (s.ph : Int)) (hl : ents'.length = s.ents.length) (hoth : ∀ j, j ≠ s.nx → eAt ents' j = eAt s.ents j) (hkx : (eAt ents' s.nx).kind = (eAt s.ents s.nx).kind ∧ (eAt ents' s.nx).tag = (eAt s.ents s.nx).tag) (hM : m'.M = m.M) (hmo : m'.Ok) (hbl : ∀ y, m.col y = 2 → m'.col y = 2)
    (hx2 : (eAt t0.ents s.nx).kind ≠ 3 → (eAt ents' s.nx).tgt = if t0.whAt m0 s.nx = true then 0 else (eAt t0.ents s.nx).tgt) (hx3 : (eAt t0.ents s.nx).kind = 3 → (eAt ents' s.nx).tgt = if m'.col (eAt t0.ents s.nx).tgt = 2 then (eAt t0.ents s.nx).tgt else 0) (hp4 : s.ph ≤ 4) (hk : ∀ i, i < t0.ents.length → 1 ≤ (eAt t0.ents i).kind ∧ (eAt t0.ents i).kind ≤ 3)
    (hq : q' = t0.q ++ t0.ups m0 (t0.upN s.ph (s.nx + 1))) (hri : ∀ roots, RInvM roots m0 → RInvM (roots ++ t0.upT m0 (t0.upN s.ph (s.nx + 1))) m') (h5 : s.ph = 1 → m' = m0) (h7 : s.ph = 4 → m' = m) : Cyc t0 m0 ⟨ents', q', s.ph, s.nx + 1, s.fd⟩ m' := by
  have hp : ∀ i, t0.past s.ph (s.nx + 1) i → i ≠ s.nx → t0.past s.ph s.nx i := fun i h1 h2 => by
    rcases h1 with h1 | ⟨h1, h3⟩
    · exact .inl h1
    · exact .inr ⟨h1, by omega⟩
  have hp2 : ∀ i, t0.past s.ph s.nx i → t0.past s.ph (s.nx + 1) i := fun i h1 => by
    rcases h1 with h1 | ⟨h1, h3⟩
    · exact .inl h1
    · exact .inr ⟨h1, by omega⟩
  refine ⟨hl.trans h.len, fun i hi => ?_, hM.trans h.mM, hmo, fun y hy => hbl y (h.bl y hy), fun i hi hn => ?_, fun i hi hn h3 => ?_, fun i hi hn h3 => ?_, hq, hri, h5, h.i6, fun e => by rw [h7 e]; exact h.i7 e⟩
  · by_cases e : i = s.nx
    · subst e; exact ⟨hkx.1.trans (h.kt _ hi).1, hkx.2.trans (h.kt _ hi).2⟩
    · show (eAt ents' i).kind = _ ∧ (eAt ents' i).tag = _
      rw [hoth i e]; exact h.kt i hi
  · have e : i ≠ s.nx := fun e => hn (by rw [e]; exact .inr ⟨hpx, Nat.lt_succ_self _⟩)
    show (eAt ents' i).tgt = _
    rw [hoth i e]; exact h.i1 i hi (fun x => hn (hp2 i x))
  · by_cases e : i = s.nx
    · subst e; exact hx2 h3
    · show (eAt ents' i).tgt = _
      rw [hoth i e]; exact h.i2 i hi (hp i hn e) h3
  · by_cases e : i = s.nx
    · subst e; exact hx3 h3
    · have hky := key_of (hk i hi)
      have hpa := hp i hn e
      have e4 : s.ph = 4 := by unfold Tb.past at hpa; omega
      show (eAt ents' i).tgt = if m'.col _ = 2 then _ else 0
      rw [hoth i e, h7 e4]
      exact h.i3 i hi hpa h3
theorem off_oth {l : List En} {x : Nat} (hx : x < l.length) : ∀ j, j ≠ x → eAt (l.set x (eAt l x).off) j = eAt l j := fun j hj => by rw [eAt_set hx, if_neg hj]
theorem off_at {l : List En} {x : Nat} (hx : x < l.length) : eAt (l.set x (eAt l x).off) x = (eAt l x).off := by rw [eAt_set hx, if_pos rfl]
theorem Cyc.clear {s : Tb} (hk : ∀ i, i < t0.ents.length → 1 ≤ (eAt t0.ents i).kind ∧ (eAt t0.ents i).kind ≤ 3) (h : Cyc t0 m0 s m) (hs : s.Stl m) (hg : s.Good m) (hi : s.nx < s.ents.length) (h3 : s.ph ≠ 3) : Cyc t0 m0 ((s.clear m s.nx).1.at s.ph (s.nx + 1)) (s.clear m s.nx).2 := by
  have hx : s.nx < t0.ents.length := by rw [← h.len]; exact hi
  have hkx := (h.kt s.nx hx).1
  have hky := key_of (hk s.nx hx)
  have hp1 := hs.p1
  have hp4 := hg.p4
  have hphs : (s.ph = 1 ∧ (eAt t0.ents s.nx).kind = 1 ∧ (eAt t0.ents s.nx).key = 1) ∨ (s.ph = 2 ∧ (eAt t0.ents s.nx).kind = 2 ∧ (eAt t0.ents s.nx).key = 2) ∨ (s.ph = 4 ∧ (eAt t0.ents s.nx).kind = 3 ∧ (eAt t0.ents s.nx).key = 4) := by
    by_cases e1 : s.ph = 1 ∨ s.ph = 2
    · have := (hs.a e1).2
      rw [hkx] at this
      omega
    · have e4 : s.ph = 4 := by omega
      have := hs.d e4 hi
      rw [hkx] at this
      omega
  have hpx : (eAt t0.ents s.nx).key = (s.ph : Int) := by omega
  have hnp : ¬ t0.past s.ph s.nx s.nx := fun hp => by
    rcases hp with hp | hp
    · omega
    · omega
  have htg := h.i1 s.nx hx hnp
  unfold Tb.clear
  simp only
  rcases hphs with ⟨e, ek, _⟩ | ⟨e, ek, _⟩ | ⟨e, ek, _⟩
  · have hm := h.i5 e
    have hW : m.isW (eAt s.ents s.nx).tgt = t0.whAt m0 s.nx := by rw [htg, hm]; rfl
    have hqq : s.q = t0.q ++ t0.ups m0 (t0.upN s.ph (s.nx + 1)) := by rw [h.i4, e]; rfl
    have hri0 : ∀ roots, RInvM roots m0 → RInvM (roots ++ t0.upT m0 (t0.upN s.ph (s.nx + 1))) m := fun roots hr => by have := h.ri roots hr; rw [e] at this ⊢; exact this
    rw [if_neg (by omega)]
    rw [hW]
    by_cases hw : t0.whAt m0 s.nx = true
    · rw [if_pos hw]
      exact h.turn hx hpx (List.length_set ..) (off_oth hi) (by rw [off_at hi]; exact ⟨rfl, rfl⟩) rfl h.mo (fun _ x => x) (fun _ => by rw [off_at hi, if_pos hw]; rfl) (fun e3 => by omega) hp4 hk hqq hri0 h.i5 (fun _ => rfl)
    · rw [if_neg hw]
      exact h.turn hx hpx rfl (fun _ _ => rfl) ⟨rfl, rfl⟩ rfl h.mo (fun _ x => x) (fun _ => by rw [if_neg hw]; exact htg) (fun e3 => by omega) hp4 hk hqq hri0 h.i5 (fun _ => rfl)
  · have hfd := h.i6 e s.nx hx
    have hup : t0.upAt m0 s.nx = t0.whAt m0 s.nx := by unfold Tb.upAt; rw [decide_eq_true ek]; rfl
    rw [hup] at hfd
    have hN : t0.upN s.ph (s.nx + 1) = s.nx + 1 := by rw [e]; rfl
    have hq0 : s.q = t0.q ++ t0.ups m0 s.nx := by have := h.i4; rw [e] at this; exact this
    have hri1 : ∀ roots, RInvM roots m0 → RInvM (roots ++ t0.upT m0 s.nx) m := fun roots hr => by have := h.ri roots hr; rw [e] at this; exact this
    rw [if_pos e, hfd]
    by_cases hw : t0.whAt m0 s.nx = true
    · rw [if_pos hw]
      refine h.turn hx hpx (List.length_set ..) (off_oth hi) (by rw [off_at hi]; exact ⟨rfl, rfl⟩) Mk.shade_M (h.mo.shade _) (shade_bl (fun _ x => x)) (fun _ => by rw [off_at hi, if_pos hw]; rfl) (fun e3 => by omega) hp4 hk ?_ (fun roots hr => ?_) (fun e1 => by omega) (fun e1 => by omega)
      · rw [hN, ups_succ, hup, if_pos hw, ← List.append_assoc, ← hq0, (h.kt s.nx hx).2]
      · rw [hN, upT_succ, hup, if_pos hw, ← List.append_assoc, htg]
        have h8 := hri1 roots hr
        have h9 : m.isW (eAt t0.ents s.nx).tgt = true ∨ m.isW (eAt t0.ents s.nx).tgt = false := by cases m.isW (eAt t0.ents s.nx).tgt <;> simp
        have h10 := (isW_ne (m := m0) (by have := h.mo.hf.ok; rw [h.mM] at this; exact this) hw).1
        rcases h9 with h9 | h9
        · exact h8.shade h9 h10
        · exact h8.shadeN h9 (by rw [h.mM]; exact (isW_ne (m := m0) (by have := h.mo.hf.ok; rw [h.mM] at this; exact this) hw).2) h10
    · rw [if_neg hw]
      refine h.turn hx hpx rfl (fun _ _ => rfl) ⟨rfl, rfl⟩ rfl h.mo (fun _ x => x) (fun _ => by rw [if_neg hw]; exact htg) (fun e3 => by omega) hp4 hk ?_ (fun roots hr => ?_) (fun e1 => by omega) (fun e1 => by omega)
      · rw [hN, ups_succ, hup, if_neg hw, List.append_nil]; exact hq0
      · rw [hN, upT_succ, hup, if_neg hw, List.append_nil]; exact hri1 roots hr
  · have hlist := h.i7 e
    have hqq : s.q = t0.q ++ t0.ups m0 (t0.upN s.ph (s.nx + 1)) := by rw [h.i4, e]; rfl
    have hri2 : ∀ roots, RInvM roots m0 → RInvM (roots ++ t0.upT m0 (t0.upN s.ph (s.nx + 1))) m := fun roots hr => by have := h.ri roots hr; rw [e] at this ⊢; exact this
    rw [if_neg (by omega)]
    by_cases hw : m.isW (eAt s.ents s.nx).tgt = true
    · rw [if_pos hw]
      have hw0 : m.col (eAt t0.ents s.nx).tgt = 0 := by
        rw [← htg]
        unfold Mk.isW at hw
        rw [Bool.and_eq_true, decide_eq_true_eq] at hw
        exact hw.2
      exact h.turn hx hpx (List.length_set ..) (off_oth hi) (by rw [off_at hi]; exact ⟨rfl, rfl⟩) rfl h.mo (fun _ x => x) (fun e3 => absurd ek e3) (fun _ => by rw [off_at hi, hw0]; rfl) hp4 hk hqq hri2 h.i5 (fun _ => rfl)
    · rw [if_neg hw]
      refine h.turn hx hpx rfl (fun _ _ => rfl) ⟨rfl, rfl⟩ rfl h.mo (fun _ x => x) (fun e3 => absurd ek e3) (fun _ => ?_) hp4 hk hqq hri2 h.i5 (fun _ => rfl)
      by_cases hz : (eAt s.ents s.nx).tgt = 0
      · rw [← htg, hz]; split <;> rfl
      · rw [← htg]
        have hu := hg.b.us s.nx hi hz
        rw [if_pos]
        rcases h.mo.rg (eAt s.ents s.nx).tgt with h0 | h0 | h0
        · exact absurd (by unfold Mk.isW; rw [hu, h0]; rfl) hw
        · have := (h.mo.gr _).2 h0
          rw [hlist] at this; cases this
        · exact h0
theorem Cyc.step (hk : ∀ i, i < t0.ents.length → 1 ≤ (eAt t0.ents i).kind ∧ (eAt t0.ents i).kind ≤ 3) (h : Cyc t0 m0 t m) (hg : t.Good m) (hp : t.ph ≠ 0) (hno : (t.step m).2.2.1 = 0) : Cyc t0 m0 (t.step m).2.2.2.1 (t.step m).2.2.2.2 := by
  have hs := Cyc.settle hk h hg.nl hg.z3
  have hst := Tb.stl_settle (m := m) (t := t) (by omega) hg.p4
  have hgs := hg.settle h.mo.hf.ok
  unfold Tb.step at hno ⊢
  rw [if_neg hp] at hno ⊢
  simp only at hno ⊢
  generalize t.settle m = s at *
  by_cases h3 : s.ph = 3
  · rw [if_pos h3] at hno ⊢
    have hg2 : s.Good m.step.2.2 := hgs.marker (fun k hk => by rw [Mk.step_M]; exact hk)
    refine Cyc.settle hk ?_ hgs.nl hgs.z3
    refine ⟨hs.len, hs.kt, Mk.step_M.trans hs.mM, hs.mo.step, step_bl hs.mo hs.bl, hs.i1, hs.i2, fun i hi hpa hk3 => ?_, hs.i4, fun roots hr => (hs.ri roots hr).step hs.mo, fun e => by omega, hs.i6, fun e => by omega⟩
    have hky := key_of (hk i hi)
    have hz := hgs.z3 h3
    unfold Tb.past at hpa
    omega
  · rw [if_neg h3] at hno ⊢
    by_cases hl : s.ents.length ≤ s.nx
    · rw [if_pos hl] at hno
      exact absurd hno (by show ¬ ((3 : Int) = 0); decide)
    · rw [if_neg hl]
      have hc := Cyc.clear hk hs hst hgs (by omega) h3
      refine Cyc.settle hk hc ?_ (fun e => absurd e h3)
      show s.nx + 1 ≤ (s.clear m s.nx).1.ents.length
      have hcl : (s.clear m s.nx).1.ents.length = t0.ents.length := hc.len
      rw [hcl, ← hs.len]; omega
theorem Cyc.steps (hk : ∀ i, i < t0.ents.length → 1 ≤ (eAt t0.ents i).kind ∧ (eAt t0.ents i).kind ≤ 3) (h : Cyc t0 m0 t m) (hg : t.Good m) (hp : t.ph ≠ 0) : ∀ k, (∀ j, j < k → ¬ Tb.over (Tb.steps j (t, m))) → Cyc t0 m0 (Tb.steps k (t, m)).1 (Tb.steps k (t, m)).2
  | 0, _ => h
  | k + 1, hno => by
    have ih := Cyc.steps hk h hg hp k (fun j hj => hno j (by omega))
    have h1 := (Tb.steps_on hg h.mo hp k (fun j hj => hno j (by omega))).1
    have h2 := (hg.steps h.mo k).1
    exact Cyc.step hk ih h2 h1 (Classical.not_not.1 (hno k (by omega)))
structure CycEnd (t0 : Tb) (m0 : Mk) (t : Tb) (m : Mk) : Prop where
  len : t.ents.length = t0.ents.length
  kt : ∀ i, i < t0.ents.length → (eAt t.ents i).kind = (eAt t0.ents i).kind ∧ (eAt t.ents i).tag = (eAt t0.ents i).tag
  mM : m.M = m0.M
  mo : m.Ok
  bl : ∀ x, m0.col x = 2 → m.col x = 2
  i2 : ∀ i, i < t0.ents.length → (eAt t0.ents i).kind ≠ 3 → (eAt t.ents i).tgt = if t0.whAt m0 i = true then 0 else (eAt t0.ents i).tgt
  i3 : ∀ i, i < t0.ents.length → (eAt t0.ents i).kind = 3 → (eAt t.ents i).tgt = if m.col (eAt t0.ents i).tgt = 2 then (eAt t0.ents i).tgt else 0
  ri : ∀ roots, RInvM roots m0 → RInvM (roots ++ t0.upT m0 t0.ents.length) m
  q : t.q = t0.q ++ t0.ups m0 t0.ents.length
  ph : t.ph = 0
  nil : m.list = []
theorem Cyc.over (hk : ∀ i, i < t0.ents.length → 1 ≤ (eAt t0.ents i).kind ∧ (eAt t0.ents i).kind ≤ 3) (h : Cyc t0 m0 t m) (hg : t.Good m) (hp : t.ph ≠ 0) (ho : (t.step m).2.2.1 ≠ 0) : CycEnd t0 m0 (t.step m).2.2.2.1 (t.step m).2.2.2.2 := by
  have hs := Cyc.settle hk h hg.nl hg.z3
  have hst := Tb.stl_settle (m := m) (t := t) (by omega) hg.p4
  have hgs := hg.settle h.mo.hf.ok
  unfold Tb.step at ho ⊢
  rw [if_neg hp] at ho ⊢
  simp only at ho ⊢
  generalize t.settle m = s at *
  by_cases h3 : s.ph = 3
  · rw [if_pos h3] at ho
    exact absurd rfl ho
  · rw [if_neg h3] at ho ⊢
    by_cases hl : s.ents.length ≤ s.nx
    · rw [if_pos hl]
      have hp1 := hst.p1
      have hp4 := hgs.p4
      have e4 : s.ph = 4 := by
        by_cases e1 : s.ph = 1 ∨ s.ph = 2
        · have := (hst.a e1).1; omega
        · omega
      have hpa : ∀ i, i < t0.ents.length → t0.past s.ph s.nx i := fun i hi => by
        have hky := key_of (hk i hi)
        have := hs.len
        unfold Tb.past
        omega
      refine ⟨hs.len, hs.kt, hs.mM, hs.mo, hs.bl, fun i hi h => hs.i2 i hi (hpa i hi) h, fun i hi h => hs.i3 i hi (hpa i hi) h, fun roots hr => ?_, ?_, rfl, hs.i7 e4⟩
      · have := hs.ri roots hr
        rw [e4] at this
        exact this
      · have := hs.i4
        rw [e4] at this
        exact this
    · rw [if_neg hl] at ho
      exact absurd rfl ho
theorem cycle_end (hb : t0.Base m0) (hm : m0.Ok) (hl : m0.list = []) (h0 : t0.ph = 0) : (t0.begin m0).1 = 0 ∧ (t0.begin m0).2.ph ≠ 0 ∧ ((t0.begin m0).2.finish m0).2.1 = 0 ∧ CycEnd t0 m0 ((t0.begin m0).2.finish m0).2.2.1 ((t0.begin m0).2.finish m0).2.2.2 := by
  have hbe : t0.begin m0 = (0, (t0.at 1 0).settle m0) := by
    unfold Tb.begin
    rw [if_neg (by intro h; rcases h with h | h; exact h h0; exact h hl)]
  rw [hbe]
  have hg1 : (t0.at 1 0).Good m0 := ⟨hb.at _ _, by show 1 ≤ 4; omega, Nat.zero_le _, fun e => by simp [Tb.at] at e, fun e => by simp [Tb.at] at e⟩
  have hg : ((t0.at 1 0).settle m0).Good m0 := Tb.Good.settle hm.hf.ok hg1
  have hst := Tb.stl_settle (t := t0.at 1 0) (m := m0) (Nat.le_refl 1) (by show 1 ≤ 4; omega)
  have hc := Cyc.settle hb.kd (Cyc.begin hb.kd hm) (Nat.zero_le _) (fun _ => rfl)
  show _ ∧ ((t0.at 1 0).settle m0).ph ≠ 0 ∧ (((t0.at 1 0).settle m0).finish m0).2.1 = 0 ∧ CycEnd t0 m0 (((t0.at 1 0).settle m0).finish m0).2.2.1 (((t0.at 1 0).settle m0).finish m0).2.2.2
  generalize (t0.at 1 0).settle m0 = t at *
  have hp : t.ph ≠ 0 := by have := hst.p1; omega
  obtain ⟨h1, h2, _⟩ := Tb.fins_spec hg hm hp
  unfold Tb.finish
  rw [if_neg hp]
  refine ⟨rfl, hp, rfl, ?_⟩
  exact Cyc.over hb.kd (Cyc.steps hb.kd hc hg hp _ h2) (hg.steps hm _).1 (Tb.steps_on hg hm hp _ h2).1 h1
theorem CycEnd.up (h : CycEnd t0 m0 t m) (hb : t0.Base m0) (hm : m0.Ok) {i : Nat} (hi : i < t0.ents.length) : t0.upAt m0 i = true ↔ ((eAt t.ents i).tgt = 0 ∧ (eAt t0.ents i).tgt ≠ 0 ∧ (eAt t0.ents i).kind = 2) := by
  unfold Tb.upAt
  rw [Bool.and_eq_true, decide_eq_true_eq]
  constructor
  · rintro ⟨h1, h2⟩
    have h3 := h.i2 i hi (by omega)
    rw [if_pos h2] at h3
    exact ⟨h3, (isW_ne hm.hf.ok h2).1, h1⟩
  · rintro ⟨h1, h2, h3⟩
    refine ⟨h3, ?_⟩
    have h4 := h.i2 i hi (by omega)
    by_cases hw : t0.whAt m0 i = true
    · exact hw
    · rw [if_neg hw, h1] at h4; exact absurd h4.symm h2
theorem Rch_sub {M : Hp} {l l' : List Int} (hl : ∀ x, x ∈ l → x ≠ 0 → M.Rch l' x) {x : Int} (h : M.Rch l x) : M.Rch l' x := by
  induction h with
  | root h1 h2 => exact hl _ h1 h2
  | step _ h2 h3 ih => exact .step ih h2 h3
theorem keeps_rch (hb : t0.Base m0) (hm : m0.Ok) (hl : m0.list = []) {roots live : List Int} (hr : RInvM roots m0) (hlive : ∀ k, k ∈ live ↔ m0.M.Rch roots k) {fin : List Int} (hf : ∀ x, x ∈ fin ↔ ∃ i, i < t0.ents.length ∧ (eAt t0.ents i).kind = 2 ∧ (eAt t0.ents i).tgt = x) (k : Int) : m0.M.Rch (live ++ fin) k ↔ m0.M.Rch (roots ++ t0.upT m0 t0.ents.length) k := by
  constructor
  · refine Rch_sub fun x hx h0 => ?_
    rcases List.mem_append.1 hx with h1 | h1
    · exact Rch_more (fun y hy => List.mem_append_left _ hy) ((hlive x).1 h1)
    · obtain ⟨i, hi, hk, rfl⟩ := (hf x).1 h1
      by_cases hw : t0.whAt m0 i = true
      · refine .root (List.mem_append_right _ ?_) h0
        unfold Tb.upT Tb.upI
        refine List.mem_map.2 ⟨i, List.mem_filter.2 ⟨List.mem_range.2 hi, ?_⟩, rfl⟩
        unfold Tb.upAt
        rw [decide_eq_true hk, hw]; rfl
      · have hu := hb.us i hi h0
        have hc : m0.col (eAt t0.ents i).tgt ≠ 0 := fun e => hw (by unfold Tb.whAt Mk.isW; rw [hu, e]; rfl)
        exact Rch_more (fun y hy => List.mem_append_left _ hy) (hr.sound _ hc)
  · refine Rch_sub fun x hx h0 => ?_
    rcases List.mem_append.1 hx with h1 | h1
    · exact .root (List.mem_append_left _ ((hlive x).2 (.root h1 h0))) h0
    · unfold Tb.upT Tb.upI at h1
      obtain ⟨i, hi, rfl⟩ := List.mem_map.1 h1
      obtain ⟨h2, h3⟩ := List.mem_filter.1 hi
      unfold Tb.upAt at h3
      rw [Bool.and_eq_true, decide_eq_true_eq] at h3
      exact .root (List.mem_append_right _ ((hf _).2 ⟨i, List.mem_range.1 h2, h3.1, rfl⟩)) h0
theorem CycEnd.keep2 (h : CycEnd t0 m0 t m) (hb : t0.Base m0) (hm : m0.Ok) (hl : m0.list = []) {roots live : List Int} (hr : RInvM roots m0) (hlive : ∀ k, k ∈ live ↔ m0.M.Rch roots k) {i : Nat} (hi : i < t0.ents.length) (hk : (eAt t0.ents i).kind ≠ 3) (hz : (eAt t0.ents i).tgt ≠ 0) : (eAt t.ents i).tgt = if (eAt t0.ents i).tgt ∈ live then (eAt t0.ents i).tgt else 0 := by
  have h1 := h.i2 i hi hk
  have hu := hb.us i hi hz
  have hd := RInvM.done hm hr hl (eAt t0.ents i).tgt
  by_cases hv : (eAt t0.ents i).tgt ∈ live
  · have h2 := hd.1.2 ((hlive _).1 hv)
    rw [if_pos hv, h1, if_neg]
    intro hw
    unfold Tb.whAt Mk.isW at hw
    rw [hu, h2] at hw
    cases hw
  · have h2 := hd.2 (fun e => hv ((hlive _).2 (hd.1.1 e)))
    rw [if_neg hv, h1, if_pos]
    unfold Tb.whAt Mk.isW
    rw [hu, h2]; rfl
theorem CycEnd.keep3 (h : CycEnd t0 m0 t m) (hb : t0.Base m0) (hm : m0.Ok) (hl : m0.list = []) {roots live fin all : List Int} (hr : RInvM roots m0) (hlive : ∀ k, k ∈ live ↔ m0.M.Rch roots k) (hf : ∀ x, x ∈ fin ↔ ∃ i, i < t0.ents.length ∧ (eAt t0.ents i).kind = 2 ∧ (eAt t0.ents i).tgt = x) (hall : ∀ k, k ∈ all ↔ m0.M.Rch (live ++ fin) k) {i : Nat} (hi : i < t0.ents.length) (hk : (eAt t0.ents i).kind = 3) : (eAt t.ents i).tgt = if (eAt t0.ents i).tgt ∈ all then (eAt t0.ents i).tgt else 0 := by
  have h1 := h.i3 i hi hk
  have hd := (RInvM.done h.mo (h.ri roots hr) h.nil (eAt t0.ents i).tgt).1
  rw [h.mM] at hd
  have he : m.col (eAt t0.ents i).tgt = 2 ↔ (eAt t0.ents i).tgt ∈ all := hd.trans ((keeps_rch hb hm hl hr hlive hf _).symm.trans (hall _).symm)
  rw [h1]
  by_cases hv : (eAt t0.ents i).tgt ∈ all
  · rw [if_pos hv, if_pos (he.2 hv)]
  · rw [if_neg hv, if_neg (fun e => hv (he.1 e))]
end
end Go.Proofs.Ythflghdaejbdkaa
