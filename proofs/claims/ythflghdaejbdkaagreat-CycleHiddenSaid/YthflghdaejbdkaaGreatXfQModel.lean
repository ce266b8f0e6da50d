/- Lemmas of this claim. -/
import Derived.Test.YthflghdaejbdkaaGreatRows
import Derived.Test.YthflghdaejbdkaaGreatXfLib
import Derived.Test.YthflghdaejbdkaaGreatXfBModel
import Derived.IntWalk
namespace Go.Proofs.YthflghdaejbdkaaGreat
open Go.RowKit
set_option maxHeartbeats 1600000
set_option maxRecDepth 100000
set_option linter.unusedVariables false
structure RRep (w : World) (q k c l : Nat) (P : Pl) : Prop where
  hq : ∃ T c1 c2 c3, Row w q T [.slice (some ⟨k, 0, none⟩) P.n c1, .slice (some ⟨c, 0, none⟩) (P.n * 16) c2, .slice (some ⟨l, 0, none⟩) (P.n * 16) c3]
  rk : ∃ T cs, Row w k T cs
  rc : ∃ T cs, Row w c T cs
  rl : ∃ T cs, Row w l T cs
  kind : ∀ i, i < P.n → w.cell? ⟨k, i, none⟩ = some (.int .i64 (P.pg i).cls)
  cells : ∀ i, i < P.n → ∀ j, j < 16 → w.cell? ⟨c, i * 16 + j, none⟩ = some (.int .i64 ((P.pg i).cell j))
  live : ∀ i, i < P.n → ∀ j, j < 16 → w.cell? ⟨l, i * 16 + j, none⟩ = some (.bool ((P.pg i).live j))
  ne : q ≠ k ∧ q ≠ c ∧ q ≠ l ∧ k ≠ c ∧ k ≠ l ∧ c ≠ l
  n1 : 1 ≤ P.n
  n24 : P.n ≤ 24
theorem RRep.only {w w' : World} {q k c l : Nat} {P : Pl} {F : List Nat} (h : RRep w q k c l P) (o : Only F w w') (h1 : q ∉ F) (h2 : k ∉ F) (h3 : c ∉ F) (h4 : l ∉ F) : RRep w' q k c l P :=
  ⟨by obtain ⟨T, c1, c2, c3, r⟩ := h.hq; exact ⟨T, c1, c2, c3, o.row r h1⟩, h.rk.imp fun _ x => x.imp fun _ y => o.row y h2, h.rc.imp fun _ x => x.imp fun _ y => o.row y h3, h.rl.imp fun _ x => x.imp fun _ y => o.row y h4,
   fun i hi => o.cell (h.kind i hi) h2, fun i hi j hj => o.cell (h.cells i hi j hj) h3, fun i hi j hj => o.cell (h.live i hi j hj) h4, h.ne, h.n1, h.n24⟩
theorem RRep.facts {w : World} {q k c l : Nat} {P : Pl} (h : RRep w q k c l P) : ∃ c1 c2 c3, w.cell? ⟨q, 0, none⟩ = some (.slice (some ⟨k, 0, none⟩) P.n c1) ∧ w.cell? ⟨q, 1, none⟩ = some (.slice (some ⟨c, 0, none⟩) (P.n * 16) c2) ∧ w.cell? ⟨q, 2, none⟩ = some (.slice (some ⟨l, 0, none⟩) (P.n * 16) c3) ∧
    (∀ i, w.frozen? ⟨k, i, none⟩ = false) ∧ (∀ i, w.frozen? ⟨c, i, none⟩ = false) ∧ (∀ i, w.frozen? ⟨l, i, none⟩ = false) ∧ (q < w.heap.size ∧ k < w.heap.size ∧ c < w.heap.size ∧ l < w.heap.size) := by
  obtain ⟨⟨T, c1, c2, c3, hq⟩, ⟨_, _, hk⟩, ⟨_, _, hc⟩, ⟨_, _, hl⟩, _⟩ := h
  exact ⟨c1, c2, c3, hq.cell 0 rfl, hq.cell 1 rfl, hq.cell 2 rfl, hk.free, hc.free, hl.free, hq.lt, hk.lt, hc.lt, hl.lt⟩
theorem Pg.live_free {p : Pg} (h : p.cls = -1) (j : Nat) : p.live j = false := by simp [Pg.live, h]
theorem Pg.live_at {p : Pg} (h : IsC p.cls) (k : Nat) : p.live (k * bsz p.cls) = p.used k := by
  have h1 : p.cls ≠ -1 := by rcases h with e | e | e <;> omega
  simp [Pg.live, h1, (h.mul_div k).1]
theorem Pg.live_iff {p : Pg} (h : IsC p.cls) (j : Nat) : p.live j = true ↔ j = j / bsz p.cls * bsz p.cls ∧ p.used (j / bsz p.cls) = true := by
  have h1 : p.cls ≠ -1 := by rcases h with e | e | e <;> omega
  have h2 := h.facts
  simp only [Pg.live, Bool.and_eq_true, decide_eq_true_eq]
  constructor
  · rintro ⟨⟨_, h3⟩, h4⟩
    exact ⟨by rcases h2 with ⟨e, _⟩ | ⟨e, _⟩ | ⟨e, _⟩ <;> (rw [e] at h3 ⊢; omega), h4⟩
  · rintro ⟨h3, h4⟩
    exact ⟨⟨h1, by rcases h2 with ⟨e, _⟩ | ⟨e, _⟩ | ⟨e, _⟩ <;> (rw [e] at h3 ⊢; omega)⟩, h4⟩
def Pg.okw (p : Pg) : Prop := (p.cls = -1 ∧ ∀ k, p.used k = false) ∨ (IsC p.cls ∧ ∀ k, bpt p.cls ≤ k → p.used k = false)
theorem Pg.ok.w {p : Pg} (h : p.ok) : p.okw := by
  rcases h.cls with hc | hc
  · exact .inl ⟨hc, h.free hc⟩
  · exact .inr ⟨hc, h.high (by rcases hc with e | e | e <;> omega)⟩
theorem Pg.live_cnt {p : Pg} (h : p.okw) : cnt p.live 16 = p.count := by
  rcases h with ⟨hc, hf⟩ | ⟨hc, hh⟩
  · rw [show p.count = 0 from cnt_zero fun j _ => hf j]
    exact cnt_zero fun j _ => Pg.live_free hc j
  · have hne : p.cls ≠ -1 := by rcases hc with e | e | e <;> omega
    rw [show p.count = cnt p.used (bpt p.cls) from cnt_more hc.sz.2.2.2 fun j h1 _ => hh j h1]
    have hl : ∀ k, p.live (k * bsz p.cls) = p.used k := Pg.live_at hc
    have hz : ∀ j, j % bsz p.cls ≠ 0 → p.live j = false := fun j hj => by simp [Pg.live, hj]
    rcases hc.facts with ⟨e1, e2⟩ | ⟨e1, e2⟩ | ⟨e1, e2⟩
    · rw [e1] at hl hz
      rw [e2]
      have a0 := hl 0; have a1 := hl 1; have a2 := hl 2; have a3 := hl 3; have a4 := hl 4; have a5 := hl 5; have a6 := hl 6; have a7 := hl 7
      simp only [Nat.zero_mul, Nat.one_mul, Nat.reduceMul] at a0 a1 a2 a3 a4 a5 a6 a7
      simp only [cnt, a0, a1, a2, a3, a4, a5, a6, a7, hz 1 (by decide), hz 3 (by decide), hz 5 (by decide), hz 7 (by decide), hz 9 (by decide), hz 11 (by decide), hz 13 (by decide), hz 15 (by decide)]
      simp
    · rw [e1] at hl hz
      rw [e2]
      have a0 := hl 0; have a1 := hl 1; have a2 := hl 2; have a3 := hl 3
      simp only [Nat.zero_mul, Nat.one_mul, Nat.reduceMul] at a0 a1 a2 a3
      simp only [cnt, a0, a1, a2, a3, hz 1 (by decide), hz 2 (by decide), hz 3 (by decide), hz 5 (by decide), hz 6 (by decide), hz 7 (by decide), hz 9 (by decide), hz 10 (by decide), hz 11 (by decide), hz 13 (by decide), hz 14 (by decide), hz 15 (by decide)]
      simp
    · rw [e1] at hl hz
      rw [e2]
      have a0 := hl 0; have a1 := hl 1
      simp only [Nat.zero_mul, Nat.one_mul] at a0 a1
      simp only [cnt, a0, a1, hz 1 (by decide), hz 2 (by decide), hz 3 (by decide), hz 4 (by decide), hz 5 (by decide), hz 6 (by decide), hz 7 (by decide), hz 9 (by decide), hz 10 (by decide), hz 11 (by decide), hz 12 (by decide), hz 13 (by decide), hz 14 (by decide), hz 15 (by decide)]
      simp
end Go.Proofs.YthflghdaejbdkaaGreat
namespace Go.Proofs.YthflghdaejbdkaaGreat
open Go.RowKit
set_option maxHeartbeats 1600000
set_option maxRecDepth 100000
set_option linter.unusedVariables false
end Go.Proofs.YthflghdaejbdkaaGreat
namespace Go.Proofs.YthflghdaejbdkaaGreat
open Go.RowKit
set_option maxHeartbeats 3200000
set_option maxRecDepth 100000
set_option linter.unusedVariables false
end Go.Proofs.YthflghdaejbdkaaGreat
namespace Go.Proofs.YthflghdaejbdkaaGreat
open Go.RowKit
set_option maxHeartbeats 1600000
set_option maxRecDepth 100000
set_option linter.unusedVariables false
structure Adr (P : Pl) (A i j : Nat) : Prop where
  hi : i = A / 16
  hj : j = A % 16
  hin : i < P.n
  hj16 : j < 16
  hA : A = i * 16 + j
theorem live_begin {P : Pl} (hok : P.ok) {A i j : Nat} (s : Adr P A i j) : (P.pg i).live j = true ↔ (P.begin (A : Int)).2 = 0 ∧ (P.begin (A : Int)).1 = A := by
  have hA : A < 16 * P.n := by have := s.hA; have := s.hin; have := s.hj16; omega
  have ha : P.addr (A : Int) = true := Pl.addr_iff.2 ⟨by omega, by omega⟩
  rcases (hok i s.hin).cls with hc | hC
  · rw [Pg.live_free hc, Pl.begin_free ha (by show (P.pg (A / 16)).cls < 0; rw [← s.hi, hc]; decide)]
    simp
  · have hc : ¬ (P.pg (A / 16)).cls < 0 := by rw [← s.hi]; rcases hC with e | e | e <;> omega
    rw [Pg.live_iff hC]
    have hdv := hC.div s.hj16
    constructor
    · rintro ⟨h1, h2⟩
      rw [Pl.begin_yes ha (by simpa using hc) (by rw [s.hi, s.hj] at h2; simpa using h2)]
      refine ⟨rfl, ?_⟩
      show ((A / 16 * 16 + A % 16 / bsz (P.pg (A / 16)).cls * bsz (P.pg (A / 16)).cls : Nat) : Int) = A
      rw [← s.hi, ← s.hj, ← h1, s.hA]
    · rintro ⟨h1, h2⟩
      have hb := Pl.begin_ok h1
      refine ⟨?_, by rw [s.hi, s.hj]; exact hb.2.2.1⟩
      have h3 := hb.2.2.2.1
      rw [h2] at h3
      have h4 : A = A / 16 * 16 + A % 16 / bsz (P.pg (A / 16)).cls * bsz (P.pg (A / 16)).cls := by exact_mod_cast h3
      rw [← s.hi, ← s.hj] at h4
      have := s.hA
      omega
end Go.Proofs.YthflghdaejbdkaaGreat
namespace Go.Proofs.YthflghdaejbdkaaGreat
def Pl.liveA (P : Pl) (x : Nat) : Bool := decide ((P.begin (x : Int)).2 = 0 ∧ (P.begin (x : Int)).1 = (x : Int))
theorem Pl.liveA_at {P : Pl} (h : P.ok) {i j : Nat} (hi : i < P.n) (hj : j < 16) : P.liveA (16 * i + j) = (P.pg i).live j := by
  have s : Adr P (16 * i + j) i j := ⟨by omega, by omega, hi, hj, by omega⟩
  have := live_begin h s
  cases hl : (P.pg i).live j with
  | true => unfold Pl.liveA; rw [decide_eq_true (this.1 hl)]
  | false =>
    unfold Pl.liveA
    rw [decide_eq_false]
    intro h2
    rw [this.2 h2] at hl; cases hl
theorem cnt_add (u : Nat → Bool) (a b : Nat) : cnt u (a + b) = cnt u a + cnt (fun j => u (a + j)) b := by
  induction b with
  | zero => rfl
  | succ b ih =>
    have e1 : cnt u (a + (b + 1)) = cnt u (a + b) + if u (a + b) then 1 else 0 := rfl
    have e2 : cnt (fun j => u (a + j)) (b + 1) = cnt (fun j => u (a + j)) b + if u (a + b) then 1 else 0 := rfl
    rw [e1, e2, ih]
    omega
theorem Pl.liveA_cnt {P : Pl} (h : P.ok) : cnt P.liveA (16 * P.n) = sumN (fun i => (P.pg i).count) P.n := by
  have key : ∀ k, k ≤ P.n → cnt P.liveA (16 * k) = sumN (fun i => (P.pg i).count) k := by
    intro k
    induction k with
    | zero => intro _; rfl
    | succ k ih =>
      intro hk
      rw [Nat.mul_succ, cnt_add, ih (by omega)]
      show _ = _ + (P.pg k).count
      rw [cnt_congr (v := (P.pg k).live) (fun j hj => Pl.liveA_at h (by omega) hj), Pg.live_cnt (h k (by omega)).w]
  exact key P.n (Nat.le_refl _)
theorem Pl.used_sum {P : Pl} (h : P.ok) : P.usedN 0 P.n + P.usedN 1 P.n + P.usedN 2 P.n = cnt P.liveA (16 * P.n) := by
  rw [Pl.liveA_cnt h]
  show sumN (P.usedF 0) P.n + sumN (P.usedF 1) P.n + sumN (P.usedF 2) P.n = _
  rw [← sumN_add, ← sumN_add]
  refine sumN_congr fun i hi => ?_
  unfold Pl.usedF
  rcases (h i hi).cls with e | e | e | e
  · rw [(h i hi).count_free e]; simp
  · simp [e]
  · simp [e]
  · simp [e]
def Pl.lives (P : Pl) (k : Nat) : List Nat := (List.range k).filter P.liveA
theorem Pl.lives_succ (P : Pl) (k : Nat) : P.lives (k + 1) = P.lives k ++ if P.liveA k then [k] else [] := by
  unfold Pl.lives
  rw [List.range_succ, List.filter_append]
  congr 1
  cases h : P.liveA k <;> simp [h]
theorem Pl.lives_len (P : Pl) (k : Nat) : (P.lives k).length = cnt P.liveA k := by
  induction k with
  | zero => rfl
  | succ k ih =>
    rw [Pl.lives_succ, List.length_append, ih]
    show _ = cnt P.liveA k + _
    cases h : P.liveA k <;> simp
theorem Pl.lives_mem {P : Pl} {k x : Nat} : x ∈ P.lives k ↔ x < k ∧ P.liveA x = true := by simp [Pl.lives]
theorem Pl.all_free {P : Pl} (h : P.ok) (hn : ∀ y, y < 16 * P.n → P.liveA y = false) : P.freeN P.n = P.n ∧ P.partN P.n = 0 ∧ P.fullN P.n = 0 := by
  have hf : ∀ i, i < P.n → (P.pg i).cls = -1 := by
    intro i hi
    rcases (h i hi).cls with h1 | hC
    · exact h1
    · exfalso
      have hne : (P.pg i).cls ≠ -1 := by rcases hC with e | e | e <;> omega
      obtain ⟨k, hk, hu⟩ := (h i hi).some1 hne
      have hb := hC.blk hk
      have hl := Pg.live_at hC k
      have := hn (16 * i + k * bsz (P.pg i).cls) (by have := hC.sz; omega)
      rw [Pl.liveA_at h hi (by have := hC.sz; omega), hl, hu] at this
      cases this
  refine ⟨?_, sumN_zero.2 fun i hi => ?_, sumN_zero.2 fun i hi => ?_⟩
  · have key : ∀ k, k ≤ P.n → sumN P.freeF k = k := by
      intro k
      induction k with
      | zero => intro _; rfl
      | succ k ih =>
        intro hk
        show sumN P.freeF k + P.freeF k = k + 1
        rw [ih (by omega)]
        unfold Pl.freeF
        rw [if_pos (by rw [hf k (by omega)]; decide)]
    exact key P.n (Nat.le_refl _)
  · unfold Pl.partF; rw [if_neg (by rw [hf i hi]; simp)]
  · unfold Pl.fullF; rw [if_neg (by rw [hf i hi]; simp)]
end Go.Proofs.YthflghdaejbdkaaGreat
namespace Go.Proofs.YthflghdaejbdkaaGreat
structure Pl.Holds (P : Pl) (c : Int) (i k : Nat) (v : Nat → Int) : Prop where
  hi : i < P.n
  cls : (P.pg i).cls = c
  kb : k < bpt c
  used : (P.pg i).used k = true
  cell : ∀ x, x < bsz c → (P.pg i).cell (k * bsz c + x) = v x
theorem Pl.Holds.set_other {P : Pl} {c : Int} {i k : Nat} {v : Nat → Int} (h : P.Holds c i k v) {j : Nat} (hj : i ≠ j) (x : Pg) : (P.set j x).Holds c i k v := by
  have e : (P.set j x).pg i = P.pg i := Pl.set_other _ _ hj
  exact ⟨h.hi, by rw [e]; exact h.cls, h.kb, by rw [e]; exact h.used, by rw [e]; exact h.cell⟩
theorem Pl.Holds.set_same {P : Pl} {c : Int} {i k : Nat} {v : Nat → Int} (h : P.Holds c i k v) (x : Pg) (h1 : x.cls = c) (h2 : x.used k = true) (h3 : ∀ y, y < bsz c → x.cell (k * bsz c + y) = (P.pg i).cell (k * bsz c + y)) : (P.set i x).Holds c i k v := by
  have e : (P.set i x).pg i = x := Pl.set_same _ _ _
  exact ⟨h.hi, by rw [e]; exact h1, h.kb, by rw [e]; exact h2, fun y hy => by rw [e, h3 y hy]; exact h.cell y hy⟩
theorem Pl.Holds.take {P : Pl} {c : Int} (hc : IsC c) {i k : Nat} {v : Nat → Int} (h : P.Holds c i k v) {l : Nat} (hl : l ≠ k) (f : Nat → Int) : (P.set i ((P.pg i).take c l f)).Holds c i k v := by
  refine h.set_same _ rfl ?_ (fun y hy => ?_)
  · show up (P.pg i).used l true k = true
    rw [up_other _ _ hl.symm]; exact h.used
  · show (if _ then _ else _) = _
    rw [if_neg]
    intro h2
    apply hl
    have h4 := hc.of_at h2.1 h2.2
    have h5 := hc.of_at (k := k) (j := k * bsz c + y) (by omega) (by omega)
    omega
theorem Pl.Holds.release {P : Pl} {c : Int} (hc : IsC c) {i k : Nat} {v : Nat → Int} (h : P.Holds c i k v) {l : Nat} (hl : l ≠ k) : (P.set i ((P.pg i).release l)).Holds c i k v := by
  have hsz := hc.sz
  have hk := h.kb
  have hn : ¬ cnt (up (P.pg i).used l false) 8 = 0 := by
    intro h0
    have := cnt_eq_zero.1 h0 k (by omega)
    rw [up_other _ _ hl.symm, h.used] at this
    cases this
  refine h.set_same _ ?_ ?_ (fun y hy => rfl)
  · unfold Pg.release; simp only [hn, if_false]; exact h.cls
  · show up (P.pg i).used l false k = true
    rw [up_other _ _ hl.symm]; exact h.used
theorem Pl.Holds.alloc {P : Pl} (hok : P.ok) {c : Int} (hc : IsC c) {i k : Nat} {v : Nat → Int} (h : P.Holds c i k v) (cl : Int) : (P.alloc cl).2.2.Holds c i k v := by
  rcases P.alloc_cases cl with hb | ⟨hcl, ⟨j, hj, hp, hb⟩ | ⟨hn, ⟨j, hj, hp, hb⟩ | hf⟩⟩
  · rw [Pl.alloc_bad hb]; exact h
  · rw [Pl.alloc_part hcl hj hp hb]
    by_cases e : i = j
    · subst e
      have he := (Pg.partly_iff.1 hp).1
      have hcc : cl = c := he.symm.trans h.cls
      subst hcc
      refine h.take hc (fun e => ?_) _
      have := ((hok i hj).gap hc hp).2
      rw [e, h.used] at this; cases this
    · exact h.set_other e _
  · rw [Pl.alloc_new hcl hn hj hp hb]
    refine h.set_other (fun e => ?_) _
    subst e
    rw [h.cls] at hp
    rcases hc with e | e | e <;> omega
  · rw [Pl.alloc_full hcl hn hf]; exact h
theorem Pl.Holds.free {P : Pl} {c : Int} (hc : IsC c) {i k : Nat} {v : Nat → Int} (h : P.Holds c i k v) {a : Int} (ha : a ≠ ((16 * i + k * bsz c : Nat) : Int)) : (P.free a).2.Holds c i k v := by
  unfold Pl.free
  split
  · rename_i h0
    have hb := Pl.begin_ok h0
    split
    · rename_i h1
      by_cases e : i = a.toNat / 16
      · rw [← e] at hb ⊢
        refine h.release hc (fun e2 => ha ?_)
        have h3 := hb.2.2.2.1
        rw [h1, e2, h.cls] at h3
        omega
      · exact h.set_other e _
    · exact h
  · exact h
theorem Pl.Holds.setCell {P : Pl} {c : Int} {i k : Nat} {v : Nat → Int} (h : P.Holds c i k v) {a n : Int} (ha : a < ((16 * i + k * bsz c : Nat) : Int) ∨ ((16 * i + k * bsz c + bsz c : Nat) : Int) ≤ a) : (P.setCell a n).2.Holds c i k v := by
  unfold Pl.setCell
  split
  · rename_i h0
    have hb := Pl.begin_ok h0
    by_cases e : i = a.toNat / 16
    · rw [← e]
      refine h.set_same _ h.cls h.used (fun y hy => ?_)
      show up (P.pg i).cell (a.toNat % 16) n (k * bsz c + y) = _
      rw [up_other]
      have h6 := hb.2.2.2.2.2.2
      omega
    · exact h.set_other e _
  · exact h
theorem Pl.Holds.moved {P : Pl} (hok : P.ok) {c : Int} (hc : IsC c) {i k : Nat} {v : Nat → Int} (h : P.Holds c i k v) {f t : Nat} (hp : P.Pair f t) :
    (i = f ∧ k = (P.pg f).top (P.pg f).cls ∧ (P.moved f t).Holds c t ((P.pg t).gap c) v) ∨ ((i ≠ f ∨ k ≠ (P.pg f).top (P.pg f).cls) ∧ (P.moved f t).Holds c i k v) := by
  have hne : (P.pg f).cls ≠ -1 := by rcases hp.c with e | e | e <;> omega
  have htop := (hok f hp.hi).top hne
  have hgap := (hok t hp.hj).gap hp.c hp.pj
  by_cases e : i = f ∧ k = (P.pg f).top (P.pg f).cls
  · obtain ⟨rfl, hk⟩ := e
    refine .inl ⟨rfl, hk, ?_⟩
    have hcl := h.cls
    rw [hcl] at hk hgap
    have hts : (P.pg t).cls = c := hp.same.trans hcl
    have e1 : (P.moved i t).pg t = (P.pg t).take c ((P.pg t).gap c) fun x => (P.pg i).cell (k * bsz c + x) := by
      unfold Pl.moved
      rw [Pl.set_other _ _ hp.ne.symm, Pl.set_same, hcl, hts, ← hk]
    refine ⟨hp.hj, by rw [e1]; rfl, hgap.1, by rw [e1]; exact up_same _ _ _, fun x hx => ?_⟩
    rw [e1]
    show (if _ then _ else _) = _
    rw [if_pos ⟨by omega, by omega⟩, show (P.pg t).gap c * bsz c + x - (P.pg t).gap c * bsz c = x by omega]
    exact h.cell x hx
  · have e' : i ≠ f ∨ k ≠ (P.pg f).top (P.pg f).cls := by
      by_cases e2 : i = f
      · exact .inr (fun e3 => e ⟨e2, e3⟩)
      · exact .inl e2
    refine .inr ⟨e', ?_⟩
    unfold Pl.moved
    -- the page that gets
    have h1 : (P.set t ((P.pg t).take (P.pg f).cls ((P.pg t).gap (P.pg t).cls) fun x => (P.pg f).cell ((P.pg f).top (P.pg f).cls * bsz (P.pg f).cls + x))).Holds c i k v := by
      by_cases e2 : i = t
      · subst e2
        have hcl : (P.pg f).cls = c := hp.same.symm.trans h.cls
        rw [hcl] at hgap
        rw [hcl, h.cls]
        refine h.take hc (fun e3 => ?_) _
        rw [e3, h.used] at hgap
        cases hgap.2
      · exact h.set_other e2 _
    by_cases e2 : i = f
    · subst e2
      have e3 : (P.set t ((P.pg t).take (P.pg i).cls ((P.pg t).gap (P.pg t).cls) fun x => (P.pg i).cell ((P.pg i).top (P.pg i).cls * bsz (P.pg i).cls + x))).pg i = P.pg i := Pl.set_other _ _ hp.ne
      have h2 := h1.release hc (l := (P.pg i).top (P.pg i).cls) (by rcases e' with h3 | h3; exact absurd rfl h3; exact h3.symm)
      rw [e3] at h2
      exact h2
    · exact h1.set_other e2 _
theorem Pl.Holds.tells {P : Pl} {c : Int} (hc : IsC c) {i k : Nat} {v : Nat → Int} (h : P.Holds c i k v) {x : Nat} (hx : x < bsz c) :
    P.begin ((16 * i + k * bsz c + x : Nat) : Int) = (((16 * i + k * bsz c : Nat) : Int), 0) ∧ P.cell ((16 * i + k * bsz c + x : Nat) : Int) = (v x, 0) := by
  have hb := hc.blk h.kb
  have hi := h.hi
  obtain ⟨A, hA⟩ : ∃ A, A = 16 * i + k * bsz c + x := ⟨_, rfl⟩
  have h1 : A / 16 = i := by omega
  have h2 : A % 16 = k * bsz c + x := by omega
  have h3 : (k * bsz c + x) / bsz c = k := hc.of_at (by omega) (by omega)
  have hcl := h.cls
  have ha : P.addr (A : Int) = true := Pl.addr_iff.2 ⟨by omega, by omega⟩
  have hbg : P.begin (A : Int) = (((16 * i + k * bsz c : Nat) : Int), 0) := by
    rw [Pl.begin_yes ha (by show ¬ (P.pg (A / 16)).cls < 0; rw [h1, hcl]; rcases hc with e | e | e <;> omega) (by show (P.pg (A / 16)).used (A % 16 / bsz (P.pg (A / 16)).cls) = true; rw [h1, h2, hcl, h3]; exact h.used)]
    show (((A / 16 * 16 + A % 16 / bsz (P.pg (A / 16)).cls * bsz (P.pg (A / 16)).cls : Nat) : Int), (0 : Int)) = _
    rw [h1, h2, hcl, h3, Nat.mul_comm i 16]
  rw [← hA]
  refine ⟨hbg, ?_⟩
  unfold Pl.cell
  rw [hbg]
  simp only [if_true]
  show ((P.pg (A / 16)).cell (A % 16), (0 : Int)) = _
  rw [h1, h2, h.cell x hx]
end Go.Proofs.YthflghdaejbdkaaGreat
namespace Go.Proofs.YthflghdaejbdkaaGreat
set_option linter.unusedVariables false
theorem Pg.take_holds {P : Pl} {c : Int} (hc : IsC c) {i k : Nat} (hi : i < P.n) (hk : k < bpt c) : (P.set i ((P.pg i).take c k fun _ => 0)).Holds c i k (fun _ => 0) := by
  refine ⟨hi, ?_, hk, ?_, fun x hx => ?_⟩
  · rw [Pl.set_same]; rfl
  · rw [Pl.set_same]; exact up_same _ _ _
  · rw [Pl.set_same]
    show (if k * bsz c ≤ k * bsz c + x ∧ k * bsz c + x < k * bsz c + bsz c then (0 : Int) else _) = 0
    rw [if_pos ⟨by omega, by omega⟩]
theorem Pl.alloc_holds {P : Pl} (h : P.ok) {c : Int} (hc : IsC c) (he : (P.alloc c).2.1 = 0) :
    ∃ i k, (P.alloc c).1 = ((16 * i + k * bsz c : Nat) : Int) ∧ (P.alloc c).2.2.Holds c i k (fun _ => 0) := by
  have hsz := hc.sz
  rcases P.alloc_cases c with hb | ⟨_, ⟨i, hi, hp, hb⟩ | ⟨hn, ⟨i, hi, hp, hb⟩ | hf⟩⟩
  · exact absurd hb (isC_iff.2 hc)
  · have hg := (h i hi).gap hc hp
    rw [Pl.alloc_part hc hi hp hb]
    exact ⟨i, (P.pg i).gap c, rfl, Pg.take_holds hc hi hg.1⟩
  · rw [Pl.alloc_new hc hn hi hp hb]
    exact ⟨i, 0, by simp, Pg.take_holds hc hi (by omega)⟩
  · rw [Pl.alloc_full hc hn hf] at he
    cases he
theorem Pl.Holds.put {P : Pl} {c : Int} (hc : IsC c) {i k : Nat} {v : Nat → Int} (h : P.Holds c i k v) {x : Nat} (hx : x < bsz c) (n : Int) :
    (P.setCell ((16 * i + k * bsz c + x : Nat) : Int) n).1 = 0 ∧ (P.setCell ((16 * i + k * bsz c + x : Nat) : Int) n).2.Holds c i k (up v x n) := by
  have ht := (h.tells hc hx).1
  have hb := hc.blk h.kb
  obtain ⟨A, hA⟩ : ∃ A, A = 16 * i + k * bsz c + x := ⟨_, rfl⟩
  rw [← hA] at ht ⊢
  have h1 : A / 16 = i := by omega
  have h2 : A % 16 = k * bsz c + x := by omega
  have e : P.setCell (A : Int) n = (0, P.set i { P.pg i with cell := up (P.pg i).cell (k * bsz c + x) n }) := by
    unfold Pl.setCell
    rw [ht]
    simp only [if_true]
    rw [show (A : Int).toNat = A from rfl, h1, h2]
  rw [e]
  refine ⟨rfl, h.hi, ?_, h.kb, ?_, fun y hy => ?_⟩
  · show ((P.set i _).pg i).cls = c
    rw [Pl.set_same]; exact h.cls
  · show ((P.set i _).pg i).used k = true
    rw [Pl.set_same]; exact h.used
  · show ((P.set i _).pg i).cell (k * bsz c + y) = _
    rw [Pl.set_same]
    show up (P.pg i).cell (k * bsz c + x) n (k * bsz c + y) = up v x n y
    by_cases hxy : y = x
    · subst hxy; rw [up_same, up_same]
    · rw [up_other _ _ (by omega), up_other _ _ hxy, h.cell y hy]
theorem Pl.Holds.move {P : Pl} (hok : P.ok) {c : Int} (hc : IsC c) {i k : Nat} {v : Nat → Int} (h : P.Holds c i k v) :
    (P.move.2.2.1 = 0 ∧ P.move.1 = ((16 * i + k * bsz c : Nat) : Int) ∧ ∃ i' k', P.move.2.1 = ((16 * i' + k' * bsz c : Nat) : Int) ∧ P.move.2.2.2.Holds c i' k' v) ∨
    (¬ (P.move.2.2.1 = 0 ∧ P.move.1 = ((16 * i + k * bsz c : Nat) : Int)) ∧ P.move.2.2.2.Holds c i k v) := by
  cases hp : P.pair with
  | none =>
    rw [Pl.move_none hp]
    exact .inr ⟨fun h2 => by have := h2.1; simp at this, h⟩
  | some x =>
    obtain ⟨f, t⟩ := x
    have hp2 := Pl.pair_some hp
    rw [Pl.move_some hp]
    rcases h.moved hok hc hp2 with ⟨rfl, h1, h2⟩ | ⟨h1, h2⟩
    · refine .inl ⟨rfl, ?_, t, (P.pg t).gap c, ?_, h2⟩
      · show ((16 * i + (P.pg i).top (P.pg i).cls * bsz (P.pg i).cls : Nat) : Int) = _
        rw [← h1, h.cls]
      · show ((16 * t + (P.pg t).gap (P.pg t).cls * bsz (P.pg i).cls : Nat) : Int) = _
        rw [hp2.same, h.cls]
    · refine .inr ⟨fun h3 => ?_, h2⟩
      have h4 : 16 * f + (P.pg f).top (P.pg f).cls * bsz (P.pg f).cls = 16 * i + k * bsz c := Int.ofNat.inj h3.2
      have hne : (P.pg f).cls ≠ -1 := by rcases hp2.c with e | e | e <;> omega
      have b1 := hp2.c.blk ((hok f hp2.hi).top hne).1
      have b2 := hc.blk h.kb
      have s1 := hp2.c.sz
      have s2 := hc.sz
      have hfi : i = f := by omega
      subst hfi
      rw [h.cls] at h4 h1
      rcases h1 with h1 | h1
      · exact h1 rfl
      · exact h1 (hc.blocks (by omega))
theorem Pl.Holds.upto {P : Pl} {c : Int} {i k : Nat} {v v' : Nat → Int} (h : P.Holds c i k v) (e : ∀ x, x < bsz c → v' x = v x) : P.Holds c i k v' :=
  ⟨h.hi, h.cls, h.kb, h.used, fun x hx => by rw [h.cell x hx, e x hx]⟩
end Go.Proofs.YthflghdaejbdkaaGreat
namespace Go.Proofs.YthflghdaejbdkaaGreat
def gI (l : List Int) (i : Nat) : Int := l[i]?.getD 0
structure QSt where
  cells : List Int
  head : Nat
  tail : Nat
  put : Nat
  take : Nat
  word : Int
  taken : Int
def QSt.n (s : QSt) : Nat := s.cells.length
def QSt.nx (s : QSt) (i : Nat) : Nat := (i + 1) % s.cells.length
end Go.Proofs.YthflghdaejbdkaaGreat
