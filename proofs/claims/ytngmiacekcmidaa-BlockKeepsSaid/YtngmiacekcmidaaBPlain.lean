/- Pages of blocks, the plain laws: rooms, frees. -/
import Derived.Test.YtngmiacekcmidaaRBlockD
namespace Go.Proofs.Ytngmiacekcmidaa

theorem sumN_up1 {f g : Nat → Nat} {i k : Nat} (hi : i < k) (h : ∀ j, j < k → j ≠ i → g j = f j) (hd : g i + 1 = f i) : sumN g k + 1 = sumN f k := by
  have := sumN_up hi h
  omega
theorem Pl.roomF_other {P : Pl} {c : Int} {i j : Nat} (x : Pg) (h : j ≠ i) : (P.set i x).roomF c j = P.roomF c j := by unfold Pl.roomF; rw [Pl.set_other _ _ h]
theorem Pl.room_alloc {P : Pl} (h : P.ok) {c : Int} (hc : IsC c) (hr : 0 < P.roomN c P.n) : (P.alloc c).2.1 = 0 ∧ (P.alloc c).2.2.roomN c P.n + 1 = P.roomN c P.n := by
  have hcm : c ≠ -1 := by rcases hc with e | e | e <;> omega
  have hsz := hc.sz
  rcases P.alloc_cases c with hb | ⟨_, ⟨i, hi, hp, hb⟩ | ⟨hn, ⟨i, hi, hp, hb⟩ | hf⟩⟩
  · exact absurd hb (isC_iff.2 hc)
  · rw [Pl.alloc_part hc hi hp hb]
    refine ⟨rfl, sumN_up1 hi (fun j _ hj => Pl.roomF_other _ hj) ?_⟩
    have he := (Pg.partly_iff.1 hp)
    have hg := (h i hi).gap hc hp
    unfold Pl.roomF
    rw [Pl.set_same]
    have e1 : ((P.pg i).take c ((P.pg i).gap c) fun _ => 0).cls = c := rfl
    have e2 : ((P.pg i).take c ((P.pg i).gap c) fun _ => 0).count = (P.pg i).count + 1 := cnt_set (by omega) hg.2
    rw [e1, e2, if_neg hcm, if_pos rfl, if_neg (by rw [he.1]; exact hcm), if_pos he.1]
    omega
  · rw [Pl.alloc_new hc hn hi hp hb]
    refine ⟨rfl, sumN_up1 hi (fun j _ hj => Pl.roomF_other _ hj) ?_⟩
    have hfree := ((h i hi).neg).1 hp
    unfold Pl.roomF
    rw [Pl.set_same]
    have e1 : ((P.pg i).take c 0 fun _ => 0).cls = c := rfl
    have e2 : ((P.pg i).take c 0 fun _ => 0).count = (P.pg i).count + 1 := cnt_set (by omega) ((h i hi).free hfree 0)
    have e3 := (h i hi).count_free hfree
    rw [e1, e2, e3, if_neg hcm, if_pos rfl, if_pos hfree]
    omega
  · exfalso
    have h0 : P.roomN c P.n = 0 := sumN_zero.2 fun i hi => by
      unfold Pl.roomF
      rw [if_neg (by have := hf i hi; omega)]
      by_cases e : (P.pg i).cls = c
      · rw [if_pos e]
        have h1 : ¬ ((P.pg i).cls = c ∧ (P.pg i).count < bpt c) := fun h2 => by
          have := Pg.partly_iff.2 h2
          rw [hn i hi] at this; cases this
        omega
      · rw [if_neg e]
    omega
theorem Pl.room_none {P : Pl} (h : P.ok) {c : Int} (hc : IsC c) (hr : P.roomN c P.n = 0) : (P.alloc c).2.1 = 14 := by
  have hcm : c ≠ -1 := by rcases hc with e | e | e <;> omega
  have hsz := hc.sz
  have hz := sumN_zero.1 hr
  rw [Pl.alloc_full hc]
  · intro j hj
    cases hp : (P.pg j).partly c with
    | false => rfl
    | true =>
      have he := Pg.partly_iff.1 hp
      have := hz j hj
      unfold Pl.roomF at this
      rw [if_neg (by rw [he.1]; exact hcm), if_pos he.1] at this
      omega
  · intro j hj hneg
    have := hz j hj
    unfold Pl.roomF at this
    rw [if_pos ((h j hj).neg.1 hneg)] at this
    omega
theorem Pl.alloc_n {P : Pl} (h : P.ok) (c : Int) : (P.alloc c).2.2.n = P.n := (h.alloc c).2
theorem Pl.room_le {P : Pl} {c : Int} (hc : IsC c) (h24 : P.n ≤ 24) : P.roomN c P.n ≤ 192 := by
  have h := sumN_le (f := P.roomF c) (k := P.n) (m := 8) (fun i _ => by have := hc.sz; unfold Pl.roomF; split; omega; split; omega; omega)
  show sumN (P.roomF c) P.n ≤ 192
  omega

/-- Where used blocks begin. -/
def Pl.liveA (P : Pl) (x : Nat) : Bool := decide ((P.begin (x : Int)).2 = 0 ∧ (P.begin (x : Int)).1 = (x : Int))
theorem Pl.liveA_at {P : Pl} (h : P.ok) {i j : Nat} (hi : i < P.n) (hj : j < 16) : P.liveA (16 * i + j) = (P.pg i).live j := by
  have s : Adr P (16 * i + j) i j := ⟨by omega, by omega, hi, hj, by omega⟩
  have := live_begin h s
  cases hl : (P.pg i).live j with
  | true => unfold Pl.liveA; rw [decide_eq_true (this.1 hl)]
  | false =>
    unfold Pl.liveA
    rw [decide_eq_false]
    intro h2
    rw [this.2 h2] at hl; cases hl
theorem cnt_add (u : Nat → Bool) (a b : Nat) : cnt u (a + b) = cnt u a + cnt (fun j => u (a + j)) b := by
  induction b with
  | zero => rfl
  | succ b ih =>
    have e1 : cnt u (a + (b + 1)) = cnt u (a + b) + if u (a + b) then 1 else 0 := rfl
    have e2 : cnt (fun j => u (a + j)) (b + 1) = cnt (fun j => u (a + j)) b + if u (a + b) then 1 else 0 := rfl
    rw [e1, e2, ih]
    omega
theorem Pl.liveA_cnt {P : Pl} (h : P.ok) : cnt P.liveA (16 * P.n) = sumN (fun i => (P.pg i).count) P.n := by
  have key : ∀ k, k ≤ P.n → cnt P.liveA (16 * k) = sumN (fun i => (P.pg i).count) k := by
    intro k
    induction k with
    | zero => intro _; rfl
    | succ k ih =>
      intro hk
      rw [Nat.mul_succ, cnt_add, ih (by omega)]
      show _ = _ + (P.pg k).count
      rw [cnt_congr (v := (P.pg k).live) (fun j hj => Pl.liveA_at h (by omega) hj), Pg.live_cnt (h k (by omega)).w]
  exact key P.n (Nat.le_refl _)
theorem Pl.used_sum {P : Pl} (h : P.ok) : P.usedN 0 P.n + P.usedN 1 P.n + P.usedN 2 P.n = cnt P.liveA (16 * P.n) := by
  rw [Pl.liveA_cnt h]
  show sumN (P.usedF 0) P.n + sumN (P.usedF 1) P.n + sumN (P.usedF 2) P.n = _
  rw [← sumN_add, ← sumN_add]
  refine sumN_congr fun i hi => ?_
  unfold Pl.usedF
  rcases (h i hi).cls with e | e | e | e
  · rw [(h i hi).count_free e]; simp
  · simp [e]
  · simp [e]
  · simp [e]
/-- The addresses at which used blocks begin, below k. -/
def Pl.lives (P : Pl) (k : Nat) : List Nat := (List.range k).filter P.liveA
theorem Pl.lives_succ (P : Pl) (k : Nat) : P.lives (k + 1) = P.lives k ++ if P.liveA k then [k] else [] := by
  unfold Pl.lives
  rw [List.range_succ, List.filter_append]
  congr 1
  cases h : P.liveA k <;> simp [h]
theorem Pl.lives_len (P : Pl) (k : Nat) : (P.lives k).length = cnt P.liveA k := by
  induction k with
  | zero => rfl
  | succ k ih =>
    rw [Pl.lives_succ, List.length_append, ih]
    show _ = cnt P.liveA k + _
    cases h : P.liveA k <;> simp
theorem Pl.lives_mem {P : Pl} {k x : Nat} : x ∈ P.lives k ↔ x < k ∧ P.liveA x = true := by simp [Pl.lives]
theorem Pl.lives_nodup (P : Pl) (k : Nat) : (P.lives k).Nodup := List.Pairwise.filter _ List.nodup_range
/-- A used block is freed. -/
theorem Pl.free_live {P : Pl} (h : P.ok) {x : Nat} (hx : x < 16 * P.n) (hl : P.liveA x = true) :
    (P.free (x : Int)).1 = 0 ∧ (∀ y, y < 16 * P.n → (P.free (x : Int)).2.liveA y = (P.liveA y && decide (y ≠ x))) ∧ ((P.free (x : Int)).2.free (x : Int)).1 = 3 := by
  obtain ⟨i, j, s⟩ := adr_of hx
  have hxe : x = 16 * i + j := by have := s.hA; omega
  have hl2 : (P.pg i).live j = true := by rw [← Pl.liveA_at h s.hin s.hj16, ← hxe]; exact hl
  obtain ⟨b1, b2⟩ := (live_begin h s).1 hl2
  have hC : IsC (P.pg i).cls := by
    rcases (h i s.hin).cls with h1 | h1
    · rw [Pg.live_free h1] at hl2; cases hl2
    · exact h1
  have hne : (P.pg i).cls ≠ -1 := by rcases hC with e | e | e <;> omega
  obtain ⟨k, hk⟩ : ∃ k, k = j / bsz (P.pg i).cls := ⟨_, rfl⟩
  have hl3 := (Pg.live_iff hC j).1 hl2
  rw [← hk] at hl3
  have e1 : P.free (x : Int) = (0, P.set i ((P.pg i).release k)) := by
    unfold Pl.free
    rw [if_pos b1, if_pos b2, hk, s.hj, s.hi]; simp
  have hok' : (P.set i ((P.pg i).release k)).ok := h.set ((h i s.hin).release hne k)
  have hlive : ∀ y, ((P.pg i).release k).live y = ((P.pg i).live y && decide (y ≠ j)) := by
    intro y
    unfold Pg.release
    by_cases h0 : cnt (up (P.pg i).used k false) 8 = 0
    · simp only [h0, if_true]
      rw [Pg.live_free rfl]
      by_cases ey : y = j
      · simp [ey]
      · cases hly : (P.pg i).live y with
        | false => rfl
        | true =>
          exfalso
          obtain ⟨h4, h5⟩ := (Pg.live_iff hC y).1 hly
          have h6 : y / bsz (P.pg i).cls ≠ k := fun e => ey (by rw [h4, e]; exact hl3.1.symm)
          have h7 := (cnt_eq_zero.1 h0) (y / bsz (P.pg i).cls) (by
            rcases Nat.lt_or_ge (y / bsz (P.pg i).cls) (bpt (P.pg i).cls) with h8 | h8
            · have := hC.sz; omega
            · rw [(h i s.hin).high hne _ h8] at h5; cases h5)
          rw [up_other _ _ h6, h5] at h7
          cases h7
    · simp only [h0, if_false]
      have := Pg.live_up (p := P.pg i) hC k false y
      rw [← hl3.1] at this
      rw [this]
      by_cases ey : y = j
      · simp [ey]
      · simp [ey]
  have hall : ∀ y, y < 16 * P.n → (P.set i ((P.pg i).release k)).liveA y = (P.liveA y && decide (y ≠ x)) := by
    intro y hy
    obtain ⟨i', j', s'⟩ := adr_of hy
    have hye : y = 16 * i' + j' := by have := s'.hA; omega
    rw [hye, Pl.liveA_at hok' (by exact s'.hin) s'.hj16, Pl.liveA_at h s'.hin s'.hj16]
    by_cases ei : i' = i
    · subst ei
      rw [Pl.set_same, hlive, hxe]
      congr 1
      rw [decide_eq_decide]
      omega
    · rw [Pl.set_other _ _ ei]
      have : 16 * i' + j' ≠ x := by have := s.hj16; have := s'.hj16; omega
      simp [this]
  refine ⟨by rw [e1], by rw [e1]; exact hall, ?_⟩
  rw [e1]
  have hnl := hall x hx
  simp at hnl
  show ((P.set i ((P.pg i).release k)).free (x : Int)).1 = 3
  have ha : (P.set i ((P.pg i).release k)).addr (x : Int) = true := Pl.addr_iff.2 ⟨by omega, by show (x : Int) < 16 * (P.n : Nat); omega⟩
  unfold Pl.free
  by_cases h0 : ((P.set i ((P.pg i).release k)).begin (x : Int)).2 = 0
  · rw [if_pos h0, if_neg]
    intro h1
    unfold Pl.liveA at hnl
    simp at hnl
    exact hnl h0 h1
  · rw [if_neg h0]
    rcases (Pl.begin_err h0).2 with h1 | h1
    · exfalso
      by_cases hc : ((P.set i ((P.pg i).release k)).pg (x / 16)).cls < 0
      · rw [Pl.begin_free ha (by simpa using hc)] at h1; cases h1
      · cases hu : ((P.set i ((P.pg i).release k)).pg (x / 16)).used (x % 16 / bsz ((P.set i ((P.pg i).release k)).pg (x / 16)).cls) with
        | true => rw [Pl.begin_yes ha (by simpa using hc) (by simpa using hu)] at h1; cases h1
        | false => rw [Pl.begin_no ha (by simpa using hc) (by simpa using hu)] at h1; cases h1
    · exact h1
/-- Without used blocks all pages are free. -/
theorem Pl.all_free {P : Pl} (h : P.ok) (hn : ∀ y, y < 16 * P.n → P.liveA y = false) : P.freeN P.n = P.n ∧ P.partN P.n = 0 ∧ P.fullN P.n = 0 := by
  have hf : ∀ i, i < P.n → (P.pg i).cls = -1 := by
    intro i hi
    rcases (h i hi).cls with h1 | hC
    · exact h1
    · exfalso
      have hne : (P.pg i).cls ≠ -1 := by rcases hC with e | e | e <;> omega
      obtain ⟨k, hk, hu⟩ := (h i hi).some1 hne
      have hb := hC.blk hk
      have hl := Pg.live_at hC k
      have := hn (16 * i + k * bsz (P.pg i).cls) (by have := hC.sz; omega)
      rw [Pl.liveA_at h hi (by have := hC.sz; omega), hl, hu] at this
      cases this
  refine ⟨?_, sumN_zero.2 fun i hi => ?_, sumN_zero.2 fun i hi => ?_⟩
  · have key : ∀ k, k ≤ P.n → sumN P.freeF k = k := by
      intro k
      induction k with
      | zero => intro _; rfl
      | succ k ih =>
        intro hk
        show sumN P.freeF k + P.freeF k = k + 1
        rw [ih (by omega)]
        unfold Pl.freeF
        rw [if_pos (by rw [hf k (by omega)]; decide)]
    exact key P.n (Nat.le_refl _)
  · unfold Pl.partF; rw [if_neg (by rw [hf i hi]; simp)]
  · unfold Pl.fullF; rw [if_neg (by rw [hf i hi]; simp)]
end Go.Proofs.Ytngmiacekcmidaa
