/- Lemmas of this claim. -/
import Derived.Test.YthflghdaejbdkaaKOFull
import Derived.Test.YthflghdaejbdkaaKReach
namespace Go.Proofs.Ythflghdaejbdkaa
set_option linter.unusedVariables false
set_option maxRecDepth 100000
def setI (f : Int → Int) (k v : Int) : Int → Int := fun j => if j = k then v else f j
theorem setI_same (f : Int → Int) (k v : Int) : setI f k v k = v := if_pos rfl
theorem setI_other (f : Int → Int) {k j : Int} (v : Int) (h : j ≠ k) : setI f k v j = f j := if_neg h
structure Mk where
  M : Hp
  col : Int → Int
  list : List Int
def Mk.wh (m : Mk) (x : Int) : Bool := decide (x ≠ 0) && (m.M.ob x).isSome && decide (m.col x = 0)
def Mk.shade (m : Mk) (x : Int) : Mk := if m.wh x then ⟨m.M, setI m.col x 1, m.list ++ [x]⟩ else m
def Mk.shades (m : Mk) (l : List Int) : Mk := l.foldl Mk.shade m
def without (l : List Int) (x : Int) : List Int := l.filter (fun y => decide (y ≠ x))
def Mk.black (m : Mk) (x : Int) : Mk := ⟨m.M, setI m.col x 2, without m.list x⟩
def Mk.start (M : Hp) : Mk := ⟨M, fun _ => 0, []⟩
def Mk.next (m : Mk) : Int × Int := match m.list with | [] => (0, 3) | h :: _ => (h, 0)
def Mk.stepAt (m : Mk) (h : Int) : Mk := (⟨m.M, setI m.col h 2, m.list.drop 1⟩ : Mk).shades (m.M.refs h).1
def Mk.step (m : Mk) : Int × Int × Mk := match m.list with | [] => (0, 3, m) | h :: _ => (h, 0, m.stepAt h)
def Mk.steps : Nat → Mk → Mk | 0, m => m | k + 1, m => (Mk.steps k m).step.2.2
open Classical in
noncomputable def Mk.runs (m : Mk) : Nat := if h : ∃ i, (m.steps i).list = [] ∧ ∀ j, j < i → (m.steps j).list ≠ [] then Classical.choose h else 0
noncomputable def Mk.run (m : Mk) : Mk := m.steps m.runs
def Mk.shadeE (m : Mk) (x : Int) : Int := if x ≠ 0 ∧ (m.M.ob x).isSome = false then 3 else 0
def Mk.color (m : Mk) (x : Int) : Int × Int := if (m.M.ob x).isSome then (m.col x, 0) else (0, 3)
structure Mk.Ok (m : Mk) : Prop where
  hf : m.M.OkF
  rg : ∀ k, m.col k = 0 ∨ m.col k = 1 ∨ m.col k = 2
  us : ∀ k, m.col k ≠ 0 → (m.M.ob k).isSome = true
  nd : m.list.Nodup
  gr : ∀ k, k ∈ m.list ↔ m.col k = 1
section
variable {m : Mk} {x : Int}
theorem Hp.Ok.inR {M : Hp} (hk : M.Ok) (h : (M.ob x).isSome = true) : 1 ≤ x ∧ x ≤ 192 := by
  obtain ⟨o, ho⟩ := Option.isSome_iff_exists.1 h
  exact hk.hr x o ho
theorem Mk.wh_iff : m.wh x = true ↔ x ≠ 0 ∧ (m.M.ob x).isSome = true ∧ m.col x = 0 := by
  unfold Mk.wh; simp [and_assoc]
theorem Mk.Ok.usedIn (h : m.Ok) (hx : x ∈ m.list) : (m.M.ob x).isSome = true := h.us x (by rw [(h.gr x).1 hx]; decide)
theorem Mk.Ok.inR (h : m.Ok) (hx : x ∈ m.list) : 1 ≤ x ∧ x ≤ 192 := h.hf.ok.inR (h.usedIn hx)
theorem nodup_le {l : List Int} (hn : l.Nodup) (hr : ∀ x ∈ l, 1 ≤ x ∧ x ≤ 192) : l.length ≤ 192 := by
  have h : (l.map Int.toNat).Nodup := by
    rw [List.nodup_iff_pairwise_ne, List.pairwise_map]
    rw [List.nodup_iff_pairwise_ne] at hn
    refine hn.imp_of_mem ?_
    intro a b ha hb hne e
    have := hr a ha; have := hr b hb; exact hne (by omega)
  have h2 : (l.map Int.toNat) ⊆ List.range 193 := by
    intro y hy
    obtain ⟨a, ha, rfl⟩ := List.mem_map.1 hy
    have := hr a ha
    rw [List.mem_range]; omega
  have h3 : 0 ∉ l.map Int.toNat := by
    intro hy
    obtain ⟨a, ha, e⟩ := List.mem_map.1 hy
    have := hr a ha
    omega
  have h4 : (0 :: l.map Int.toNat).Nodup := List.nodup_cons.2 ⟨h3, h⟩
  have h5 : (0 :: l.map Int.toNat) ⊆ List.range 193 := List.cons_subset.2 ⟨by simp, h2⟩
  have h6 := (nodup_len h4 (l2 := List.range 193) (fun x hx => h5 hx)).1
  simp at h6
  omega
theorem Mk.Ok.len (h : m.Ok) : m.list.length ≤ 192 := nodup_le h.nd (fun x hx => h.inR hx)
theorem Mk.Ok.shade (h : m.Ok) (x : Int) : (m.shade x).Ok := by
  unfold Mk.shade
  split
  · rename_i hw
    obtain ⟨h1, h2, h3⟩ := Mk.wh_iff.1 hw
    refine ⟨h.hf, fun k => ?_, fun k hk => ?_, ?_, fun k => ?_⟩
    · show setI m.col x 1 k = 0 ∨ setI m.col x 1 k = 1 ∨ setI m.col x 1 k = 2
      by_cases e : k = x
      · rw [e, setI_same]; exact .inr (.inl rfl)
      · rw [setI_other _ _ e]; exact h.rg k
    · have hk2 : setI m.col x 1 k ≠ 0 := hk
      by_cases e : k = x
      · rw [e]; exact h2
      · rw [setI_other _ _ e] at hk2; exact h.us k hk2
    · show (m.list ++ [x]).Nodup
      rw [List.nodup_append]
      refine ⟨h.nd, by simp, fun a ha b hb e => ?_⟩
      simp at hb
      rw [e, hb] at ha
      have := (h.gr x).1 ha
      omega
    · show k ∈ m.list ++ [x] ↔ setI m.col x 1 k = 1
      rw [List.mem_append]
      by_cases e : k = x
      · rw [e, setI_same]; simp
      · rw [setI_other _ _ e, h.gr k]; simp [e]
  · exact h
theorem Mk.shade_M : (m.shade x).M = m.M := by unfold Mk.shade; split <;> rfl
theorem Mk.shades_M (l : List Int) : ∀ m : Mk, (m.shades l).M = m.M := by
  induction l with
  | nil => intro m; rfl
  | cons a l ih => intro m; exact (ih (m.shade a)).trans Mk.shade_M
theorem Mk.Ok.shades (l : List Int) : ∀ m : Mk, m.Ok → (m.shades l).Ok := by
  induction l with
  | nil => intro m h; exact h
  | cons a l ih => intro m h; exact ih _ (h.shade a)
theorem Mk.shade_col (k : Int) : (m.shade x).col k = m.col k ∨ (k = x ∧ m.wh x = true ∧ m.col k = 0 ∧ (m.shade x).col k = 1) := by
  unfold Mk.shade
  split
  · rename_i hw
    show setI m.col x 1 k = m.col k ∨ _
    by_cases e : k = x
    · exact .inr ⟨e, hw, by rw [e]; exact (Mk.wh_iff.1 hw).2.2, by rw [e]; exact setI_same _ _ _⟩
    · exact .inl (setI_other _ _ e)
  · exact .inl rfl
theorem Mk.shades_col (l : List Int) (k : Int) : ∀ m : Mk, (m.shades l).col k = m.col k ∨ (k ∈ l ∧ k ≠ 0 ∧ (m.M.ob k).isSome = true ∧ m.col k = 0 ∧ (m.shades l).col k = 1) := by
  induction l with
  | nil => intro m; exact .inl rfl
  | cons a l ih =>
    intro m
    have h1 := ih (m.shade a)
    show ((m.shade a).shades l).col k = _ ∨ (_ ∧ _ ∧ _ ∧ _ ∧ ((m.shade a).shades l).col k = 1)
    rcases Mk.shade_col (m := m) (x := a) k with h2 | ⟨h2, h3, h4, h5⟩
    · rw [h2] at h1
      rw [Mk.shade_M] at h1
      rcases h1 with h1 | ⟨h1, h6, h7, h8, h9⟩
      · exact .inl h1
      · exact .inr ⟨List.mem_cons_of_mem _ h1, h6, h7, h8, h9⟩
    · rcases h1 with h1 | ⟨_, _, _, h8, _⟩
      · obtain ⟨w1, w2, w3⟩ := Mk.wh_iff.1 h3
        exact .inr ⟨by rw [h2]; exact List.mem_cons_self, by rw [h2]; exact w1, by rw [h2]; exact w2, h4, by rw [h1, h5]⟩
      · omega
theorem Mk.shades_seen (l : List Int) (k : Int) (hk : k ∈ l) (h0 : k ≠ 0) : ∀ m : Mk, (m.M.ob k).isSome = true → (m.shades l).col k ≠ 0 := by
  induction l with
  | nil => cases hk
  | cons a l ih =>
    intro m hs
    by_cases e : k ∈ l
    · exact ih e (m.shade a) (by rw [Mk.shade_M]; exact hs)
    · have e2 : k = a := by rcases List.mem_cons.1 hk with h | h; exact h; exact absurd h e
      have h1 : (m.shade a).col k ≠ 0 := by
        by_cases hc : m.col k = 0
        · have hw : m.wh a = true := Mk.wh_iff.2 ⟨by rw [← e2]; exact h0, by rw [← e2]; exact hs, by rw [← e2]; exact hc⟩
          unfold Mk.shade
          rw [if_pos hw]
          show setI m.col a 1 k ≠ 0
          rw [e2, setI_same]; decide
        · rcases Mk.shade_col (m := m) (x := a) k with h2 | ⟨_, _, h4, _⟩
          · rw [h2]; exact hc
          · exact absurd h4 hc
      rcases Mk.shades_col l k (m.shade a) with h3 | ⟨h3, _⟩
      · show ((m.shade a).shades l).col k ≠ 0
        rw [h3]; exact h1
      · exact absurd h3 e
theorem mem_without {l : List Int} {k : Int} : k ∈ without l x ↔ k ∈ l ∧ k ≠ x := by unfold without; simp
theorem without_self {l : List Int} (h : x ∉ l) : without l x = l := by
  unfold without
  rw [List.filter_eq_self]
  intro a ha
  simp
  intro e
  exact h (by rw [← e]; exact ha)
theorem without_nodup {l : List Int} (h : l.Nodup) : (without l x).Nodup := h.filter _
theorem Mk.Ok.black (h : m.Ok) (hx : (m.M.ob x).isSome = true) : (m.black x).Ok := by
  refine ⟨h.hf, fun k => ?_, fun k hk => ?_, without_nodup h.nd, fun k => ?_⟩
  · show setI m.col x 2 k = 0 ∨ setI m.col x 2 k = 1 ∨ setI m.col x 2 k = 2
    by_cases e : k = x
    · rw [e, setI_same]; exact .inr (.inr rfl)
    · rw [setI_other _ _ e]; exact h.rg k
  · have hk2 : setI m.col x 2 k ≠ 0 := hk
    by_cases e : k = x
    · rw [e]; exact hx
    · rw [setI_other _ _ e] at hk2; exact h.us k hk2
  · show k ∈ without m.list x ↔ setI m.col x 2 k = 1
    rw [mem_without]
    by_cases e : k = x
    · rw [e, setI_same]; simp
    · rw [setI_other _ _ e, h.gr k]; simp [e]
theorem Mk.Ok.start {M : Hp} (h : M.OkF) : (Mk.start M).Ok := ⟨h, fun _ => .inl rfl, fun k hk => absurd rfl hk, by simp [Mk.start], fun k => by simp [Mk.start]⟩
theorem stepAt_shape {h : Int} {t : List Int} (e : m.list = h :: t) (hn : m.list.Nodup) : (⟨m.M, setI m.col h 2, m.list.drop 1⟩ : Mk) = m.black h := by
  unfold Mk.black
  rw [e] at hn ⊢
  have : without (h :: t) h = t := by
    have h1 := (List.nodup_cons.1 hn).1
    show List.filter _ (h :: t) = t
    rw [List.filter_cons_of_neg (by simp)]
    exact without_self h1
  rw [this]
  rfl
theorem Mk.Ok.stepAt (h : m.Ok) {x : Int} {t : List Int} (e : m.list = x :: t) : (m.stepAt x).Ok := by
  unfold Mk.stepAt
  rw [stepAt_shape e h.nd]
  exact Mk.Ok.shades _ _ (h.black (h.usedIn (by rw [e]; simp)))
theorem Mk.Ok.step (h : m.Ok) : m.step.2.2.Ok := by
  unfold Mk.step
  cases e : m.list with
  | nil => exact h
  | cons x t => exact h.stepAt e
theorem Mk.step_M : m.step.2.2.M = m.M := by
  unfold Mk.step
  cases e : m.list with
  | nil => rfl
  | cons x t => exact Mk.shades_M _ _
theorem Mk.Ok.steps (h : m.Ok) (i : Nat) : (m.steps i).Ok ∧ (m.steps i).M = m.M := by
  induction i with
  | zero => exact ⟨h, rfl⟩
  | succ i ih => exact ⟨ih.1.step, Mk.step_M.trans ih.2⟩
def Mk.left (m : Mk) : Nat := cnt (fun k => (m.M.ob ((k : Int) + 1)).isSome && decide (m.col ((k : Int) + 1) ≠ 2)) 192
theorem Mk.left_le : m.left ≤ 192 := cnt_le _ _
theorem Mk.left_step (h : m.Ok) (e : m.list ≠ []) : m.step.2.2.left + 1 = m.left := by
  unfold Mk.step
  cases el : m.list with
  | nil => exact absurd el e
  | cons x t =>
    obtain ⟨h1, h2⟩ := h.inR (x := x) (by rw [el]; simp)
    have hc : m.col x = 1 := (h.gr x).1 (by rw [el]; simp)
    have hu := h.usedIn (x := x) (by rw [el]; simp)
    obtain ⟨k0, hk0, hx⟩ : ∃ k : Nat, k < 192 ∧ x = (k : Int) + 1 := ⟨(x - 1).toNat, by omega, by omega⟩
    show (m.stepAt x).left + 1 = m.left
    have hl : (m.stepAt x).left = cnt (up (fun k => (m.M.ob ((k : Int) + 1)).isSome && decide (m.col ((k : Int) + 1) ≠ 2)) k0 false) 192 := cnt_congr fun j hj => by
      have hM : (m.stepAt x).M = m.M := Mk.shades_M _ _
      rw [hM]
      by_cases ej : j = k0
      · rw [ej, up_same, ← hx]
        have hcc : (m.stepAt x).col x = 2 := by
          rcases Mk.shades_col (m.M.refs x).1 x ⟨m.M, setI m.col x 2, m.list.drop 1⟩ with h3 | ⟨_, _, _, h4, _⟩
          · exact h3.trans (setI_same _ _ _)
          · rw [show (⟨m.M, setI m.col x 2, m.list.drop 1⟩ : Mk).col x = 2 from setI_same _ _ _] at h4; omega
        rw [hcc]; simp
      · rw [up_other _ _ ej]
        have hne : (j : Int) + 1 ≠ x := by omega
        have hcc : (m.stepAt x).col ((j : Int) + 1) = 2 ↔ m.col ((j : Int) + 1) = 2 := by
          have e0 : (⟨m.M, setI m.col x 2, m.list.drop 1⟩ : Mk).col ((j : Int) + 1) = m.col ((j : Int) + 1) := setI_other _ _ hne
          rcases Mk.shades_col (m.M.refs x).1 ((j : Int) + 1) ⟨m.M, setI m.col x 2, m.list.drop 1⟩ with h3 | ⟨_, _, _, h4, h5⟩
          · rw [show (m.stepAt x).col ((j : Int) + 1) = _ from h3, e0]
          · rw [e0] at h4
            rw [show (m.stepAt x).col ((j : Int) + 1) = 1 from h5, h4]
            omega
        congr 1
        rw [decide_eq_decide]
        exact not_congr hcc
    rw [hl]
    exact cnt_clear hk0 (by rw [← hx, hu, hc]; rfl)
theorem Mk.left_steps (h : m.Ok) (i : Nat) (hi : ∀ j, j < i → (m.steps j).list ≠ []) : (m.steps i).left + i = m.left := by
  induction i with
  | zero => rfl
  | succ i ih =>
    have h1 := Mk.left_step (h.steps i).1 (hi i (by omega))
    have h2 := ih (fun j hj => hi j (by omega))
    show (m.steps i).step.2.2.left + (i + 1) = m.left
    omega
theorem Mk.runs_spec (h : m.Ok) : m.run.list = [] ∧ (∀ j, j < m.runs → (m.steps j).list ≠ []) ∧ m.runs ≤ m.left := by
  have hex : ∃ i, (m.steps i).list = [] ∧ ∀ j, j < i → (m.steps j).list ≠ [] := by
    have h0 := fst_spec (fun i => decide ((m.steps i).list = [])) 193
    generalize fst (fun i => decide ((m.steps i).list = [])) 193 = i at h0
    have hb : ∀ j, j < i → (m.steps j).list ≠ [] := fun j hj => of_decide_eq_false (h0.1 j hj)
    have h1 := Mk.left_steps h i hb
    have h2 := Mk.left_le (m := m)
    exact ⟨i, of_decide_eq_true (h0.2 (by omega)), hb⟩
  have he : m.runs = Classical.choose hex := by unfold Mk.runs; rw [dif_pos hex]
  obtain ⟨h3, h4⟩ := Classical.choose_spec hex
  rw [← he] at h3 h4
  have h1 := Mk.left_steps h m.runs h4
  exact ⟨h3, h4, by omega⟩
theorem Mk.runs_eq (h : m.Ok) {i : Nat} (hi : ∀ j, j < i → (m.steps j).list ≠ []) (he : (m.steps i).list = []) : i = m.runs := by
  obtain ⟨h1, h2, _⟩ := Mk.runs_spec h
  rcases Nat.lt_trichotomy i m.runs with h3 | h3 | h3
  · exact absurd he (h2 i h3)
  · exact h3
  · exact absurd h1 (hi _ h3)
theorem refs_some {M : Hp} {o : Th} (ho : M.ob x = some o) : (M.refs x).1 = o.refsL := by unfold Hp.refs; rw [ho]
theorem refs_pos {M : Hp} (hk : M.Ok) {y : Int} (hy : y ∈ (M.refs x).1) : y ≠ 0 ∧ (M.ob y).isSome = true := by
  unfold Hp.refs at hy
  cases e : M.ob x with
  | none => rw [e] at hy; cases hy
  | some o =>
    rw [e] at hy
    have := hk.refTo e hy
    exact ⟨by omega, this.1⟩
end
end Go.Proofs.Ythflghdaejbdkaa
namespace Go.Proofs.Ythflghdaejbdkaa
set_option linter.unusedVariables false
set_option maxRecDepth 100000
set_option maxHeartbeats 1600000
section
variable {m : Mk} {roots : List Int} {x k : Int}
structure RInvM (roots : List Int) (m : Mk) : Prop where
  sound : ∀ k, m.col k ≠ 0 → m.M.Rch roots k
  root : ∀ r, r ∈ roots → r ≠ 0 → m.col r ≠ 0
  blk : ∀ k o, m.col k = 2 → m.M.ob k = some o → ∀ y, y ∈ o.refsL → m.col y ≠ 0
theorem not_bad (h : ¬ m.M.badRoot roots) (hr : x ∈ roots) (h0 : x ≠ 0) : (m.M.ob x).isSome = true := by
  cases e : m.M.ob x with
  | none => exact absurd ⟨x, hr, h0, e⟩ h
  | some o => rfl
theorem RInvM.start {M : Hp} (hM : M.OkF) (hb : ¬ M.badRoot roots) : RInvM roots ((Mk.start M).shades roots) := by
  have hM2 : ((Mk.start M).shades roots).M = M := Mk.shades_M _ _
  refine ⟨fun k hk => ?_, fun r hr h0 => Mk.shades_seen roots r hr h0 _ (not_bad (m := Mk.start M) hb hr h0), fun k o hc => ?_⟩
  · rw [hM2]
    rcases Mk.shades_col roots k (Mk.start M) with h | ⟨h1, h2, _⟩
    · exact absurd h hk
    · exact .root h1 h2
  · rcases Mk.shades_col roots k (Mk.start M) with h | ⟨_, _, _, _, h⟩
    · rw [h] at hc; exact absurd hc (by show ¬ (0 : Int) = 2; decide)
    · rw [h] at hc; cases hc
theorem Mk.step_col (h : m.Ok) {x : Int} {t : List Int} (e : m.list = x :: t) (k : Int) : (m.stepAt x).col k = 2 ∧ k = x ∨ k ≠ x ∧ (m.stepAt x).col k = m.col k ∨ k ≠ x ∧ m.col k = 0 ∧ (m.stepAt x).col k = 1 ∧ k ∈ (m.M.refs x).1 := by
  by_cases ek : k = x
  · left
    rw [ek]
    refine ⟨?_, rfl⟩
    rcases Mk.shades_col (m.M.refs x).1 x ⟨m.M, setI m.col x 2, m.list.drop 1⟩ with h3 | ⟨_, _, _, h4, _⟩
    · exact h3.trans (setI_same _ _ _)
    · rw [show (⟨m.M, setI m.col x 2, m.list.drop 1⟩ : Mk).col x = 2 from setI_same _ _ _] at h4; omega
  · have e0 : (⟨m.M, setI m.col x 2, m.list.drop 1⟩ : Mk).col k = m.col k := setI_other _ _ ek
    rcases Mk.shades_col (m.M.refs x).1 k ⟨m.M, setI m.col x 2, m.list.drop 1⟩ with h3 | ⟨h1, _, _, h4, h5⟩
    · exact .inr (.inl ⟨ek, h3.trans e0⟩)
    · rw [e0] at h4
      exact .inr (.inr ⟨ek, h4, h5, h1⟩)
theorem Mk.stepAt_M (x : Int) : (m.stepAt x).M = m.M := Mk.shades_M _ _
theorem Mk.step_refs (h : m.Ok) {x y : Int} {t : List Int} (e : m.list = x :: t) (hy : y ∈ (m.M.refs x).1) : (m.stepAt x).col y ≠ 0 := by
  obtain ⟨h0, h1⟩ := refs_pos h.hf.ok hy
  exact Mk.shades_seen _ y hy h0 _ h1
theorem RInvM.step (h : m.Ok) (hi : RInvM roots m) : RInvM roots m.step.2.2 := by
  unfold Mk.step
  cases e : m.list with
  | nil => exact hi
  | cons x t =>
    show RInvM roots (m.stepAt x)
    have hM := Mk.stepAt_M (m := m) x
    have hx : m.col x = 1 := (h.gr x).1 (by rw [e]; simp)
    have hkeep : ∀ k, m.col k ≠ 0 → (m.stepAt x).col k ≠ 0 := fun k hk => by
      rcases Mk.step_col h e k with ⟨h1, _⟩ | ⟨_, h1⟩ | ⟨_, h1, _⟩
      · rw [h1]; decide
      · rw [h1]; exact hk
      · exact absurd h1 hk
    refine ⟨fun k hk => ?_, fun r hr h0 => hkeep r (hi.root r hr h0), fun k o hc ho y hy => ?_⟩
    · rw [hM]
      rcases Mk.step_col h e k with ⟨_, h1⟩ | ⟨_, h1⟩ | ⟨_, _, _, h1⟩
      · rw [h1]; exact hi.sound x (by rw [hx]; decide)
      · rw [h1] at hk; exact hi.sound k hk
      · obtain ⟨o, ho⟩ := Option.isSome_iff_exists.1 (h.usedIn (x := x) (by rw [e]; simp))
        rw [refs_some ho] at h1
        exact .step (hi.sound x (by rw [hx]; decide)) ho h1
    · rw [hM] at ho
      rcases Mk.step_col h e k with ⟨_, h1⟩ | ⟨_, h1⟩ | ⟨_, _, h1, _⟩
      · rw [h1] at ho
        exact Mk.step_refs h e (by rw [refs_some ho]; exact hy)
      · rw [h1] at hc
        exact hkeep y (hi.blk k o hc ho y hy)
      · rw [h1] at hc; cases hc
theorem RInvM.steps (h : m.Ok) (hi : RInvM roots m) (i : Nat) : RInvM roots (m.steps i) := by
  induction i with
  | zero => exact hi
  | succ i ih => exact ih.step (h.steps i).1
theorem RInvM.done (h : m.Ok) (hi : RInvM roots m) (he : m.list = []) (k : Int) : (m.col k = 2 ↔ m.M.Rch roots k) ∧ (m.col k ≠ 2 → m.col k = 0) := by
  have hno : ∀ k, m.col k ≠ 0 → m.col k = 2 := fun k hk => by
    rcases h.rg k with h1 | h1 | h1
    · exact absurd h1 hk
    · have := (h.gr k).2 h1; rw [he] at this; cases this
    · exact h1
  refine ⟨⟨fun hc => hi.sound k (by rw [hc]; decide), fun hr => ?_⟩, fun hc => ?_⟩
  · induction hr with
    | root h1 h2 => exact hno _ (hi.root _ h1 h2)
    | step h1 h2 h3 ih => exact hno _ (hi.blk _ _ ih h2 _ h3)
  · cases Decidable.em (m.col k = 0) with
    | inl h1 => exact h1
    | inr h1 => exact absurd (hno k h1) hc
end
section
variable {m : Mk} {K : List Int} {x k : Int}
end
end Go.Proofs.Ythflghdaejbdkaa
