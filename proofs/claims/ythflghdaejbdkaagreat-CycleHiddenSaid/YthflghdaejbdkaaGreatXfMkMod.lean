/- Lemmas of this claim. -/
import Derived.Test.YthflghdaejbdkaaGreatXfOFull
import Derived.Test.YthflghdaejbdkaaGreatXfReach
namespace Go.Proofs.YthflghdaejbdkaaGreat
set_option linter.unusedVariables false
set_option maxRecDepth 100000
def setI (f : Int → Int) (k v : Int) : Int → Int := fun j => if j = k then v else f j
theorem setI_same (f : Int → Int) (k v : Int) : setI f k v k = v := if_pos rfl
theorem setI_other (f : Int → Int) {k j : Int} (v : Int) (h : j ≠ k) : setI f k v j = f j := if_neg h
structure Mk where
  M : Hp
  col : Int → Int
  list : List Int
def Mk.wh (m : Mk) (x : Int) : Bool := decide (x ≠ 0) && (m.M.ob x).isSome && decide (m.col x = 0)
def Mk.shade (m : Mk) (x : Int) : Mk := if m.wh x then ⟨m.M, setI m.col x 1, m.list ++ [x]⟩ else m
def Mk.shades (m : Mk) (l : List Int) : Mk := l.foldl Mk.shade m
def Mk.put (m : Mk) (M : Hp) : Mk := ⟨M, m.col, m.list⟩
def without (l : List Int) (x : Int) : List Int := l.filter (fun y => decide (y ≠ x))
def Mk.black (m : Mk) (x : Int) : Mk := ⟨m.M, setI m.col x 2, without m.list x⟩
def Mk.start (M : Hp) : Mk := ⟨M, fun _ => 0, []⟩
def Mk.next (m : Mk) : Int × Int := match m.list with | [] => (0, 3) | h :: _ => (h, 0)
def Mk.stepAt (m : Mk) (h : Int) : Mk := (⟨m.M, setI m.col h 2, m.list.drop 1⟩ : Mk).shades (m.M.refs h).1
def Mk.step (m : Mk) : Int × Int × Mk := match m.list with | [] => (0, 3, m) | h :: _ => (h, 0, m.stepAt h)
def Mk.store (m : Mk) (h s v : Int) : Int × Mk :=
  let r := m.M.set h s v
  (r.1, if r.1 = 0 ∧ (m.M.isRef h s).1 = true then ((m.put r.2).shade (m.M.get h s).1).shade v else m.put r.2)
def Mk.made (m : Mk) (r : Int × Int × Hp) : Int × Int × Mk := (r.1, r.2.1, if r.2.1 = 0 then (m.put r.2.2).black r.1 else m.put r.2.2)
def Mk.newObject (m : Mk) (c : Int) (l : List Bool) : Int × Int × Mk := m.made (m.M.newObject c l)
def Mk.newArray (m : Mk) (k c n : Int) : Int × Int × Mk := m.made (m.M.newArray k c n)
def Mk.shadeE (m : Mk) (x : Int) : Int := if x ≠ 0 ∧ (m.M.ob x).isSome = false then 3 else 0
def Mk.color (m : Mk) (x : Int) : Int × Int := if (m.M.ob x).isSome then (m.col x, 0) else (0, 3)
def Mk.white (m : Mk) : List Int := m.M.handles.filter (fun x => decide (m.col x = 0))
structure Mk.Ok (m : Mk) : Prop where
  hf : m.M.OkF
  rg : ∀ k, m.col k = 0 ∨ m.col k = 1 ∨ m.col k = 2
  us : ∀ k, m.col k ≠ 0 → (m.M.ob k).isSome = true
  nd : m.list.Nodup
  gr : ∀ k, k ∈ m.list ↔ m.col k = 1
section
variable {m : Mk} {x : Int}
theorem Hp.Ok.inR {M : Hp} (hk : M.Ok) (h : (M.ob x).isSome = true) : 1 ≤ x ∧ x ≤ 192 := by
  obtain ⟨o, ho⟩ := Option.isSome_iff_exists.1 h
  exact hk.hr x o ho
theorem Mk.wh_iff : m.wh x = true ↔ x ≠ 0 ∧ (m.M.ob x).isSome = true ∧ m.col x = 0 := by
  unfold Mk.wh; simp [and_assoc]
theorem Mk.Ok.usedIn (h : m.Ok) (hx : x ∈ m.list) : (m.M.ob x).isSome = true := h.us x (by rw [(h.gr x).1 hx]; decide)
theorem Mk.Ok.inR (h : m.Ok) (hx : x ∈ m.list) : 1 ≤ x ∧ x ≤ 192 := h.hf.ok.inR (h.usedIn hx)
theorem nodup_le {l : List Int} (hn : l.Nodup) (hr : ∀ x ∈ l, 1 ≤ x ∧ x ≤ 192) : l.length ≤ 192 := by
  have h : (l.map Int.toNat).Nodup := by
    rw [List.nodup_iff_pairwise_ne, List.pairwise_map]
    rw [List.nodup_iff_pairwise_ne] at hn
    refine hn.imp_of_mem ?_
    intro a b ha hb hne e
    have := hr a ha; have := hr b hb; exact hne (by omega)
  have h2 : (l.map Int.toNat) ⊆ List.range 193 := by
    intro y hy
    obtain ⟨a, ha, rfl⟩ := List.mem_map.1 hy
    have := hr a ha
    rw [List.mem_range]; omega
  have h3 : 0 ∉ l.map Int.toNat := by
    intro hy
    obtain ⟨a, ha, e⟩ := List.mem_map.1 hy
    have := hr a ha
    omega
  have h4 : (0 :: l.map Int.toNat).Nodup := List.nodup_cons.2 ⟨h3, h⟩
  have h5 : (0 :: l.map Int.toNat) ⊆ List.range 193 := List.cons_subset.2 ⟨by simp, h2⟩
  have h6 := (nodup_len h4 (l2 := List.range 193) (fun x hx => h5 hx)).1
  simp at h6
  omega
theorem Mk.Ok.len (h : m.Ok) : m.list.length ≤ 192 := nodup_le h.nd (fun x hx => h.inR hx)
theorem Mk.Ok.shade (h : m.Ok) (x : Int) : (m.shade x).Ok := by
  unfold Mk.shade
  split
  · rename_i hw
    obtain ⟨h1, h2, h3⟩ := Mk.wh_iff.1 hw
    refine ⟨h.hf, fun k => ?_, fun k hk => ?_, ?_, fun k => ?_⟩
    · show setI m.col x 1 k = 0 ∨ setI m.col x 1 k = 1 ∨ setI m.col x 1 k = 2
      by_cases e : k = x
      · rw [e, setI_same]; exact .inr (.inl rfl)
      · rw [setI_other _ _ e]; exact h.rg k
    · have hk2 : setI m.col x 1 k ≠ 0 := hk
      by_cases e : k = x
      · rw [e]; exact h2
      · rw [setI_other _ _ e] at hk2; exact h.us k hk2
    · show (m.list ++ [x]).Nodup
      rw [List.nodup_append]
      refine ⟨h.nd, by simp, fun a ha b hb e => ?_⟩
      simp at hb
      rw [e, hb] at ha
      have := (h.gr x).1 ha
      omega
    · show k ∈ m.list ++ [x] ↔ setI m.col x 1 k = 1
      rw [List.mem_append]
      by_cases e : k = x
      · rw [e, setI_same]; simp
      · rw [setI_other _ _ e, h.gr k]; simp [e]
  · exact h
theorem Mk.shade_M : (m.shade x).M = m.M := by unfold Mk.shade; split <;> rfl
theorem Mk.shades_M (l : List Int) : ∀ m : Mk, (m.shades l).M = m.M := by
  induction l with
  | nil => intro m; rfl
  | cons a l ih => intro m; exact (ih (m.shade a)).trans Mk.shade_M
theorem Mk.Ok.shades (l : List Int) : ∀ m : Mk, m.Ok → (m.shades l).Ok := by
  induction l with
  | nil => intro m h; exact h
  | cons a l ih => intro m h; exact ih _ (h.shade a)
theorem Mk.shade_col (k : Int) : (m.shade x).col k = m.col k ∨ (k = x ∧ m.wh x = true ∧ m.col k = 0 ∧ (m.shade x).col k = 1) := by
  unfold Mk.shade
  split
  · rename_i hw
    show setI m.col x 1 k = m.col k ∨ _
    by_cases e : k = x
    · exact .inr ⟨e, hw, by rw [e]; exact (Mk.wh_iff.1 hw).2.2, by rw [e]; exact setI_same _ _ _⟩
    · exact .inl (setI_other _ _ e)
  · exact .inl rfl
theorem Mk.shades_col (l : List Int) (k : Int) : ∀ m : Mk, (m.shades l).col k = m.col k ∨ (k ∈ l ∧ k ≠ 0 ∧ (m.M.ob k).isSome = true ∧ m.col k = 0 ∧ (m.shades l).col k = 1) := by
  induction l with
  | nil => intro m; exact .inl rfl
  | cons a l ih =>
    intro m
    have h1 := ih (m.shade a)
    show ((m.shade a).shades l).col k = _ ∨ (_ ∧ _ ∧ _ ∧ _ ∧ ((m.shade a).shades l).col k = 1)
    rcases Mk.shade_col (m := m) (x := a) k with h2 | ⟨h2, h3, h4, h5⟩
    · rw [h2] at h1
      rw [Mk.shade_M] at h1
      rcases h1 with h1 | ⟨h1, h6, h7, h8, h9⟩
      · exact .inl h1
      · exact .inr ⟨List.mem_cons_of_mem _ h1, h6, h7, h8, h9⟩
    · rcases h1 with h1 | ⟨_, _, _, h8, _⟩
      · obtain ⟨w1, w2, w3⟩ := Mk.wh_iff.1 h3
        exact .inr ⟨by rw [h2]; exact List.mem_cons_self, by rw [h2]; exact w1, by rw [h2]; exact w2, h4, by rw [h1, h5]⟩
      · omega
theorem Mk.shades_seen (l : List Int) (k : Int) (hk : k ∈ l) (h0 : k ≠ 0) : ∀ m : Mk, (m.M.ob k).isSome = true → (m.shades l).col k ≠ 0 := by
  induction l with
  | nil => cases hk
  | cons a l ih =>
    intro m hs
    by_cases e : k ∈ l
    · exact ih e (m.shade a) (by rw [Mk.shade_M]; exact hs)
    · have e2 : k = a := by rcases List.mem_cons.1 hk with h | h; exact h; exact absurd h e
      have h1 : (m.shade a).col k ≠ 0 := by
        by_cases hc : m.col k = 0
        · have hw : m.wh a = true := Mk.wh_iff.2 ⟨by rw [← e2]; exact h0, by rw [← e2]; exact hs, by rw [← e2]; exact hc⟩
          unfold Mk.shade
          rw [if_pos hw]
          show setI m.col a 1 k ≠ 0
          rw [e2, setI_same]; decide
        · rcases Mk.shade_col (m := m) (x := a) k with h2 | ⟨_, _, h4, _⟩
          · rw [h2]; exact hc
          · exact absurd h4 hc
      rcases Mk.shades_col l k (m.shade a) with h3 | ⟨h3, _⟩
      · show ((m.shade a).shades l).col k ≠ 0
        rw [h3]; exact h1
      · exact absurd h3 e
theorem mem_without {l : List Int} {k : Int} : k ∈ without l x ↔ k ∈ l ∧ k ≠ x := by unfold without; simp
theorem without_self {l : List Int} (h : x ∉ l) : without l x = l := by
  unfold without
  rw [List.filter_eq_self]
  intro a ha
  simp
  intro e
  exact h (by rw [← e]; exact ha)
theorem without_nodup {l : List Int} (h : l.Nodup) : (without l x).Nodup := h.filter _
theorem Mk.Ok.black (h : m.Ok) (hx : (m.M.ob x).isSome = true) : (m.black x).Ok := by
  refine ⟨h.hf, fun k => ?_, fun k hk => ?_, without_nodup h.nd, fun k => ?_⟩
  · show setI m.col x 2 k = 0 ∨ setI m.col x 2 k = 1 ∨ setI m.col x 2 k = 2
    by_cases e : k = x
    · rw [e, setI_same]; exact .inr (.inr rfl)
    · rw [setI_other _ _ e]; exact h.rg k
  · have hk2 : setI m.col x 2 k ≠ 0 := hk
    by_cases e : k = x
    · rw [e]; exact hx
    · rw [setI_other _ _ e] at hk2; exact h.us k hk2
  · show k ∈ without m.list x ↔ setI m.col x 2 k = 1
    rw [mem_without]
    by_cases e : k = x
    · rw [e, setI_same]; simp
    · rw [setI_other _ _ e, h.gr k]; simp [e]
theorem Mk.Ok.start {M : Hp} (h : M.OkF) : (Mk.start M).Ok := ⟨h, fun _ => .inl rfl, fun k hk => absurd rfl hk, by simp [Mk.start], fun k => by simp [Mk.start]⟩
theorem Mk.Ok.put (h : m.Ok) {M : Hp} (hM : M.OkF) (hu : ∀ k, (m.M.ob k).isSome = true → (M.ob k).isSome = true) : (m.put M).Ok :=
  ⟨hM, h.rg, fun k hk => hu k (h.us k hk), h.nd, h.gr⟩
theorem stepAt_shape {h : Int} {t : List Int} (e : m.list = h :: t) (hn : m.list.Nodup) : (⟨m.M, setI m.col h 2, m.list.drop 1⟩ : Mk) = m.black h := by
  unfold Mk.black
  rw [e] at hn ⊢
  have : without (h :: t) h = t := by
    have h1 := (List.nodup_cons.1 hn).1
    show List.filter _ (h :: t) = t
    rw [List.filter_cons_of_neg (by simp)]
    exact without_self h1
  rw [this]
  rfl
theorem Mk.Ok.stepAt (h : m.Ok) {x : Int} {t : List Int} (e : m.list = x :: t) : (m.stepAt x).Ok := by
  unfold Mk.stepAt
  rw [stepAt_shape e h.nd]
  exact Mk.Ok.shades _ _ (h.black (h.usedIn (by rw [e]; simp)))
theorem Mk.Ok.step (h : m.Ok) : m.step.2.2.Ok := by
  unfold Mk.step
  cases e : m.list with
  | nil => exact h
  | cons x t => exact h.stepAt e
theorem Mk.step_M : m.step.2.2.M = m.M := by
  unfold Mk.step
  cases e : m.list with
  | nil => rfl
  | cons x t => exact Mk.shades_M _ _
def Mk.left (m : Mk) : Nat := cnt (fun k => (m.M.ob ((k : Int) + 1)).isSome && decide (m.col ((k : Int) + 1) ≠ 2)) 192
theorem Mk.left_le : m.left ≤ 192 := cnt_le _ _
theorem Mk.left_step (h : m.Ok) (e : m.list ≠ []) : m.step.2.2.left + 1 = m.left := by
  unfold Mk.step
  cases el : m.list with
  | nil => exact absurd el e
  | cons x t =>
    obtain ⟨h1, h2⟩ := h.inR (x := x) (by rw [el]; simp)
    have hc : m.col x = 1 := (h.gr x).1 (by rw [el]; simp)
    have hu := h.usedIn (x := x) (by rw [el]; simp)
    obtain ⟨k0, hk0, hx⟩ : ∃ k : Nat, k < 192 ∧ x = (k : Int) + 1 := ⟨(x - 1).toNat, by omega, by omega⟩
    show (m.stepAt x).left + 1 = m.left
    have hl : (m.stepAt x).left = cnt (up (fun k => (m.M.ob ((k : Int) + 1)).isSome && decide (m.col ((k : Int) + 1) ≠ 2)) k0 false) 192 := cnt_congr fun j hj => by
      have hM : (m.stepAt x).M = m.M := Mk.shades_M _ _
      rw [hM]
      by_cases ej : j = k0
      · rw [ej, up_same, ← hx]
        have hcc : (m.stepAt x).col x = 2 := by
          rcases Mk.shades_col (m.M.refs x).1 x ⟨m.M, setI m.col x 2, m.list.drop 1⟩ with h3 | ⟨_, _, _, h4, _⟩
          · exact h3.trans (setI_same _ _ _)
          · rw [show (⟨m.M, setI m.col x 2, m.list.drop 1⟩ : Mk).col x = 2 from setI_same _ _ _] at h4; omega
        rw [hcc]; simp
      · rw [up_other _ _ ej]
        have hne : (j : Int) + 1 ≠ x := by omega
        have hcc : (m.stepAt x).col ((j : Int) + 1) = 2 ↔ m.col ((j : Int) + 1) = 2 := by
          have e0 : (⟨m.M, setI m.col x 2, m.list.drop 1⟩ : Mk).col ((j : Int) + 1) = m.col ((j : Int) + 1) := setI_other _ _ hne
          rcases Mk.shades_col (m.M.refs x).1 ((j : Int) + 1) ⟨m.M, setI m.col x 2, m.list.drop 1⟩ with h3 | ⟨_, _, _, h4, h5⟩
          · rw [show (m.stepAt x).col ((j : Int) + 1) = _ from h3, e0]
          · rw [e0] at h4
            rw [show (m.stepAt x).col ((j : Int) + 1) = 1 from h5, h4]
            omega
        congr 1
        rw [decide_eq_decide]
        exact not_congr hcc
    rw [hl]
    exact cnt_clear hk0 (by rw [← hx, hu, hc]; rfl)
theorem Hp.set_some (M : Hp) (h s v k : Int) : ((M.set h s v).2.ob k).isSome = (M.ob k).isSome := by
  unfold Hp.set
  cases e : M.ob h with
  | none => rfl
  | some o =>
    simp only
    split
    · rfl
    · split
      · show (setT M.ob h _ k).isSome = _
        by_cases ek : k = h
        · rw [ek, setT_same, e]; rfl
        · rw [setT_other _ _ ek]
      · rfl
theorem Hp.add_facts (M : Hp) (o : Th) : (∀ k, (M.ob k).isSome = true → (M.add o).2.2.ob k = M.ob k) ∧ ((M.add o).2.1 = 0 → M.ob (M.add o).1 = none ∧ ∃ bs, (M.add o).2.2.ob (M.add o).1 = some { o with blocks := bs } ∧ ∀ k, k ≠ (M.add o).1 → (M.add o).2.2.ob k = M.ob k) ∧ ((M.add o).2.1 ≠ 0 → (M.add o).2.2 = M ∧ (M.add o).1 = 0) := by
  unfold Hp.add
  split
  · rename_i hl
    have hn := M.least_spec hl
    cases e : allocN M.P (needs o.slots.length) (needs o.slots.length).length with
    | none => exact ⟨fun _ _ => rfl, fun h => absurd (show (14 : Int) = 0 from h) (by decide), fun _ => ⟨rfl, rfl⟩⟩
    | some r =>
      obtain ⟨bs, Q⟩ := r
      simp only
      refine ⟨fun k hk => ?_, fun _ => ⟨hn, bs, setT_same _ _ _, fun k hk => setT_other _ _ hk⟩, fun h => absurd rfl h⟩
      exact setT_other _ _ (fun e2 => by rw [e2, hn] at hk; cases hk)
  · exact ⟨fun _ _ => rfl, fun h => absurd (show (14 : Int) = 0 from h) (by decide), fun _ => ⟨rfl, rfl⟩⟩
structure NewOf (M : Hp) (r : Int × Int × Hp) : Prop where
  ok : M.OkF → r.2.2.OkF
  old : ∀ k, (M.ob k).isSome = true → r.2.2.ob k = M.ob k
  no : r.2.1 ≠ 0 → r.2.2 = M ∧ r.1 = 0
  yes : r.2.1 = 0 → M.ob r.1 = none ∧ (∀ k, k ≠ r.1 → r.2.2.ob k = M.ob k) ∧ ∃ o, r.2.2.ob r.1 = some o ∧ ∀ s, gI o.slots s = 0
theorem NewOf.add (M : Hp) {o : Th} (ho : o.ok1) (hz : ∀ s, gI o.slots s = 0) : NewOf M (M.add o) := by
  obtain ⟨h1, h2, h3⟩ := M.add_facts o
  exact ⟨fun h => h.add ho hz, h1, h3, fun e => by
    obtain ⟨a, bs, b, c⟩ := h2 e
    exact ⟨a, c, _, b, hz⟩⟩
theorem NewOf.none (M : Hp) {e : Int} (he : e ≠ 0) : NewOf M (0, e, M) := ⟨id, fun _ _ => rfl, fun _ => ⟨rfl, rfl⟩, fun h => absurd h he⟩
theorem Hp.newObject_new (M : Hp) (c : Int) (l : List Bool) : NewOf M (M.newObject c l) := by
  unfold Hp.newObject
  split
  · exact NewOf.none M (by decide)
  · rename_i hc; exact NewOf.add M (objT_ok hc).1 (objT_ok hc).2
theorem Hp.newArray_new (M : Hp) (k c n : Int) : NewOf M (M.newArray k c n) := by
  unfold Hp.newArray
  split
  · exact NewOf.none M (by decide)
  · rename_i hc
    split
    · rename_i hd; exact NewOf.add M (arrT_ok hc hd).1 (arrT_ok hc hd).2
    · exact NewOf.none M (by decide)
theorem Mk.Ok.made (h : m.Ok) {r : Int × Int × Hp} (hr : NewOf m.M r) : (m.made r).2.2.Ok := by
  have h1 : (m.put r.2.2).Ok := h.put (hr.ok h.hf) (fun k hk => by rw [hr.old k hk]; exact hk)
  unfold Mk.made
  split
  · rename_i e
    obtain ⟨_, _, o, ho, _⟩ := hr.yes e
    exact h1.black (by show (r.2.2.ob r.1).isSome = true; rw [ho]; rfl)
  · exact h1
theorem Mk.Ok.newObject (h : m.Ok) (c : Int) (l : List Bool) : (m.newObject c l).2.2.Ok := h.made (m.M.newObject_new c l)
theorem Mk.Ok.newArray (h : m.Ok) (k c n : Int) : (m.newArray k c n).2.2.Ok := h.made (m.M.newArray_new k c n)
theorem Mk.Ok.store (h : m.Ok) (a s v : Int) : (m.store a s v).2.Ok := by
  have h1 : (m.put (m.M.set a s v).2).Ok := h.put (h.hf.set a s v) (fun k hk => by rw [Hp.set_some]; exact hk)
  unfold Mk.store
  simp only
  split
  · exact (h1.shade _).shade _
  · exact h1
theorem refs_some {M : Hp} {o : Th} (ho : M.ob x = some o) : (M.refs x).1 = o.refsL := by unfold Hp.refs; rw [ho]
theorem refs_pos {M : Hp} (hk : M.Ok) {y : Int} (hy : y ∈ (M.refs x).1) : y ≠ 0 ∧ (M.ob y).isSome = true := by
  unfold Hp.refs at hy
  cases e : M.ob x with
  | none => rw [e] at hy; cases hy
  | some o =>
    rw [e] at hy
    have := hk.refTo e hy
    exact ⟨by omega, this.1⟩
end
end Go.Proofs.YthflghdaejbdkaaGreat
namespace Go.Proofs.YthflghdaejbdkaaGreat
set_option linter.unusedVariables false
set_option maxRecDepth 100000
set_option maxHeartbeats 1600000
section
variable {m : Mk} {roots : List Int} {x k : Int}
structure RInvM (roots : List Int) (m : Mk) : Prop where
  sound : ∀ k, m.col k ≠ 0 → m.M.Rch roots k
  root : ∀ r, r ∈ roots → r ≠ 0 → m.col r ≠ 0
  blk : ∀ k o, m.col k = 2 → m.M.ob k = some o → ∀ y, y ∈ o.refsL → m.col y ≠ 0
theorem not_bad (h : ¬ m.M.badRoot roots) (hr : x ∈ roots) (h0 : x ≠ 0) : (m.M.ob x).isSome = true := by
  cases e : m.M.ob x with
  | none => exact absurd ⟨x, hr, h0, e⟩ h
  | some o => rfl
theorem Mk.step_col (h : m.Ok) {x : Int} {t : List Int} (e : m.list = x :: t) (k : Int) : (m.stepAt x).col k = 2 ∧ k = x ∨ k ≠ x ∧ (m.stepAt x).col k = m.col k ∨ k ≠ x ∧ m.col k = 0 ∧ (m.stepAt x).col k = 1 ∧ k ∈ (m.M.refs x).1 := by
  by_cases ek : k = x
  · left
    rw [ek]
    refine ⟨?_, rfl⟩
    rcases Mk.shades_col (m.M.refs x).1 x ⟨m.M, setI m.col x 2, m.list.drop 1⟩ with h3 | ⟨_, _, _, h4, _⟩
    · exact h3.trans (setI_same _ _ _)
    · rw [show (⟨m.M, setI m.col x 2, m.list.drop 1⟩ : Mk).col x = 2 from setI_same _ _ _] at h4; omega
  · have e0 : (⟨m.M, setI m.col x 2, m.list.drop 1⟩ : Mk).col k = m.col k := setI_other _ _ ek
    rcases Mk.shades_col (m.M.refs x).1 k ⟨m.M, setI m.col x 2, m.list.drop 1⟩ with h3 | ⟨h1, _, _, h4, h5⟩
    · exact .inr (.inl ⟨ek, h3.trans e0⟩)
    · rw [e0] at h4
      exact .inr (.inr ⟨ek, h4, h5, h1⟩)
theorem Mk.stepAt_M (x : Int) : (m.stepAt x).M = m.M := Mk.shades_M _ _
theorem Mk.step_refs (h : m.Ok) {x y : Int} {t : List Int} (e : m.list = x :: t) (hy : y ∈ (m.M.refs x).1) : (m.stepAt x).col y ≠ 0 := by
  obtain ⟨h0, h1⟩ := refs_pos h.hf.ok hy
  exact Mk.shades_seen _ y hy h0 _ h1
theorem RInvM.done (h : m.Ok) (hi : RInvM roots m) (he : m.list = []) (k : Int) : (m.col k = 2 ↔ m.M.Rch roots k) ∧ (m.col k ≠ 2 → m.col k = 0) := by
  have hno : ∀ k, m.col k ≠ 0 → m.col k = 2 := fun k hk => by
    rcases h.rg k with h1 | h1 | h1
    · exact absurd h1 hk
    · have := (h.gr k).2 h1; rw [he] at this; cases this
    · exact h1
  refine ⟨⟨fun hc => hi.sound k (by rw [hc]; decide), fun hr => ?_⟩, fun hc => ?_⟩
  · induction hr with
    | root h1 h2 => exact hno _ (hi.root _ h1 h2)
    | step h1 h2 h3 ih => exact hno _ (hi.blk _ _ ih h2 _ h3)
  · cases Decidable.em (m.col k = 0) with
    | inl h1 => exact h1
    | inr h1 => exact absurd (hno k h1) hc
def Mk.used (m : Mk) : Nat := cnt (fun k => (m.M.ob ((k : Int) + 1)).isSome) 192
theorem handlesN_cnt (M : Hp) (k : Nat) : (M.handlesN k).length = cnt (fun j => (M.ob ((j : Int) + 1)).isSome) k := by
  induction k with
  | zero => rfl
  | succ k ih =>
    unfold Hp.handlesN cnt
    rw [List.length_append, ih]
    split <;> rfl
theorem Mk.used_len (m : Mk) : m.used = m.M.handles.length := (handlesN_cnt m.M 192).symm
end
inductive WP (m : Mk) : Int → Prop
  | base {x : Int} : m.col x = 1 → WP m x
  | step {x y : Int} {o : Th} : WP m x → m.col x ≠ 2 → m.M.ob x = some o → y ∈ o.refsL → WP m y
def Cov (m : Mk) (k : Int) : Prop := m.col k = 2 ∨ WP m k
section
variable {m : Mk} {K : List Int} {x k : Int}
theorem WP.used (h : m.Ok) (hw : WP m k) : (m.M.ob k).isSome = true := by
  cases hw with
  | base h1 => exact h.us k (by rw [h1]; decide)
  | step _ _ h1 h2 => exact (h.hf.ok.refTo h1 h2).1
theorem cov_of (h : m.Ok) (hk : m.col k ≠ 0) : Cov m k := by
  rcases h.rg k with h1 | h1 | h1
  · exact absurd h1 hk
  · exact .inr (.base h1)
  · exact .inl h1
theorem Cov.step (h : m.Ok) (hc : Cov m k) : Cov m.step.2.2 k := by
  unfold Mk.step
  cases e : m.list with
  | nil => exact hc
  | cons x t =>
    show Cov (m.stepAt x) k
    have hok := h.stepAt e
    have hM := Mk.stepAt_M (m := m) x
    have hx : m.col x = 1 := (h.gr x).1 (by rw [e]; simp)
    have hkeep : ∀ k, m.col k ≠ 0 → (m.stepAt x).col k ≠ 0 := fun k hk => by
      rcases Mk.step_col h e k with ⟨h1, _⟩ | ⟨_, h1⟩ | ⟨_, h1, _⟩
      · rw [h1]; decide
      · rw [h1]; exact hk
      · exact absurd h1 hk
    rcases hc with hc | hc
    · exact cov_of hok (hkeep k (by rw [hc]; decide))
    · induction hc with
      | base h1 => exact cov_of hok (hkeep _ (by rw [h1]; decide))
      | step h1 h2 h3 h4 ih =>
        rename_i z y o
        by_cases e2 : (m.stepAt x).col z = 2
        · have ez : z = x := by
            rcases Mk.step_col h e z with ⟨_, h5⟩ | ⟨_, h5⟩ | ⟨_, _, h5, _⟩
            · exact h5
            · rw [h5] at e2; exact absurd e2 h2
            · rw [h5] at e2; cases e2
          rw [ez] at h3
          exact cov_of hok (Mk.step_refs h e (by rw [refs_some h3]; exact h4))
        · rcases ih with ih | ih
          · exact absurd ih e2
          · exact .inr (.step ih e2 (by rw [hM]; exact h3) h4)
theorem Cov.end (h : m.Ok) (he : m.list = []) (hc : Cov m k) : m.col k = 2 := by
  rcases hc with hc | hc
  · exact hc
  · exfalso
    induction hc with
    | base h1 => have := (h.gr _).2 h1; rw [he] at this; cases this
    | step _ _ _ _ ih => exact ih
theorem Cov.made (h : m.Ok) {r : Int × Int × Hp} (hr : NewOf m.M r) (hc : Cov m k) : Cov (m.made r).2.2 k := by
  have hok := h.made hr
  unfold Mk.made at hok ⊢
  simp only at hok ⊢
  by_cases e : r.2.1 = 0
  · rw [if_pos e] at hok ⊢
    obtain ⟨hno, hold, o, ho, hz⟩ := hr.yes e
    have hcol : ∀ k, (m.M.ob k).isSome = true → ((m.put r.2.2).black r.1).col k = m.col k := fun k hk => setI_other _ _ (fun e2 => by rw [e2, hno] at hk; cases hk)
    rcases hc with hc | hc
    · exact .inl ((hcol k (h.us k (by rw [hc]; decide))).trans hc)
    · induction hc with
      | base h1 => exact .inr (.base ((hcol _ (h.us _ (by rw [h1]; decide))).trans h1))
      | step h1 h2 h3 h4 ih =>
        rename_i z y o
        have hz1 := h1.used h
        rcases ih with ih | ih
        · rw [hcol z hz1] at ih; exact absurd ih h2
        · exact .inr (.step ih (by rw [hcol z hz1]; exact h2) (show r.2.2.ob z = some o by rw [hr.old z hz1]; exact h3) h4)
  · rw [if_neg e]
    have := (hr.no e).1
    rw [this]
    exact hc
theorem refs_put {o : Th} {s : Nat} {v y : Int} (hy : y ∈ o.refsL) (hs : s < o.slots.length) : y ∈ (o.put s v).refsL ∨ (gB o.refs s = true ∧ gI o.slots s = y) := by
  obtain ⟨j, h1, h2, h3, h4⟩ := Th.of_mem_refsN hy
  by_cases e : j = s
  · exact .inr ⟨by rw [← e]; exact h2, by rw [← e]; exact h3⟩
  · left
    have h5 : gI (o.put s v).slots j = y := by
      show gI (o.slots.set s v) j = y
      rw [gI_set hs, if_neg e]; exact h3
    have h6 := Th.mem_refsN (o := o.put s v) (k := (o.put s v).slots.length) (s := j) (by show j < (o.slots.set s v).length; rw [List.length_set]; exact h1) h2 (by rw [h5]; exact h4)
    rw [h5] at h6
    exact h6
theorem set_cases (M : Hp) (a s v : Int) : ((M.set a s v).1 ≠ 0 ∧ (M.set a s v).2 = M) ∨ ∃ o, ∃ j : Nat, s = (j : Int) ∧ M.ob a = some o ∧ j < o.slots.length ∧ M.fits (gB o.refs j) v = true ∧ (M.set a s v).1 = 0 ∧ (M.set a s v).2.ob = setT M.ob a (some (o.put j v)) ∧ (M.isRef a s).1 = gB o.refs j ∧ (M.get a s).1 = gI o.slots j := by
  unfold Hp.set Hp.isRef Hp.get
  cases e : M.ob a with
  | none => exact .inl ⟨show (3 : Int) ≠ 0 by decide, rfl⟩
  | some o =>
    simp only
    by_cases h : s < 0 ∨ (o.slots.length : Int) ≤ s
    · rw [if_pos h]; exact .inl ⟨show (1 : Int) ≠ 0 by decide, rfl⟩
    · rw [if_neg h, if_neg h, if_neg h]
      by_cases hf : M.fits (gB o.refs s.toNat) v = true
      · rw [if_pos hf]
        exact .inr ⟨o, s.toNat, by omega, rfl, by omega, hf, rfl, rfl, rfl, rfl⟩
      · rw [if_neg hf]
        exact .inl ⟨show (1 : Int) ≠ 0 by decide, rfl⟩
theorem Cov.store (h : m.Ok) (a s v : Int) (hc : Cov m k) : Cov (m.store a s v).2 k := by
  have hok := h.store a s v
  unfold Mk.store at hok ⊢
  simp only at hok ⊢
  rcases set_cases m.M a s v with ⟨h1, h2⟩ | ⟨o, j, hs, ho, hj, hfit, h1, h2, h3, h4⟩
  · rw [if_neg (fun x => h1 x.1), h2]; exact hc
  · rw [h3, h4] at hok ⊢
    by_cases hr : gB o.refs j = true
    · rw [if_pos ⟨h1, hr⟩] at hok ⊢
      have hcol : ∀ k, m.col k ≠ 0 → (((m.put (m.M.set a s v).2).shade (gI o.slots j)).shade v).col k = m.col k := fun k hk => by
        rcases Mk.shade_col (m := (m.put (m.M.set a s v).2).shade (gI o.slots j)) (x := v) k with h5 | ⟨_, _, h5, _⟩
        · rw [h5]
          rcases Mk.shade_col (m := m.put (m.M.set a s v).2) (x := gI o.slots j) k with h6 | ⟨_, _, h6, _⟩
          · exact h6
          · exact absurd h6 hk
        · rcases Mk.shade_col (m := m.put (m.M.set a s v).2) (x := gI o.slots j) k with h6 | ⟨_, _, h6, _⟩
          · rw [h6] at h5; exact absurd h5 hk
          · exact absurd h6 hk
      have hM2 : (((m.put (m.M.set a s v).2).shade (gI o.slots j)).shade v).M = (m.M.set a s v).2 := Mk.shade_M.trans Mk.shade_M
      rcases hc with hc | hc
      · exact .inl ((hcol k (by rw [hc]; decide)).trans hc)
      · induction hc with
        | base h5 => exact .inr (.base ((hcol _ (by rw [h5]; decide)).trans h5))
        | step h5 h6 h7 h8 ih =>
          rename_i z y o2
          have hnb : (((m.put (m.M.set a s v).2).shade (gI o.slots j)).shade v).col z ≠ 2 := by
            by_cases h9 : m.col z = 0
            · rcases Mk.shade_col (m := (m.put (m.M.set a s v).2).shade (gI o.slots j)) (x := v) z with h10 | ⟨_, _, _, h10⟩
              · rw [h10]
                rcases Mk.shade_col (m := m.put (m.M.set a s v).2) (x := gI o.slots j) z with h11 | ⟨_, _, _, h11⟩
                · rw [h11]; show m.col z ≠ 2; rw [h9]; decide
                · rw [h11]; decide
              · rw [h10]; decide
            · rw [hcol z h9]; exact h6
          rcases ih with ih | ih
          · exact absurd ih hnb
          · by_cases ez : z = a
            · rw [ez, ho] at h7
              cases h7
              rcases refs_put (v := v) h8 hj with h9 | ⟨_, h9⟩
              · exact .inr (.step ih hnb (by rw [hM2, h2, ez]; exact setT_same _ _ _) h9)
              · have hy := h.hf.ok.refTo ho h8
                refine cov_of hok ?_
                have h10 : ((m.put (m.M.set a s v).2).shade (gI o.slots j)).col y ≠ 0 := by
                  rw [h9]
                  have h11 := Mk.shades_seen [y] y (by simp) (by omega) (m.put (m.M.set a s v).2) (by show (((m.M.set a s v).2).ob y).isSome = true; rw [Hp.set_some]; exact hy.1)
                  exact h11
                rcases Mk.shade_col (m := (m.put (m.M.set a s v).2).shade (gI o.slots j)) (x := v) y with h12 | ⟨_, _, h12, _⟩
                · rw [h12]; exact h10
                · exact absurd h12 h10
            · exact .inr (.step ih hnb (by rw [hM2, h2, setT_other _ _ ez]; exact h7) h8)
    · rw [if_neg (fun x => hr x.2)] at hok ⊢
      rcases hc with hc | hc
      · exact .inl hc
      · induction hc with
        | base h5 => exact .inr (.base h5)
        | step h5 h6 h7 h8 ih =>
          rename_i z y o2
          rcases ih with ih | ih
          · exact absurd ih h6
          · by_cases ez : z = a
            · rw [ez, ho] at h7
              cases h7
              rcases refs_put (v := v) h8 hj with h9 | ⟨h9, _⟩
              · exact .inr (.step ih h6 (show ((m.M.set a s v).2).ob z = _ by rw [h2, ez]; exact setT_same _ _ _) h9)
              · exact absurd h9 hr
            · exact .inr (.step ih h6 (show ((m.M.set a s v).2).ob z = some o2 by rw [h2, setT_other _ _ ez]; exact h7) h8)
structure Snap (K : List Int) (m : Mk) : Prop where
  ok : m.Ok
  us : ∀ k, k ∈ K → (m.M.ob k).isSome = true
  cov : ∀ k, k ∈ K → Cov m k
  cl : ∀ k o, k ∈ K → m.M.ob k = some o → ∀ y, y ∈ o.refsL → y ∈ K
theorem Snap.start {M : Hp} {roots : List Int} (hM : M.OkF) (hb : ¬ M.badRoot roots) : Snap (M.reachL roots) ((Mk.start M).shades roots) := by
  have h0 : ((Mk.start M).shades roots).Ok := Mk.Ok.shades _ _ (Mk.Ok.start hM)
  have hM0 : ((Mk.start M).shades roots).M = M := Mk.shades_M _ _
  have hcol : ∀ k, ((Mk.start M).shades roots).col k ≠ 2 := fun k hc => by
    rcases Mk.shades_col roots k (Mk.start M) with h | ⟨_, _, _, _, h⟩
    · rw [h] at hc; exact absurd hc (by show ¬ (0 : Int) = 2; decide)
    · rw [h] at hc; cases hc
  refine ⟨h0, fun k hk => ?_, fun k hk => ?_, fun k o hk ho y hy => ?_⟩
  · rw [hM0]; exact (((hM.ok.mem_reach hb).1 hk).some hM.ok hb).1
  · have hr := (hM.ok.mem_reach hb).1 hk
    clear hk
    right
    induction hr with
    | root h1 h2 =>
      rename_i r
      have h3 : ((Mk.start M).M.ob r).isSome = true := not_bad (m := Mk.start M) hb h1 h2
      have h4 := Mk.shades_seen roots r h1 h2 (Mk.start M) h3
      rcases cov_of h0 h4 with h | h
      · exact absurd h (hcol _)
      · exact h
    | step h1 h2 h3 ih => exact .step ih (hcol _) (by rw [hM0]; exact h2) h3
  · rw [hM0] at ho
    exact (hM.ok.mem_reach hb).2 (.step ((hM.ok.mem_reach hb).1 hk) ho hy)
end
end Go.Proofs.YthflghdaejbdkaaGreat
