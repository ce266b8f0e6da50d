/- slices.Equal of numbers; how many keys a map has. -/
import Derived.Test.YtbjmgbbggbbidaaRead
import Derived.Test.YtbjmgbbggbbidaaLibB
import Derived.Maps.RangeWalk
import Derived.Maps.Ext
namespace Go.Proofs.Ytbjmgbbggbbidaa
open Go.RowKit
set_option maxHeartbeats 1600000
set_option maxRecDepth 100000
set_option linter.unusedVariables false

theorem lists_eq {l1 l2 : List Int} (hl : l1.length = l2.length) (h : ∀ j, j < l1.length → gI l1 j = gI l2 j) : l1 = l2 := by
  apply List.ext_getElem hl
  intro i h1 h2
  have := h i h1
  simp only [gI, List.getElem?_eq_getElem h1, List.getElem?_eq_getElem h2, Option.getD_some] at this
  exact this
theorem equal_lists (w : World) (v1 v2 : Value) (l1 l2 : List Int) (h1 : Read w v1 l1) (h2 : Read w v2 l2) (hl : l1.length ≤ 1000000) (hl2 : l2.length ≤ 1000000) :
    Calls Try.prog 55 #[v1, v2] w (fun e w' => e = .returned (.bool (decide (l1 = l2))) ∧ Drew w w') := by
  refine calls_abs fun R hR => ?_
  obtain ⟨a1, c1, rfl⟩ := h1.len
  obtain ⟨a2, c2, rfl⟩ := h2.len
  have H1 := Lib.hid h1
  have H2 := Lib.hid h2
  obtain ⟨n, hn⟩ : ∃ n, n = l1.length := ⟨_, rfl⟩
  obtain ⟨n2, hn2⟩ : ∃ n, n = l2.length := ⟨_, rfl⟩
  rw [← hn] at hl H1
  rw [← hn2] at hl2 H2
  rw [← hn, ← hn2]
  have HN := Lib.hid hn
  have HN2 := Lib.hid hn2
  clear h1 h2 hn hn2
  by_cases hlen : n = n2
  · subst hlen
    go_enter Try.func55, Try.ntmps55
    go_wp2_with fail
    go_loopw [5, 13] (fun _ iv wr => ∃ k : Nat, k ≤ n ∧ iv = .int .i64 k ∧ Hid (∀ j, j < k → gI l1 j = gI l2 j) ∧ Drew w wr) (fun _ iv _ => n - (intOf iv).toNat)
    case atStart => exact ⟨0, by omega, rfl, fun j hj => by omega, Drew.refl _⟩
    case round =>
      obtain ⟨k, hk, rfl, HF, hdr⟩ := hrel
      have HDR := Lib.hid hdr
      by_cases hlt : k < n
      · have hlt1 : k < l1.length := by have := HN.out; omega
        have hlt2 : k < l2.length := by have := HN2.out; omega
        rcases H1.out with ⟨b1, o1, d1, f1, g1⟩ | ⟨oa, d, f1, g1⟩
        rotate_left
        · rw [g1] at hlt1; simp at hlt1
        rcases H2.out with ⟨b2, o2, d2, f2, g2⟩ | ⟨oa, d, f2, g2⟩
        rotate_left
        · rw [g2] at hlt2; simp at hlt2
        have e1 : a1 = some ⟨b1, o1, none⟩ := by cases f1; rfl
        have e2 : a2 = some ⟨b2, o2, none⟩ := by cases f2; rfl
        subst e1 e2
        have k1 := hdr.cell (g1 k hlt1)
        have k2 := hdr.cell (g2 k hlt2)
        have hb1 : (0 : Int) ≤ k := by omega
        have hb2 : (k : Int) < n := by omega
        clear g1 g2 f1 f2 hdr
        by_cases hz : gI l1 k = gI l2 k
        · rw [hz] at k1
          have HZ := Lib.hid hz
          clear hz
          generalize hx : gI l2 k = x at k1 k2
          clear hx
          go_wp2_with fail
          go_quiet (fail)
          go_wp2_with fail
          exact ⟨⟨k + 1, by omega, by go_num, fun j hj => by
            by_cases e : j = k
            · rw [e, HZ.out]
            · exact HF.out j (by omega), HDR.out.more _⟩, by simp [intOf]; omega⟩
        · have hR2 : Hid (decide (l1 = l2) = false) := by
            show decide (l1 = l2) = false
            simp only [decide_eq_false_iff_not]
            intro e; rw [e] at hz; exact hz rfl
          rw [hR2.out] at hR
          generalize gI l1 k = x at *
          generalize gI l2 k = y at *
          clear hR2
          go_wp2_with fail
          go_quiet (fail)
          go_wp2_with fail
          exact hR.out _ _ ⟨rfl, HDR.out.more _⟩
      · obtain rfl : k = n := by omega
        have hR2 : Hid (decide (l1 = l2) = true) := by
          show decide (l1 = l2) = true
          simp only [decide_eq_true_eq]
          exact lists_eq (by rw [← HN.out, ← HN2.out]) (fun j hj => HF.out j (by have := HN.out; omega))
        rw [hR2.out] at hR
        clear hR2 hdr
        go_wp2_with fail
        exact hR.out _ _ ⟨rfl, HDR.out⟩
  · have hR2 : Hid (decide (l1 = l2) = false) := by
      show decide (l1 = l2) = false
      simp only [decide_eq_false_iff_not]
      intro e; apply hlen; rw [HN.out, HN2.out, e]
    rw [hR2.out] at hR
    clear hR2
    go_enter Try.func55, Try.ntmps55
    go_wp2_with fail
    exact hR.out _ _ ⟨rfl, Drew.refl _⟩

/-! ## How many keys a map has -/
open Go.Maps Go.WideShapes in
section
theorem nodup_len {α : Type} : ∀ {l1 l2 : List α}, l1.Nodup → (∀ x ∈ l1, x ∈ l2) → l1.length ≤ l2.length ∧ (l2.length ≤ l1.length → ∀ x ∈ l2, x ∈ l1)
  | [], l2, _, _ => ⟨by simp, fun h x hx => by cases l2 with | nil => exact hx | cons a r => simp at h⟩
  | a :: r, l2, hn, hs => by
    obtain ⟨h1, h2⟩ := List.nodup_cons.1 hn
    obtain ⟨s, t, rfl⟩ := List.append_of_mem (hs a (by simp))
    have h3 : ∀ x ∈ r, x ∈ s ++ t := fun x hx => by
      have := hs x (List.mem_cons_of_mem _ hx)
      simp only [List.mem_append, List.mem_cons] at this ⊢
      rcases this with h | h | h
      · exact .inl h
      · subst h; exact absurd hx h1
      · exact .inr h
    obtain ⟨h4, h5⟩ := nodup_len h2 h3
    simp only [List.length_append, List.length_cons] at h4 h5 ⊢
    refine ⟨by omega, fun h x hx => ?_⟩
    by_cases e : x = a
    · rw [e]; simp
    · refine List.mem_cons_of_mem _ (h5 (by omega) x ?_)
      simp only [List.mem_append, List.mem_cons] at hx ⊢
      rcases hx with h | h | h
      · exact .inl h
      · exact absurd h e
      · exact .inr h
def keysD {H : Type} : DataW H → List Lit | .map es => es.map Prod.fst | _ => []
theorem keysD_len {H : Type} {D : DataW H} (c : Canon D) : (keysD D).length = Maps.size D := by obtain ⟨es, rfl, _⟩ := c; simp [keysD, Maps.size]
theorem keysD_nodup {H : Type} {D : DataW H} (c : Canon D) : (keysD D).Nodup := by
  obtain ⟨es, rfl, h, _⟩ := c
  exact List.pairwise_map.2 (apart_of_rising h)
theorem keysD_mem {H : Type} {D : DataW H} (c : Canon D) (k : Lit) : k ∈ keysD D ↔ Maps.has D k = true := by
  obtain ⟨es, rfl, _, h⟩ := c
  constructor
  · intro hk
    obtain ⟨p, hp, rfl⟩ := List.mem_map.1 hk
    exact List.any_eq_true.2 ⟨p, hp, WideAt.sameKey_self (h p hp)⟩
  · intro hk
    obtain ⟨p, hp, hs⟩ := List.any_eq_true.1 hk
    exact List.mem_map.2 ⟨p, hp, WideAt.sameKey_eq hs⟩
theorem size_sub {H : Type} {D1 D2 : DataW H} (c1 : Canon D1) (c2 : Canon D2) (h : ∀ k, Maps.has D1 k = true → Maps.has D2 k = true) :
    Maps.size D1 ≤ Maps.size D2 ∧ (Maps.size D2 ≤ Maps.size D1 → ∀ k, Maps.has D2 k = true → Maps.has D1 k = true) := by
  have h1 := nodup_len (keysD_nodup c1) (l2 := keysD D2) (fun x hx => (keysD_mem c2 x).2 (h x ((keysD_mem c1 x).1 hx)))
  rw [keysD_len c1, keysD_len c2] at h1
  exact ⟨h1.1, fun hs k hk => (keysD_mem c1 k).1 (h1.2 hs k ((keysD_mem c2 k).2 hk))⟩
/-- A key of a map from int is a number. -/
theorem ownsMap_key {H : Type} {R : Value → Option (DataW H × List MemPlace)} {w : World} {b n : Nat} {D : DataW H} (h : w.ownsMap Try.prog 3 R b n D) {k : Lit} (hk : Maps.has D k = true) : ∃ x, k = .int .i64 x ∧ (Lit.int .i64 x).wf = true := by
  obtain ⟨es, clock, _, F, _, rfl⟩ := h
  obtain ⟨p, hp, hpk⟩ := List.any_eq_true.1 hk
  obtain ⟨x, hx, rfl⟩ := List.mem_map.1 (mem_sorted.1 hp)
  obtain ⟨y, hy⟩ := F.reads x hx
  have h1 := WideAt.sameKey_eq hpk
  rw [WideElems.rg_of hy] at h1
  obtain ⟨z, _, e, hw⟩ := Maps.keyOf_int_inv Try.underlying3 (WideElems.rd_key hy)
  exact ⟨z, by rw [← h1, e], hw⟩
end
end Go.Proofs.Ytbjmgbbggbbidaa
