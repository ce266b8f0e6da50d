/- A map[int]bool that is a set: what is there is true; its keys sorted. -/
import Derived.Test.YtcdeikbehpepjaaGreatSorted
namespace Go.Proofs.YtcdeikbehpepjaaGreat
open Go.RowKit Go.Maps Go.Sort Go.Shelf
set_option maxHeartbeats 3200000
set_option maxRecDepth 100000
set_option linter.unusedVariables false
def boolElem : Value → Option (DataW Unit × List MemPlace)
  | .bool b => some (.lit (.bool b), [])
  | _ => none
theorem boolElem_inv {v : Value} {y : DataW Unit × List MemPlace} (h : boolElem v = some y) : ∃ b, v = .bool b ∧ y = (.lit (.bool b), []) := by
  unfold boolElem at h
  split at h
  · cases h; exact ⟨_, rfl, rfl⟩
  · cases h
def SetAt (w : World) (mb n : Nat) (S : Int → Bool) : Prop :=
  ∃ D : DataW Unit, w.ownsMap Tryz.prog 3 boolElem mb n D ∧ ∀ k, wfI k → Maps.has D (.int .i64 k) = S k ∧ (S k = true → ∀ z, D.atKey (.int .i64 k) z = .lit (.bool true))
theorem zeroBool (w : World) : (zeroValue 4).run Tryz.prog w = .ok (.bool false) w := by kernel_rfl
section
variable {w w' : World} {mb n : Nat} {S : Int → Bool}
theorem SetAt.lt (h : SetAt w mb n S) : mb < w.heap.size := by obtain ⟨D, h, _⟩ := h; exact h.lt
theorem SetAt.only {F : List Nat} (h : SetAt w mb n S) (hg : Only F w w') (hS : mb ∉ F) : SetAt w' mb n S := by
  obtain ⟨D, hD, hf⟩ := h
  have hlt := hD.lt
  obtain ⟨es, clock, hb, r⟩ := hD
  exact ⟨D, ⟨es, clock, (hg.block mb hlt hS).trans hb, r⟩, hf⟩
theorem SetAt.look (h : SetAt w mb n S) {k : Int} (hk : wfI k) : (Instr.lookup 95 (.map (some mb)) (.int .i64 k) false).run Tryz.prog w = .ok (.bool (S k)) w := by
  obtain ⟨D, hD, hf⟩ := h
  obtain ⟨v, ps, hrun, hv⟩ := hD.lookup keyedI Tryz.underlying95 (zeroBool w) (zd := .lit (.bool false)) (zp := []) rfl (keyI hk)
  obtain ⟨b, rfl, hy⟩ := boolElem_inv hv
  rw [hrun]
  obtain ⟨h1, h2⟩ := hf k hk
  cases hS : S k with
  | false =>
    rw [hS] at h1
    have h3 := Maps.atKey_of_not_has h1 (.lit (.bool false) : DataW Unit)
    rw [h3] at hy
    have := congrArg Prod.fst hy
    simp at this
    rw [← this]
  | true =>
    rw [h2 hS] at hy
    have := congrArg Prod.fst hy
    simp at this
    rw [← this]
theorem SetAt.made (w : World) : SetAt (w.alloc (.map #[] 0)) w.heap.size 0 (fun _ => false) :=
  ⟨.map [], World.ownsMap_made _ _ _ _, fun k _ => ⟨rfl, fun h => by cases h⟩⟩
theorem SetAt.store (h : SetAt w mb n S) (hn : n < 1000000) {k : Int} (hk : wfI k) : ∃ w', (Instr.mapUpdate 95 (.map (some mb)) (.int .i64 k) (.bool true)).run Tryz.prog w = .ok () w' ∧
    SetAt w' mb (n + 1) (fun j => if j = k then true else S j) ∧ w.grownBy w' (some mb) := by
  obtain ⟨D, hD, hf⟩ := h
  obtain ⟨w', h1, h2, h3⟩ := hD.update keyedI Tryz.underlying95 (by simp only [maxLen]; omega) (keyI hk) (show boolElem (.bool true) = some (.lit (.bool true), []) from rfl)
  refine ⟨w', h1, ⟨_, h2, fun j hj => ?_⟩, h3⟩
  have hm := hD.isMap
  by_cases e : j = k
  · subst e
    have e2 : (fun i => if i = j then true else S i) j = true := if_pos rfl
    rw [e2]
    exact ⟨Maps.has_put_same hm (isKeyI j hj) _, fun _ z => Maps.atKey_put_same hm (isKeyI j hj) _ z⟩
  · have e2 : (fun i => if i = k then true else S i) j = S j := if_neg e
    rw [e2]
    refine ⟨by rw [Maps.has_put_other (ne_key e)]; exact (hf j hj).1, fun hc z => ?_⟩
    rw [Maps.atKey_put_other (ne_key e)]
    exact (hf j hj).2 hc z
theorem SetAt.congr (h : SetAt w mb n S) {S' : Int → Bool} (he : ∀ k, S k = S' k) : SetAt w mb n S' := by
  have : S = S' := funext he
  rw [← this]; exact h
end
theorem keysSet_any (w : World) (mb : Option Nat) : Calls Tryz.prog 60 #[.map mb] w fun e w' => e = .returned (.func (.func 80) #[] #[.pointer (some ⟨w.heap.size, 0, none⟩)]) ∧ w' = w.alloc (.cells #[.map mb] 95) :=
  callsIn_wide.1 (AnyZI.keys_in Tryz.keysB Fence.wide 5 trivial rfl mb w)
theorem sortedSet_any {w : World} {mb n : Nat} {S : Int → Bool} (h : SetAt w mb n S) (hn : n ≤ 1000000) {l : List Int} (hl : l.Pairwise (· < ·)) (hm : ∀ x, x ∈ l → wfI x) (hf : ∀ x, wfI x → (S x = true ↔ x ∈ l)) :
    Calls Tryz.prog 31 #[.func (.func 80) #[] #[.pointer (some ⟨w.heap.size, 0, none⟩)]] (w.alloc (.cells #[.map (some mb)] 95)) fun e w' =>
      ∃ v, e = .returned v ∧ Ints w' w.heap.size v l ∧ Only [] w w' := by
  obtain ⟨D, hD, hDf⟩ := h
  have hbl := hD.lt
  have hsz := hD.size_le
  have hseq : SeqGives Fence.wide 2 Tryz.prog 80 #[.pointer (some ⟨w.heap.size, 0, none⟩)] encZ (fun ss => ss.Perm (intKeys D)) (Maps.size D) (w.alloc (.cells #[.map (some mb)] 95)) :=
    AnyZI.keys_gives (ρ := Tryz.keysB_ren) { Tryz.keysB with } Fence.wide _ trivial rfl (by omega) w.heap.size mb n D _ (by simp) (by simp) (hD.alloc _)
  have cS := AnyZI.sorted_in Tryz.sortedA Fence.wide 5 trivial trivial trivial trivial rfl (by omega) (sortsA _) (enters_of Tryz.func71 (by kernel_rfl) rfl) 80 #[.pointer (some ⟨w.heap.size, 0, none⟩)] trivial (enters_of Tryz.func80 (by kernel_rfl) rfl) _ _ (by simp only [maxLen]; omega) (by omega) _ hseq
  change CallsIn _ _ Tryz.prog 31 _ _ _ at cS
  refine (callsIn_wide.1 cS).mono ?_
  rintro e w' ⟨v, ss, rfl, hS, hrow, _, hb⟩
  have hss := sorted_is hD keyedI Tryz.underlying3 hl hm (fun x hx => by rw [(hDf x hx).1]; exact hf x hx) hS
  have hlen : ss.length = l.length := by rw [← hss, List.length_mergeSort]
  rw [hss, hlen] at hrow
  have ho := below_only hb rfl
  refine ⟨v, rfl, ?_, ((Only.refl [] w).alloc _).trans ho (by simp)⟩
  have hI : Ints w' (w.alloc (.cells #[.map (some mb)] 95)).heap.size v l := hrow
  exact hI.base (by simp)
end Go.Proofs.YtcdeikbehpepjaaGreat
