/- Contracts of package block's pools over the model Pl: IndexFunc with Alloc's two functions, Alloc. -/
import Derived.Test.YtngmiacekcmidaaBlockC
import Derived.IntWalk
namespace Go.Proofs.Ytngmiacekcmidaa
open Go.RowKit
set_option maxHeartbeats 400000
set_option maxRecDepth 100000
set_option linter.unusedVariables false

theorem indexFunc1 (w : World) (b n cap : Nat) (f : Nat → Pg) (hn : n ≤ 24) (hp : ∀ i, i < n → PgAt w b (i * 25) (f i)) (cb : Nat) (c : Int) (hc : IsC c) (hcell : w.cell? ⟨cb, 0, none⟩ = some (.int .i64 c)) :
    Calls Try.prog 49 #[.slice (some ⟨b, 0, none⟩) n cap, .func (.func 50) #[] #[.pointer (some ⟨cb, 0, none⟩)]] w fun e w' => e = .returned (.int .i64 (idx (fun i => (f i).partly c) n)) ∧ Only [] w w' := by
  refine calls_abs fun R hR => ?_
  have H := Lib.hid hp
  clear hp
  go_enter Try.func49, Try.ntmps49
  go_wp2_with fail
  go_loopw [8] (fun i wr => ∃ k : Nat, k ≤ n ∧ i = .int .i64 k ∧ Hid (∀ j, j < k → ((f j).partly c) = false) ∧ Only [] w wr) (fun i _ => n - (intOf i).toNat)
  case atStart => exact ⟨0, by omega, rfl, fun j hj => by omega, Only.refl _ _⟩
  case round =>
    obtain ⟨k, hk, rfl, hf, ho⟩ := hrel
    by_cases hlt : k < n
    · have hpg := (H.out k hlt).only ho (by simp)
      have HP := Lib.hid hpg
      clear hpg
      go_wp2_with (refine wpList_load_agg rfl 75 _ rfl b (k * 25) rfl (f k).row _ Try.underlying75 rfl (by kernel_rfl) HP.out.row ?_)
      refine (alloc1_of _ _ _ c hc (ho.cell hcell (by simp))).mono ?_
      rintro e w2 ⟨rfl, o2⟩
      have ho2 := ho.trans o2 (by simp)
      clear o2 ho HP
      cases hu : ((f k).partly c)
      · go_wp2_with fail
        refine ⟨⟨k + 1, by omega, by go_num, fun j hj => ?_, ho2⟩, by simp [intOf]; omega⟩
        by_cases e : j = k
        · rw [e]; exact hu
        · exact hf.out j (by omega)
      · go_wp2_with fail
        refine hR.out _ _ ⟨?_, ho2⟩
        have e1 := fst_eq (f := fun i => (f i).partly c) hlt hu hf.out
        rw [idx_yes (by rw [e1]; exact hlt), e1]
        rfl
    · obtain rfl : k = n := by omega
      go_wp2_with fail
      refine hR.out _ _ ⟨?_, ho⟩
      rw [idx_no (by rw [fst_none (f := fun i => (f i).partly c) hf.out]; omega)]
      rfl

theorem indexFunc2 (w : World) (b n cap : Nat) (f : Nat → Pg) (hn : n ≤ 24) (hp : ∀ i, i < n → PgAt w b (i * 25) (f i)) :
    Calls Try.prog 49 #[.slice (some ⟨b, 0, none⟩) n cap, .func (.func 52) #[] #[]] w fun e w' => e = .returned (.int .i64 (idx (fun i => decide ((f i).cls < 0)) n)) ∧ Only [] w w' := by
  refine calls_abs fun R hR => ?_
  have H := Lib.hid hp
  clear hp
  go_enter Try.func49, Try.ntmps49
  go_wp2_with fail
  go_loopw [8] (fun i wr => ∃ k : Nat, k ≤ n ∧ i = .int .i64 k ∧ Hid (∀ j, j < k → (decide ((f j).cls < 0)) = false) ∧ Only [] w wr) (fun i _ => n - (intOf i).toNat)
  case atStart => exact ⟨0, by omega, rfl, fun j hj => by omega, Only.refl _ _⟩
  case round =>
    obtain ⟨k, hk, rfl, hf, ho⟩ := hrel
    by_cases hlt : k < n
    · have hpg := (H.out k hlt).only ho (by simp)
      have HP := Lib.hid hpg
      clear hpg
      go_wp2_with (refine wpList_load_agg rfl 75 _ rfl b (k * 25) rfl (f k).row _ Try.underlying75 rfl (by kernel_rfl) HP.out.row ?_)
      refine (alloc2_of _ _).mono ?_
      rintro e w2 ⟨rfl, o2⟩
      have ho2 := ho.trans o2 (by simp)
      clear o2 ho HP
      cases hu : (decide ((f k).cls < 0))
      · go_wp2_with fail
        refine ⟨⟨k + 1, by omega, by go_num, fun j hj => ?_, ho2⟩, by simp [intOf]; omega⟩
        by_cases e : j = k
        · rw [e]; exact hu
        · exact hf.out j (by omega)
      · go_wp2_with fail
        refine hR.out _ _ ⟨?_, ho2⟩
        have e1 := fst_eq (f := fun i => decide ((f i).cls < 0)) hlt hu hf.out
        rw [idx_yes (by rw [e1]; exact hlt), e1]
        rfl
    · obtain rfl : k = n := by omega
      go_wp2_with fail
      refine hR.out _ _ ⟨?_, ho⟩
      rw [idx_no (by rw [fst_none (f := fun i => decide ((f i).cls < 0)) hf.out]; omega)]
      rfl

theorem Pg.take_gap_at {p : Pg} {c : Int} {k j : Nat} (h : k * bsz c ≤ j ∧ j < k * bsz c + bsz c) (f : Nat → Int) : (p.take c k f).cell j = f (j - k * bsz c) := by show (if _ then _ else _) = _; rw [if_pos h]
/-- Several cells of a page become those of f. -/
theorem PgAt.setCells {w : World} {b o : Nat} {p : Pg} (h : PgAt w b o p) (lo n : Nat) (hn : lo + n ≤ 16) (f : Nat → Int) :
    PgAt (w.setCells b (o + 9 + lo) ((List.range n).map fun j => Value.int .i64 (f j))) b o { p with cell := fun j => if lo ≤ j ∧ j < lo + n then f (j - lo) else p.cell j } := by
  intro s hs
  have hlen : ((List.range n).map fun j => Value.int .i64 (f j)).length = n := by simp
  by_cases hin : 9 + lo ≤ s ∧ s < 9 + lo + n
  · obtain ⟨h1, h2⟩ := hin
    have := World.cell?_setCells_in b ((List.range n).map fun j => Value.int .i64 (f j)) (o + 9 + lo) w (fun j hj => by
      rw [hlen] at hj
      have := h (9 + lo + j) (by omega)
      rw [show o + 9 + lo + j = o + (9 + lo + j) by omega, this]; rfl) (s - 9 - lo) (by rw [hlen]; omega)
    rw [show o + 9 + lo + (s - 9 - lo) = o + s by omega] at this
    rw [this]
    simp only [List.getElem_map, List.getElem_range]
    unfold Pg.at
    rw [if_neg (by omega), if_neg (by omega)]
    simp only []
    rw [if_pos (by omega)]
  · rw [World.cell?_setCells_out b _ _ _ _ (fun _ _ => by simp only [hlen]; omega), h s hs]
    refine congrArg some (Pg.at_eq (fun _ => rfl) (fun _ _ => rfl) fun h9 => ?_)
    show _ = (if _ then _ else _)
    rw [if_neg (by omega)]
theorem PgOnly.setCells {b o : Nat} {w w' : World} (h : PgOnly b o w w') (lo n : Nat) (hn : lo + n ≤ 16) (f : Nat → Int) : PgOnly b o w (w'.setCells b (o + 9 + lo) ((List.range n).map fun j => Value.int .i64 (f j))) := by
  have hlen : ((List.range n).map fun j => Value.int .i64 (f j)).length = n := by simp
  refine ⟨h.only.setCells (by simp) _ _, fun T cs hc => ?_, fun x hx => ?_⟩
  · obtain ⟨cs', h1⟩ := h.row T cs hc
    exact h1.setCells _ _
  · rw [World.cell?_setCells_out b _ _ _ _ (fun _ _ => by simp only [hlen]; omega)]
    exact h.cell x hx

end Go.Proofs.Ytngmiacekcmidaa
