/- Law ObjectBlocks: which blocks are seen; as many are used as the handles have. No program is spoken of. -/
import Derived.Test.YtkjocehdbpekjaaGreatOPlays
namespace Go.Proofs.YtkjocehdbpekjaaGreat
open Go.RowKit Go.Maps
set_option maxHeartbeats 12800000
set_option maxRecDepth 100000
set_option linter.unusedVariables false
theorem Hp.Ok.wfH {M : Hp} (hk : M.Ok) {k : Int} (h : (M.ob k).isSome = true) : wfI k := by
  obtain ⟨o, ho⟩ := Option.isSome_iff_exists.1 h
  have := hk.hr k o ho
  exact wfI_mk (by omega)
theorem gI_app_left {l : List Int} {x : List Int} {j : Nat} (h : j < l.length) : gI (l ++ x) j = gI l j := by unfold gI; rw [List.getElem?_append_left h]
/-- All blocks, handle by handle. -/
theorem handles_sum (M : Hp) (k : Nat) : sumN (fun j => bLen (M.ob (gI (M.handlesN k) j))) (M.handlesN k).length = sumN (fun j => bLen (M.ob ((j : Int) + 1))) k := by
  induction k with
  | zero => rfl
  | succ k ih =>
    show _ = sumN (fun j => bLen (M.ob ((j : Int) + 1))) k + bLen (M.ob ((k : Int) + 1))
    unfold Hp.handlesN
    cases e : M.ob ((k : Int) + 1) with
    | none => simp only [Option.isSome_none, Bool.false_eq_true, if_false, List.append_nil]; rw [ih]; rfl
    | some o =>
      simp only [Option.isSome_some, if_true, List.length_append, List.length_cons, List.length_nil]
      show sumN _ (M.handlesN k).length + bLen (M.ob (gI (M.handlesN k ++ [(k : Int) + 1]) (M.handlesN k).length)) = _
      have e2 : gI (M.handlesN k ++ [(k : Int) + 1]) (M.handlesN k).length = (k : Int) + 1 := by unfold gI; simp
      rw [e2, e, ← ih]
      congr 1
      exact sumN_congr fun j hj => by rw [gI_app_left hj]
theorem gI_get {l : List Int} {i : Nat} (h : i < l.length) : gI l i = l[i] := by unfold gI; rw [List.getElem?_eq_getElem h]; rfl
theorem gI_lt {l : List Int} (h : l.Pairwise (· < ·)) {i j : Nat} (hi : i < j) (hj : j < l.length) : gI l i < gI l j := by
  have h2 := List.pairwise_iff_getElem.1 h i j (by omega) hj hi
  rw [gI_get hj, gI_get (show i < l.length by omega)]
  exact h2
theorem handles_sorted (M : Hp) : M.handles.Pairwise (· < ·) := by unfold Hp.handles; exact Hp.handlesN_sorted M 192
theorem handles_lt {M : Hp} {i j : Nat} (hi : i < j) (hj : j < M.handles.length) : gI M.handles i < gI M.handles j := gI_lt (handles_sorted M) hi hj
/-- Which blocks are seen: all those of the first i handles, and the first k of o. -/
def SeenB (M : Hp) (i : Nat) (o : Th) (k : Nat) (bits : List Bool) : Prop :=
  bits.length = 384 ∧ ∀ a : Nat, a < 384 → (gB bits a = true ↔ (∃ j, j < i ∧ ∃ o', M.ob (gI M.handles j) = some o' ∧ ∃ m, m < o'.blocks.length ∧ gI o'.blocks m = a) ∨ ∃ m, m < k ∧ gI o.blocks m = a)
theorem gB_rep {n j : Nat} : gB (List.replicate n false) j = false := by
  unfold gB
  rw [List.getElem?_replicate]
  split <;> rfl
theorem gB_set {l : List Bool} {i j : Nat} {v : Bool} (hi : i < l.length) : gB (l.set i v) j = if j = i then v else gB l j := by
  unfold gB
  rw [List.getElem?_set]
  by_cases e : i = j
  · subst e; rw [if_pos rfl, if_pos hi, if_pos rfl]; rfl
  · rw [if_neg e, if_neg (Ne.symm e)]
section
variable {M : Hp} {i k : Nat} {o o2 : Th} {bits : List Bool}
theorem SeenB.zero : SeenB M 0 o 0 (List.replicate 384 false) := ⟨List.length_replicate, fun a ha => by
  rw [gB_rep]
  constructor
  · intro h; cases h
  · rintro (⟨j, h, _⟩ | ⟨m, h, _⟩) <;> omega⟩
theorem SeenB.turn (h : SeenB M i o 0 bits) : SeenB M i o2 0 bits := ⟨h.1, fun a ha => by
  rw [h.2 a ha]
  constructor
  · rintro (h | ⟨m, h, _⟩)
    · exact .inl h
    · omega
  · rintro (h | ⟨m, h, _⟩)
    · exact .inl h
    · omega⟩
theorem SeenB.next (h : SeenB M i o o.blocks.length bits) (ho : M.ob (gI M.handles i) = some o) : SeenB M (i + 1) o2 0 bits := ⟨h.1, fun a ha => by
  rw [h.2 a ha]
  constructor
  · rintro (⟨j, hj, h⟩ | ⟨m, hm, h⟩)
    · exact .inl ⟨j, by omega, h⟩
    · exact .inl ⟨i, by omega, o, ho, m, hm, h⟩
  · rintro (⟨j, hj, o', ho', m, hm, h⟩ | ⟨m, hm, _⟩)
    · by_cases e : j = i
      · subst e
        rw [ho] at ho'
        cases ho'
        exact .inr ⟨m, hm, h⟩
      · exact .inl ⟨j, by omega, o', ho', m, hm, h⟩
    · omega⟩
theorem SeenB.no (h : SeenB M i o k bits) (hk : M.Ok) (hi : i < M.handles.length) (ho : M.ob (gI M.handles i) = some o) (hkl : k < o.blocks.length) {a : Nat} (ha : a < 384) (he : gI o.blocks k = a) : gB bits a = false := by
  cases e : gB bits a with
  | false => rfl
  | true =>
    rcases (h.2 a ha).1 e with ⟨j, hj, o', ho', m, hm, h2⟩ | ⟨m, hm, h2⟩
    · have h3 := hk.dj _ o' ho' _ o ho m hm k hkl (h2.trans he.symm)
      have := handles_lt hj hi
      omega
    · have h3 := hk.dj _ o ho _ o ho m (by omega) k hkl (h2.trans he.symm)
      omega
theorem SeenB.step (h : SeenB M i o k bits) {a : Nat} (ha : a < 384) (he : gI o.blocks k = a) : SeenB M i o (k + 1) (bits.set a true) := ⟨by rw [List.length_set]; exact h.1, fun x hx => by
  rw [gB_set (by rw [h.1]; exact ha)]
  by_cases e : x = a
  · subst e
    rw [if_pos rfl]
    exact ⟨fun _ => .inr ⟨k, by omega, he⟩, fun _ => rfl⟩
  · rw [if_neg e, h.2 x hx]
    constructor
    · rintro (h | ⟨m, hm, h⟩)
      · exact .inl h
      · exact .inr ⟨m, by omega, h⟩
    · rintro (h7 | ⟨m, hm, h7⟩)
      · exact .inl h7
      · by_cases em : m = k
        · rw [em, he] at h7; omega
        · exact .inr ⟨m, by omega, h7⟩⟩
end
theorem used_handles {M : Hp} (h : M.OkF) : sumN (fun c : Nat => M.P.usedN (c : Int) M.P.n) 3 = sumN (fun j => bLen (M.ob (gI M.handles j))) M.handles.length := by
  have h1 := Pl.all_used h.ok.p
  have h2 : M.P.all = obSum M.ob := h.full
  have h3 : sumN (fun j => bLen (M.ob (gI M.handles j))) M.handles.length = obSum M.ob := by unfold Hp.handles; exact handles_sum M 192
  rw [h3, ← h2, ← h1]
  show 0 + M.P.usedN ((0 : Nat) : Int) M.P.n + M.P.usedN ((1 : Nat) : Int) M.P.n + M.P.usedN ((2 : Nat) : Int) M.P.n = _
  simp
theorem drewN_pair (w : World) (m : Nat) : Only [] w (w.drewN m) := (Only.refl [] w).drewN m
theorem bits_cell {bits : List Bool} {a : Nat} (h : a < bits.length) : (bits.map Value.bool)[a]? = some (.bool (gB bits a)) := by
  rw [List.getElem?_map]
  unfold gB
  rw [List.getElem?_eq_getElem h]
  rfl
theorem blocks_some {M : Hp} {x : Int} {o : Th} (ho : M.ob x = some o) : M.blocks x = (o.blocks, 0) := by unfold Hp.blocks; rw [ho]
theorem bLen_le7 {M : Hp} (hk : M.Ok) (x : Int) : bLen (M.ob x) ≤ 7 := by
  unfold bLen
  cases e : M.ob x with
  | none => simp
  | some o => exact (hk.blen e).2.1
/-- make([]bool, n). -/
theorem mk_bools (n : Nat) (hn : n ≤ 1000) : ∃ C : Array Value, C.toList = (List.replicate n false).map Value.bool ∧ ∀ wx : World, (Instr.makeSlice 61 (.int .i64 (n : Int)) (.int .i64 (n : Int))).run Tryz.prog wx = .ok (.slice (some ⟨wx.heap.size, 0, none⟩) n n) (wx.alloc (.cells C 4)) := by
  obtain ⟨i0, hi0, hz0, hz1, hz2⟩ := info_parts infoBool
  refine ⟨madeCells (Value.bool false).cells (n * 1), by rw [made_bls, List.map_replicate], fun wx => ?_⟩
  rw [run_makeSlice (P := Tryz.prog) (w := wx) 61 4 i0 _ Tryz.underlying61 hi0 hz0 .i64 .i64 _ _ (by omega) (by omega) (by rw [hz1]; omega) (by rw [hz2]; omega) (by omega), hz1]
  rfl
end Go.Proofs.YtkjocehdbpekjaaGreat
