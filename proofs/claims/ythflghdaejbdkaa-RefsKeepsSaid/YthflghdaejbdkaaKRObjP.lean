/- Lemmas of this claim. -/
import Derived.Test.YthflghdaejbdkaaKRObjN
namespace Go.Proofs.Ythflghdaejbdkaa
open Go.RowKit Go.Maps
set_option maxHeartbeats 6400000
set_option maxRecDepth 100000
set_option linter.unusedVariables false
def obZero : Value := .agg #[.int .i64 0, .int .i64 0, .slice none 0 0, .slice none 0 0, .slice none 0 0]
theorem infoObj : (Try.prog.info? 73).map (fun i => (i.zero, i.size, i.bytes)) = some (some obZero, 5, 88) := by kernel_rfl
theorem made_obj {n i j : Nat} (hi : i < n) (hj : j < 5) : (madeCells obZero.cells (n * 5)).toList[i * 5 + j]? = some (gFld none (.slice none 0 0) (.slice none 0 0) (.slice none 0 0) j) := by
  have h1 : obZero.cells.size = 5 := rfl
  have hx : i * 5 + j < n * 5 := by omega
  have hm : (i * 5 + j) % 5 = j := by omega
  have h3 : obZero.cells[j]? = some (gFld none (.slice none 0 0) (.slice none 0 0) (.slice none 0 0) j) := by
    match j, hj with
    | 0, _ => rfl
    | 1, _ => rfl
    | 2, _ => rfl
    | 3, _ => rfl
    | 4, _ => rfl
    | j + 5, hj => omega
  rw [Array.getElem?_toList]
  unfold madeCells
  rw [Array.getElem?_map, show (Array.range (n * 5))[i * 5 + j]? = some (i * 5 + j) by simp [hx]]
  simp only [Option.map_some, h1]
  rw [getElem!_def, hm, h3]
theorem GRep.start {w' : World} {hb og q k c l v T T2 : Nat} {P : Pl} {cs : List Value} (hp : RRep w' q k c l P) (hr : Row w' hb T [.slice (some ⟨og, 0, none⟩) 193 193, .pointer (some ⟨q, 0, none⟩)]) (ho : Row w' og T2 cs)
    (hc : ∀ i : Nat, i < 193 → ∀ j, j < 5 → cs[i * 5 + j]? = some (gFld none (.slice none 0 0) (.slice none 0 0) (.slice none 0 0) j))
    (h1 : v ≤ q ∧ v ≤ k ∧ v ≤ c ∧ v ≤ l ∧ v ≤ og ∧ v ≤ hb) (d1 : q ≠ og ∧ k ≠ og ∧ c ≠ og ∧ l ≠ og ∧ q ≠ hb ∧ k ≠ hb ∧ c ≠ hb ∧ l ≠ hb ∧ og ≠ hb) :
    ∃ L' X', GRep w' L' hb ⟨P, fun _ => none⟩ X' ∧ (∀ k, L' k ≠ none → v ≤ k) := by
  obtain ⟨n1, n2, n3, n4, n5, n6⟩ := hp.ne
  obtain ⟨_, _, _, _, _, _, _, _, _, f1, f2, f3, f4⟩ := hp.facts
  obtain ⟨e1, e2, e3, e4, e5, e6, e7, e8, e9⟩ := d1
  have hl1 := hr.lt
  have hl2 := ho.lt
  obtain ⟨L', hL'⟩ : ∃ L' : Nat → Option Gb, L' = fun j => if j = hb then some .mem else if j = og then some .objs else if j = q then some .pq else if j = k then some .pk else if j = c then some .pc else if j = l then some .pl else none := ⟨_, rfl⟩
  have hin : ∀ j, L' j ≠ none → j = hb ∨ j = og ∨ j = q ∨ j = k ∨ j = c ∨ j = l := fun j hj => by
    rw [hL'] at hj
    simp only at hj
    by_cases a1 : j = hb
    · exact .inl a1
    · by_cases a2 : j = og
      · exact .inr (.inl a2)
      · by_cases a3 : j = q
        · exact .inr (.inr (.inl a3))
        · by_cases a4 : j = k
          · exact .inr (.inr (.inr (.inl a4)))
          · by_cases a5 : j = c
            · exact .inr (.inr (.inr (.inr (.inl a5))))
            · by_cases a6 : j = l
              · exact .inr (.inr (.inr (.inr (.inr a6))))
              · simp [a1, a2, a3, a4, a5, a6] at hj
  refine ⟨L', ⟨q, k, c, l, og, 193, fun _ => .slice none 0 0, fun _ => .slice none 0 0, fun _ => .slice none 0 0⟩, ⟨fun j hj => ?_, ⟨T, hr⟩, by rw [hL']; simp, hp, by rw [hL']; simp [*], by rw [hL']; simp [*, Ne.symm n1], by rw [hL']; simp [*, Ne.symm n2, Ne.symm n4], by rw [hL']; simp [*, Ne.symm n3, Ne.symm n5, Ne.symm n6], ⟨T2, cs, ho, hc⟩, by rw [hL']; simp [*], fun h o hk => by cases hk⟩, fun j hj => ?_⟩
  · rcases hin j hj with rfl | rfl | rfl | rfl | rfl | rfl <;> assumption
  · rcases hin j hj with rfl | rfl | rfl | rfl | rfl | rfl <;> omega
theorem gnew_good (w : World) (n : Nat) (h1 : 1 ≤ n) (h24 : n ≤ 24) : Calls Try.prog 19 #[.int .i64 n] w fun e w' =>
    ∃ hb L X, e = .returned (.tuple #[.pointer (some ⟨hb, 0, none⟩), .int .i64 0]) ∧ GRep w' L hb (Hp.new n) X ∧ (∀ k, L k ≠ none → w.heap.size ≤ k) ∧ Only [] w w' := by
  refine calls_abs fun R hR => ?_
  have h2 := rnew_yes w n h1 h24
  obtain ⟨i0, hi0, hz0, hz1, hz2⟩ := info_parts infoObj
  obtain ⟨C, hC⟩ : ∃ C : Array Value, C = madeCells obZero.cells (193 * 5) := ⟨_, rfl⟩
  have hmk : ∀ wx, (Instr.makeSlice 66 (.int .i64 193) (.int .i64 193)).run Try.prog wx = .ok (.slice (some ⟨wx.heap.size, 0, none⟩) 193 193) (wx.alloc (.cells C 73)) := fun wx => by
    rw [run_makeSlice (P := Try.prog) (w := wx) 66 73 i0 _ Try.underlying66 hi0 hz0 .i64 .i64 _ _ (by omega) (by omega) (by rw [hz1]; omega) (by rw [hz2]; omega) (by omega), hz1]
    rw [hC]
    rfl
  have HC : Hid (∀ i : Nat, i < 193 → ∀ j, j < 5 → C.toList[i * 5 + j]? = some (gFld none (.slice none 0 0) (.slice none 0 0) (.slice none 0 0) j)) := fun i hi j hj => by rw [hC]; exact made_obj hi hj
  clear hC h1 h24 hi0 hz0 hz1 hz2
  go_enter Try.func19, Try.ntmps19
  go_wp2_with fail
  refine h2.mono ?_
  rintro e w3 ⟨q, k, c, l, rfl, hp, ho, u1, u2, u3, u4⟩
  obtain ⟨_, _, _, _, _, _, _, _, _, f1, f2, f3, f4⟩ := hp.facts
  have hp5 := hp.only (((Only.refl [] w3).alloc (.cells C 73)).alloc (.cells #[.slice (some ⟨w3.heap.size, 0, none⟩) 193 193, .pointer (some ⟨q, 0, none⟩)] 69)) (by simp) (by simp) (by simp) (by simp)
  have hrow : Row ((w3.alloc (.cells C 73)).alloc (.cells #[.slice (some ⟨w3.heap.size, 0, none⟩) 193 193, .pointer (some ⟨q, 0, none⟩)] 69)) (w3.heap.size + 1) 69 [.slice (some ⟨w3.heap.size, 0, none⟩) 193 193, .pointer (some ⟨q, 0, none⟩)] := by
    have := Row.new (w3.alloc (.cells C 73)) 69 [.slice (some ⟨w3.heap.size, 0, none⟩) 193 193, .pointer (some ⟨q, 0, none⟩)]
    rwa [World.size_alloc] at this
  have hobj : Row ((w3.alloc (.cells C 73)).alloc (.cells #[.slice (some ⟨w3.heap.size, 0, none⟩) 193 193, .pointer (some ⟨q, 0, none⟩)] 69)) w3.heap.size 73 C.toList := (Row.new w3 73 C.toList).alloc _
  have hO : Only [] w ((w3.alloc (.cells C 73)).alloc (.cells #[.slice (some ⟨w3.heap.size, 0, none⟩) 193 193, .pointer (some ⟨q, 0, none⟩)] 69)) := (ho.alloc _).alloc _
  have hsz := ho.size
  obtain ⟨L1, X1, q1, q2⟩ := GRep.start (v := w.heap.size) hp5 hrow hobj HC.out ⟨u1, u2, u3, u4, hsz, by omega⟩ ⟨by omega, by omega, by omega, by omega, by omega, by omega, by omega, by omega, by omega⟩
  have Q1 := Lib.hid q1
  have Q2 := Lib.hid q2
  have QO := Lib.hid hO
  clear h2 hp hp5 hrow hobj hO q1 q2 u1 u2 u3 u4 f1 f2 f3 f4 hsz ho
  go_wp2_with fail
  exact hR.out _ _ ⟨_, L1, X1, rfl, Q1.out, Q2.out, QO.out⟩
end Go.Proofs.Ythflghdaejbdkaa
