/- The laws' own functions over both pools: converted, played. -/
import Derived.Test.YtngmiacekcmidaaBlockN
import Derived.Test.YtngmiacekcmidaaRBlockI
import Derived.Test.YtngmiacekcmidaaArgs
import Derived.Deep.AppendLies
namespace Go.Proofs.Ytngmiacekcmidaa
open Go.RowKit
set_option maxHeartbeats 3200000
set_option maxRecDepth 100000
set_option linter.unusedVariables false

/-- Deeds of the reference, in a slice of the call's own. -/
def deedCells (f : Nat → Nat → Int) (n : Nat) : List Value := (List.range n).flatMap fun i => [.int .i64 (f i 0), .int .i64 (f i 1), .int .i64 (f i 2)]
theorem deedCells_succ (f : Nat → Nat → Int) (n : Nat) : deedCells f (n + 1) = deedCells f n ++ [.int .i64 (f n 0), .int .i64 (f n 1), .int .i64 (f n 2)] := by
  unfold deedCells
  rw [List.range_succ, List.flatMap_append]
  simp
theorem deedCells_len (f : Nat → Nat → Int) (n : Nat) : (deedCells f n).length = n * 3 := by
  induction n with
  | zero => rfl
  | succ n ih => rw [deedCells_succ, List.length_append, ih]; simp; omega
theorem deedCells_at (f : Nat → Nat → Int) (n i j : Nat) (hi : i < n) (hj : j < 3) : (deedCells f n)[i * 3 + j]? = some (.int .i64 (f i j)) := by
  induction n with
  | zero => omega
  | succ n ih =>
    rw [deedCells_succ, List.getElem?_append, deedCells_len]
    by_cases h : i < n
    · rw [if_pos (by omega)]; exact ih h
    · obtain rfl : i = n := by omega
      rw [if_neg (by omega), show i * 3 + j - i * 3 = j by omega]
      have h3 : j = 0 ∨ j = 1 ∨ j = 2 := by omega
      rcases h3 with rfl | rfl | rfl <;> rfl
def rdeedZero : Value := .agg #[.int .i64 0, .int .i64 0, .int .i64 0]
theorem infoRDeed : (Try.prog.info? 65).map (fun i => (i.zero, i.size, i.bytes)) = some (some rdeedZero, 3, 24) := by kernel_rfl
def Deeds (w : World) (base : Nat) (v : Value) (f : Nat → Nat → Int) (n : Nat) : Prop := w.ownsRow base 65 3 v n (deedCells f n)
/-- What is known of such a slice. -/
def DeedsAt (w : World) (base : Nat) (v : Value) (f : Nat → Nat → Int) (n : Nat) : Prop :=
  (n = 0 ∧ v = .slice none 0 0) ∨ ∃ g cap, v = .slice (some ⟨g, 0, none⟩) n cap ∧ base ≤ g ∧ ∀ i, i < n → ∀ j, j < 3 → w.cell? ⟨g, i * 3 + j, none⟩ = some (.int .i64 (f i j))
theorem Deeds.at {w : World} {base : Nat} {v : Value} {f : Nat → Nat → Int} {n : Nat} (h : Deeds w base v f n) : DeedsAt w base v f n := by
  rcases h.2 with ⟨h1, h2⟩ | ⟨g, cap, cur, hv, hg, hh, hc, hm, hs, ht⟩
  · exact .inl ⟨h2, h1⟩
  · refine .inr ⟨g, cap, hv, hg, fun i hi j hj => ?_⟩
    have h3 := World.ownsRow.cells h (g := g) (by rw [hv]; rfl) (i * 3 + j) _ (deedCells_at f n i j hi hj)
    rwa [addr_add, Nat.zero_add] at h3
theorem DeedsAt.only {w w' : World} {base : Nat} {v : Value} {f : Nat → Nat → Int} {n : Nat} {F : List Nat} (h : DeedsAt w base v f n) (o : Only F w w') (hF : ∀ x ∈ F, x < base ∨ ∀ g n cap, v = .slice (some ⟨g, 0, none⟩) n cap → x ≠ g) : DeedsAt w' base v f n := by
  rcases h with h | ⟨g, cap, hv, hg, hc⟩
  · exact .inl h
  · refine .inr ⟨g, cap, hv, hg, fun i hi j hj => o.cell (hc i hi j hj) (fun hm => ?_)⟩
    rcases hF _ hm with h1 | h1
    · simp at h1; omega
    · exact h1 g n cap hv rfl

theorem converted_of (w : World) (a : Option Addr) (len cap : Nat) (f : Nat → Nat → Int) (h : Recs 3 w a len f) :
    Calls Try.prog 23 #[.slice a len cap] w fun e w' => ∃ v, e = .returned v ∧ DeedsAt w' w.heap.size v f (min len 200) ∧ Only [] w w' := by
  refine calls_abs fun R hR => ?_
  obtain ⟨hlen, hrec⟩ := h
  have HREC := Lib.hid hrec
  obtain ⟨i0, hi, hz0, hz1, hz2⟩ := info_parts infoRDeed
  have HZ0 := Lib.hid hz0
  have HZ1 := Lib.hid hz1
  have HZ2 := Lib.hid hz2
  have HI := Lib.hid hi
  clear hz0 hz1 hz2 hi hrec
  go_enter Try.func23, Try.ntmps23
  go_wp2_with fail
  go_loopw [3, 4] (fun v i wr => ∃ k : Nat, k ≤ len ∧ k ≤ 200 ∧ i = .int .i64 k ∧ Deeds wr w.heap.size v f k ∧ Only [] w wr) (fun _ i _ => 200 - (intOf i).toNat)
  case atStart => exact ⟨0, by omega, by omega, rfl, World.ownsRow_nil _ _ _ _, Only.refl _ _⟩
  case round =>
    obtain ⟨k, hk, hk2, rfl, hd, ho⟩ := hrel
    by_cases hlt : k < len
    · by_cases hlt2 : k < 200
      · rcases HREC.out with h0 | ⟨b, o, rfl, hc⟩
        · omega
        have c0 := ho.cell (hc k hlt 0 (by omega)).1 (by simp)
        have c1 := ho.cell (hc k hlt 1 (by omega)).1 (by simp)
        have c2 := ho.cell (hc k hlt 2 (by omega)).1 (by simp)
        rw [Nat.add_zero] at c0
        rw [← Nat.add_assoc] at c1 c2
        have hbw : b < w.heap.size := World.block_lt_of_cell? w _ (hc k hlt 0 (by omega)).1
        have ag : u3.ownBlock ≠ some b := fun e => by have := World.ownsRow.lt hd b e; omega
        have lb : b < wr.heap.size := World.block_lt_of_cell? wr _ c0
        have hs1 := ho.size
        have HD := Lib.hid hd
        have HO := Lib.hid ho
        clear hc hd ho
        go_wp2_with fail
        go_region_held3 (fun w' => w'.cell? ⟨b, o + k * 3, none⟩ = some (.int .i64 (f k 0)) ∧ w'.cell? ⟨b, o + k * 3 + 1, none⟩ = some (.int .i64 (f k 1)) ∧ w'.cell? ⟨b, o + k * 3 + 2, none⟩ = some (.int .i64 (f k 2)))
          (first
            | (go_keep; done)
            | (go_split_ands
               refine ⟨?_, ?_, ?_⟩
               · (rw [hgrow.cell_far _ (by simp; omega) (Ne.symm ag)]; assumption)
               · (rw [hgrow.cell_far _ (by simp; omega) (Ne.symm ag)]; assumption)
               · (rw [hgrow.cell_far _ (by simp; omega) (Ne.symm ag)]; assumption)))
          ((refine step_append_lies _ (by rfl) _ _ 42 (by rfl) w.heap.size 65 i0 _ 3 24 Try.underlying42 HI.out HZ0.out HZ1.out HZ2.out rfl (by omega) u3 k (deedCells f k) (by rfl) ((HD.out.alloc _).drew)
              ⟨wr.heap.size, 0, none⟩ 1 1 [.int .i64 (f k 0), .int .i64 (f k 1), .int .i64 (f k 2)] (by rfl) (by rfl) (World.news_of_block (cs := #[.int .i64 (f k 0), .int .i64 (f k 1), .int .i64 (f k 2)]) (t := 65) (fr := (0, 0)) (heap_alloc_new wr _)) (by simp [Value.oneCell'])
              (by omega) (by simp only [maxLen]; omega) (by omega) (by simp; omega) (wr.heap.size + 1) (by simp) ?_; intro gg cap w1 hown1 hgrow hat hlt1))
        rename_i hHeld
        clear hHeld
        have O1 : Hid (Only [] w w1) := ((HO.out.drewN 1).alloc _).grown hgrow (fun x hx => .inr (by
          have := World.ownsRow.lt HD.out x hx
          omega))
        have D1 : Hid (Deeds w1 w.heap.size (.slice (some ⟨gg, 0, none⟩) (k + 1) cap) f (k + 1)) := by
          show World.ownsRow _ _ _ _ _ _ _
          rw [deedCells_succ]
          exact hown1
        clear hown1 hgrow hat hlt1
        go_wp2_with fail
        exact ⟨⟨k + 1, by omega, by omega, by go_num, D1.out, O1.out⟩, by simp [intOf]; omega⟩
      · have HD := Lib.hid hd
        have HO := Lib.hid ho
        clear hd ho
        go_wp2_with fail
        exact hR.out _ _ ⟨_, rfl, by rw [show min len 200 = k by omega]; exact HD.out.at, HO.out⟩
    · have HD := Lib.hid hd
      have HO := Lib.hid ho
      clear hd ho
      go_wp2_with fail
      exact hR.out _ _ ⟨_, rfl, by rw [show min len 200 = k by omega]; exact HD.out.at, HO.out⟩
end Go.Proofs.Ytngmiacekcmidaa
