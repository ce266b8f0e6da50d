/- Contracts of package block's pools over the model Pl: New, Class, Used, Room, Pages. -/
import Derived.Test.YtngmiacekcmidaaBlockJ
import Derived.OwnWalk
namespace Go.Proofs.Ytngmiacekcmidaa
open Go.RowKit
set_option maxHeartbeats 1600000
set_option maxRecDepth 100000
set_option linter.unusedVariables false

def Pg.nought : Pg := { cls := 0, used := fun _ => false, cell := fun _ => 0 }
theorem nought_cells : pgZero.cells.toList = (List.range 25).map Pg.nought.at := by rfl
theorem made_page {n x : Nat} (hx : x < n * 25) : (madeCells pgZero.cells (n * 25)).toList[x]? = some (Pg.nought.at (x % 25)) := by
  have h1 : pgZero.cells.size = 25 := rfl
  have h2 : ∀ r, r < 25 → pgZero.cells[r]? = some (Pg.nought.at r) := by
    intro r hr
    rw [← Array.getElem?_toList, nought_cells]
    simp [hr]
  have h3 := h2 (x % 25) (by omega)
  rw [Array.getElem?_toList]
  unfold madeCells
  rw [Array.getElem?_map, show (Array.range (n * 25))[x]? = some x by simp [hx]]
  simp only [Option.map_some, h1]
  rw [getElem!_def, h3]
def HasRow (w : World) (b : Nat) : Prop := ∃ T cs, Row w b T cs
/-- make([]page, n). -/
theorem make_pages {w : World} {ops : Array Oper} {rest : List Oper} {o : Oper} {a : Act} {Q : Exit → Act → World → Prop} (hgd : o.guard = none) (x y : Operand)
    (ho : o.op = Op.makeSlice 71 x y) (n : Nat) (hl : a.eval x = .int .i64 n) (hc : a.eval y = .int .i64 n) (hn : n ≤ 24) (h1 : 1 ≤ n)
    (h : ∀ w', HasRow w' w.heap.size → Hid (∀ x, x < n * 25 → w'.cell? ⟨w.heap.size, x, none⟩ = some (Pg.nought.at (x % 25))) → Only [] w w' → wpList Try.prog ops Q rest (a.put o.dst (.slice (some ⟨w.heap.size, 0, none⟩) n n)) w') : wpList Try.prog ops Q (o :: rest) a w := by
  obtain ⟨i0, hi, hz0, hz1, hz2⟩ := info_parts infoPage
  refine wpList_make_full w hgd x y 71 ho w.heap.size 75 i0 pgZero 25 Try.underlying71 hi hz0 hz1 .i64 .i64 n n n hl hc rfl rfl (by rw [hz2]; omega) (by simp only [maxLen]; omega) (Nat.le_refl _) (fun w2 hown hgrow => h w2 ?_ ?_ ?_)
  · rcases hown.2 with ⟨hz, _⟩ | ⟨g, cap, cur, hve, hg, hh, _⟩
    · simp at hz
    · simp only [Value.slice.injEq, Option.some.injEq, Addr.mk.injEq] at hve
      obtain ⟨⟨rfl, _⟩, _⟩ := hve
      exact ⟨75, cur.toList, by unfold Row; rw [hh]⟩
  · intro x hx
    have h3 := World.ownsRow.cells hown (g := w.heap.size) rfl x (Pg.nought.at (x % 25)) (made_page hx)
    rwa [addr_add, Nat.zero_add] at h3
  · exact (Only.refl _ _).grown hgrow (fun k hk => by simp at hk)
theorem new_bad (w : World) (n : Int) (h : n < 1 ∨ 24 < n) :
    Calls Try.prog 32 #[.int .i64 n] w (Exact w (.tuple #[.pointer none, .int .i64 1])) := by
  refine calls_abs fun R hR => ?_
  by_cases h1 : n < 1
  · go_enter Try.func32, Try.ntmps32
    go_wp2_with fail
    exact hR.out _ _ ⟨rfl, rfl⟩
  · have h2 : 24 < n := by omega
    have h1' : decide (n < 1) = false := by simpa using h1
    clear h
    go_enter Try.func32, Try.ntmps32
    go_wp2_with fail
    exact hR.out _ _ ⟨rfl, rfl⟩
theorem new_yes (w : World) (n : Nat) (h1 : 1 ≤ n) (h24 : n ≤ 24) :
    Calls Try.prog 32 #[.int .i64 n] w fun e w' =>
      ∃ p b, e = .returned (.tuple #[.pointer (some ⟨p, 0, none⟩), .int .i64 0]) ∧ PRep w' p b (Pl.zero n) ∧ Only [] w w' ∧ w.heap.size ≤ p ∧ w.heap.size ≤ b := by
  refine calls_abs fun R hR => ?_
  have h1' : decide ((n : Int) < 1) = false := by simp; omega
  have h2' : decide (24 < (n : Int)) = false := by simp; omega
  go_enter Try.func32, Try.ntmps32
  go_wp2_with (refine make_pages rfl _ _ rfl n rfl rfl h24 h1 ?_)
  · intro w2 hrow hcell0 ho
    have hcell := hcell0.out
    clear hcell0
    have hlt : w.heap.size < w2.heap.size := by obtain ⟨T, cs, hc⟩ := hrow; exact hc.lt
    generalize hgg : w.heap.size = g at *
    have HG := Lib.hid hgg
    have hst : (∃ T cs, Row (w2.alloc (.cells #[.slice (some ⟨g, 0, none⟩) n n] 77)) g T cs) ∧ (∀ i, i < n → PgAt (w2.alloc (.cells #[.slice (some ⟨g, 0, none⟩) n n] 77)) g (i * 25) Pg.nought) ∧
        Row (w2.alloc (.cells #[.slice (some ⟨g, 0, none⟩) n n] 77)) w2.heap.size 77 [.slice (some ⟨g, 0, none⟩) n n] ∧ Only [] w (w2.alloc (.cells #[.slice (some ⟨g, 0, none⟩) n n] 77)) := by
      refine ⟨?_, fun i hi => ?_, Row.new _ _ _, ho.alloc _⟩
      · obtain ⟨T, cs, hc⟩ := hrow
        exact ⟨T, cs, hc.alloc _⟩
      · intro r hr
        have h5 := ((Only.refl [] w2).alloc (.cells #[.slice (some ⟨g, 0, none⟩) n n] 77)).cell (hcell (i * 25 + r) (by omega)) (by simp)
        rw [show (i * 25 + r) % 25 = r by omega] at h5
        exact h5
    have HST := Lib.hid hst
    have hne : w2.heap.size ≠ g := by omega
    have z0 : (w2.alloc (.cells #[.slice (some ⟨g, 0, none⟩) n n] 77)).cell? ⟨w2.heap.size, 0, none⟩ = some (.slice (some ⟨g, 0, none⟩) n n) := hst.2.2.1.cell 0 rfl
    clear hrow hcell ho hst hgg
    go_wp2_with fail
    generalize hpp : w2.heap.size = p at *
    have HPP := Lib.hid hpp
    generalize w2.alloc (.cells #[.slice (some ⟨g, 0, none⟩) n n] 77) = w3 at *
    clear hpp z0
    go_loopw [21] (fun v wr => ∃ k : Nat, k ≤ n ∧ v = .int .i64 k ∧ (∃ T cs, Row wr g T cs) ∧ (∀ i, i < n → PgAt wr g (i * 25) (if i < k then Pg.zero else Pg.nought)) ∧ Row wr p 77 [.slice (some ⟨g, 0, none⟩) n n] ∧ Only [] w wr) (fun v _ => n - (intOf v).toNat)
    case atStart =>
      obtain ⟨s1, s2, s3, s4⟩ := HST.out
      exact ⟨0, by omega, rfl, s1, fun i hi => by simp only [Nat.not_lt_zero, if_false]; exact s2 i hi, s3, s4⟩
    case round =>
      obtain ⟨k, hk, rfl, s1, s2, s3, s4⟩ := hrel
      have z0 := s3.cell 0 rfl
      have zf : ∀ x, wr.frozen? ⟨g, x, none⟩ = false := by obtain ⟨T, cs, hc⟩ := s1; exact hc.free
      by_cases hlt2 : k < n
      · have hpc := s2 k hlt2
        simp only [Nat.lt_irrefl, if_false] at hpc
        have hc0 := hpc.cls
        have S1 := Lib.hid s1
        have S2 := Lib.hid s2
        have HPC := Lib.hid hpc
        clear s1 s2 hpc
        go_wp2_with fail
        refine ⟨⟨k + 1, by omega, by go_num, ?_, fun i hi => ?_, s3.other (by simp; omega) _, s4.set (.inr (by have := HG.out; simp; omega)) _⟩, by simp [intOf]; omega⟩
        · obtain ⟨T, cs, hc⟩ := S1.out
          exact ⟨T, _, hc.set _ _⟩
        · by_cases e : i = k
          · subst e
            rw [if_pos (by omega)]
            exact HPC.out.setCls (-1)
          · have h5 := (S2.out i hi).other (a := ⟨g, k * 25, none⟩) (.int .i64 (-1)) (fun _ _ => by simp; omega)
            by_cases h6 : i < k
            · rw [if_pos (by omega)]; rw [if_pos h6] at h5; exact h5
            · rw [if_neg (by omega)]; rw [if_neg h6] at h5; exact h5
      · obtain rfl : k = n := by omega
        have S1 := Lib.hid s1
        have S2 := Lib.hid s2
        clear s1 s2
        go_wp2_with fail
        refine hR.out _ _ ⟨p, g, rfl, ⟨⟨_, _, s3⟩, S1.out, fun i hi => ?_, by omega, h1, h24, Pl.zero_ok _⟩, s4, by have := HG.out; have := HPP.out; omega, by have := HG.out; omega⟩
        have h5 := S2.out i hi
        rw [if_pos (show i < k from hi)] at h5
        exact h5
end Go.Proofs.Ytngmiacekcmidaa
