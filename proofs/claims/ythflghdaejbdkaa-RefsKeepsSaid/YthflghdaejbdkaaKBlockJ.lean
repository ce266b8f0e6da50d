/- Lemmas of this claim. -/
import Derived.Test.YthflghdaejbdkaaKBlock
import Derived.Test.YthflghdaejbdkaaKBModel
import Derived.Laws.AppendOwnNone
import Derived.OwnWalk
namespace Go.Proofs.Ythflghdaejbdkaa
open Go.RowKit
set_option maxHeartbeats 1600000
set_option maxRecDepth 100000
set_option linter.unusedVariables false
def pgZero : Value := .agg ((Value.int .i64 0 :: List.replicate 8 (Value.bool false)) ++ List.replicate 16 (Value.int .i64 0)).toArray
theorem infoPage : (Try.prog.info? 132).map (fun i => (i.zero, i.size, i.bytes)) = some (some pgZero, 25, 144) := by kernel_rfl
def Pl.row (P : Pl) : List Value := (List.range (P.n * 25)).map fun x => (P.pg (x / 25)).at (x % 25)
theorem Pl.row_len (P : Pl) : P.row.length = P.n * 25 := by simp [Pl.row]
theorem Pg.at_one (p : Pg) (r : Nat) : (p.at r).oneCell' = true := by
  unfold Pg.at
  split
  · rfl
  · split <;> rfl
theorem clonePages (w : World) (b n c : Nat) (P : Pl) (hn : n = P.n) (h24 : n ≤ 24) (hp : ∀ i, i < P.n → PgAt w b (i * 25) (P.pg i)) (h1 : 1 ≤ n) :
    Calls Try.prog 77 #[.slice (some ⟨b, 0, none⟩) n c] w fun e w' =>
      ∃ g cap, e = .returned (.slice (some ⟨g, 0, none⟩) n cap) ∧ (∃ T cs, Row w' g T cs) ∧ (∀ i, i < P.n → PgAt w' g (i * 25) (P.pg i)) ∧ Only [] w w' ∧ w.heap.size ≤ g := by
  have hq := fun (wx : World) => Lib.run_eql_slice_nil (P := Try.prog) wx 126 132 (some ⟨b, 0, none⟩) n c 0 0 Try.underlying126
  have HP := Lib.hid hp
  have HN := Lib.hid hn
  clear hp hn
  obtain ⟨i0, hi, hz0, hz1, hz2⟩ := info_parts infoPage
  have HZ0 := Lib.hid hz0
  have HZ1 := Lib.hid hz1
  have HZ2 := Lib.hid hz2
  have HI := Lib.hid hi
  clear hz0 hz1 hz2 hi
  refine calls_abs fun R hR => ?_
  go_enter Try.func77, Try.ntmps77
  go_wp2_with (at_builtin; refine wpList_append_own2 rfl _ _ 126 rfl w.heap.size 132 i0 pgZero 25 144 Try.underlying126 HI.out HZ0.out HZ1.out HZ2.out rfl (by decide) _ 0 [] rfl (World.ownsRow_made w #[] 0 (Nat.le_refl _) (by simp [maxLen]) rfl) ⟨b, 0, none⟩ n c P.row rfl ?_ ?_ ?_ ?_ ?_ ?_ ?_)
  · rw [Pl.row_len, HN.out]
  · intro j u hu
    obtain ⟨hj, rfl⟩ := range_map_at hu
    rw [addr_add, Nat.zero_add]
    have h2 := HP.out (j / 25) (by omega) (j % 25) (by omega)
    rw [show j / 25 * 25 + j % 25 = j by omega] at h2
    exact ((Only.refl [] w).alloc _).cell h2 (by simp)
  · intro u hu
    simp only [Pl.row, List.mem_map] at hu
    obtain ⟨x, _, rfl⟩ := hu
    exact Pg.at_one _ _
  · simp [maxLen]; omega
  · omega
  · simp
  · intro v w1 hv ho hn1 hblk
    have HO := Lib.hid ho
    have HV := Lib.hid hv
    have HN1 := Lib.hid hn1
    have HB := Lib.hid hblk
    clear ho hv hn1 hblk
    go_wp2_with fail
    have hv := HV.out
    rcases hv.2 with ⟨hz, hz2⟩ | ⟨g, cap, cur, hve, hg, hh, hcc, hm, hs, ht⟩
    · omega
    · have hcell : ∀ x, x < P.n * 25 → w1.cell? ⟨g, x, none⟩ = some ((P.pg (x / 25)).at (x % 25)) := by
        intro x hx
        have h3 := World.ownsRow.cells hv (g := g) (by rw [hve]; rfl) x ((P.pg (x / 25)).at (x % 25)) (by simp [Pl.row, hx])
        rw [addr_add, Nat.zero_add] at h3
        exact h3
      refine hR.out _ _ ⟨g, cap, by rw [hve]; rfl, ⟨132, cur.toList, by unfold Row; rw [hh]⟩, fun i hi r hr => ?_, ?_, hg⟩
      · rw [hcell (i * 25 + r) (by omega)]
        congr 2
        · congr 1; omega
        · omega
      · exact ((Only.refl [] w).alloc _).grown HO.out (fun k hk => by
          right
          simp [Value.ownBlock] at hk
          omega)
theorem copy_rep (w : World) (p b : Nat) (P : Pl) (h : PRep w p b P) :
    Calls Try.prog 64 #[.pointer (some ⟨p, 0, none⟩)] w fun e w' =>
      ∃ p' b', e = .returned (.pointer (some ⟨p', 0, none⟩)) ∧ PRep w' p' b' P ∧ Only [] w w' ∧ w.heap.size ≤ p' ∧ w.heap.size ≤ b' := by
  refine calls_abs fun R hR => ?_
  obtain ⟨cap, z0, zf, zfb, _⟩ := h.facts
  have H := Lib.hid h
  clear h
  go_enter Try.func64, Try.ntmps64
  go_wp2_with fail
  refine (none_rep _ _ _ _ H.out).mono ?_
  rintro e _ ⟨rfl, rfl⟩
  go_wp2_with fail
  refine (clonePages w b P.n cap P rfl H.out.n24 H.out.pg H.out.n1).mono ?_
  rintro e w2 ⟨g, cap2, rfl, hrow, hpg, ho, hg⟩
  have HROW := Lib.hid hrow
  have HPG := Lib.hid hpg
  clear hrow hpg
  go_wp2_with fail
  refine hR.out _ _ ⟨w2.heap.size, g, rfl, ?_, ho.alloc _, ho.size, hg⟩
  have hga : g < w2.heap.size := by obtain ⟨T, cs, hc⟩ := HROW.out; exact hc.lt
  refine ⟨⟨_, cap2, Row.new w2 _ [_]⟩, ?_, fun i hi => ?_, by omega, H.out.n1, H.out.n24, H.out.ok⟩
  · obtain ⟨T, cs, hc⟩ := HROW.out
    exact ⟨T, cs, hc.alloc _⟩
  · exact (HPG.out i hi).only ((Only.refl [] w2).alloc _) (by simp)
end Go.Proofs.Ythflghdaejbdkaa
namespace Go.Proofs.Ythflghdaejbdkaa
open Go.RowKit
set_option maxHeartbeats 1600000
set_option maxRecDepth 100000
set_option linter.unusedVariables false
def Pg.nought : Pg := { cls := 0, used := fun _ => false, cell := fun _ => 0 }
theorem nought_cells : pgZero.cells.toList = (List.range 25).map Pg.nought.at := by rfl
theorem made_page {n x : Nat} (hx : x < n * 25) : (madeCells pgZero.cells (n * 25)).toList[x]? = some (Pg.nought.at (x % 25)) := by
  have h1 : pgZero.cells.size = 25 := rfl
  have h2 : ∀ r, r < 25 → pgZero.cells[r]? = some (Pg.nought.at r) := by
    intro r hr
    rw [← Array.getElem?_toList, nought_cells]
    simp [hr]
  have h3 := h2 (x % 25) (by omega)
  rw [Array.getElem?_toList]
  unfold madeCells
  rw [Array.getElem?_map, show (Array.range (n * 25))[x]? = some x by simp [hx]]
  simp only [Option.map_some, h1]
  rw [getElem!_def, h3]
def HasRow (w : World) (b : Nat) : Prop := ∃ T cs, Row w b T cs
theorem make_pages {w : World} {ops : Array Oper} {rest : List Oper} {o : Oper} {a : Act} {Q : Exit → Act → World → Prop} (hgd : o.guard = none) (x y : Operand)
    (ho : o.op = Op.makeSlice 126 x y) (n : Nat) (hl : a.eval x = .int .i64 n) (hc : a.eval y = .int .i64 n) (hn : n ≤ 24) (h1 : 1 ≤ n)
    (h : ∀ w', HasRow w' w.heap.size → Hid (∀ x, x < n * 25 → w'.cell? ⟨w.heap.size, x, none⟩ = some (Pg.nought.at (x % 25))) → Only [] w w' → wpList Try.prog ops Q rest (a.put o.dst (.slice (some ⟨w.heap.size, 0, none⟩) n n)) w') : wpList Try.prog ops Q (o :: rest) a w := by
  obtain ⟨i0, hi, hz0, hz1, hz2⟩ := info_parts infoPage
  refine wpList_make_full w hgd x y 126 ho w.heap.size 132 i0 pgZero 25 Try.underlying126 hi hz0 hz1 .i64 .i64 n n n hl hc rfl rfl (by rw [hz2]; omega) (by simp only [maxLen]; omega) (Nat.le_refl _) (fun w2 hown hgrow => h w2 ?_ ?_ ?_)
  · rcases hown.2 with ⟨hz, _⟩ | ⟨g, cap, cur, hve, hg, hh, _⟩
    · simp at hz
    · simp only [Value.slice.injEq, Option.some.injEq, Addr.mk.injEq] at hve
      obtain ⟨⟨rfl, _⟩, _⟩ := hve
      exact ⟨132, cur.toList, by unfold Row; rw [hh]⟩
  · intro x hx
    have h3 := World.ownsRow.cells hown (g := w.heap.size) rfl x (Pg.nought.at (x % 25)) (made_page hx)
    rwa [addr_add, Nat.zero_add] at h3
  · exact (Only.refl _ _).grown hgrow (fun k hk => by simp at hk)
theorem new_yes (w : World) (n : Nat) (h1 : 1 ≤ n) (h24 : n ≤ 24) :
    Calls Try.prog 37 #[.int .i64 n] w fun e w' =>
      ∃ p b, e = .returned (.tuple #[.pointer (some ⟨p, 0, none⟩), .int .i64 0]) ∧ PRep w' p b (Pl.zero n) ∧ Only [] w w' ∧ w.heap.size ≤ p ∧ w.heap.size ≤ b := by
  refine calls_abs fun R hR => ?_
  have h1' : decide ((n : Int) < 1) = false := by simp; omega
  have h2' : decide (24 < (n : Int)) = false := by simp; omega
  go_enter Try.func37, Try.ntmps37
  go_wp2_with (refine make_pages rfl _ _ rfl n rfl rfl h24 h1 ?_)
  · intro w2 hrow hcell0 ho
    have hcell := hcell0.out
    clear hcell0
    have hlt : w.heap.size < w2.heap.size := by obtain ⟨T, cs, hc⟩ := hrow; exact hc.lt
    generalize hgg : w.heap.size = g at *
    have HG := Lib.hid hgg
    have hst : (∃ T cs, Row (w2.alloc (.cells #[.slice (some ⟨g, 0, none⟩) n n] 128)) g T cs) ∧ (∀ i, i < n → PgAt (w2.alloc (.cells #[.slice (some ⟨g, 0, none⟩) n n] 128)) g (i * 25) Pg.nought) ∧
        Row (w2.alloc (.cells #[.slice (some ⟨g, 0, none⟩) n n] 128)) w2.heap.size 128 [.slice (some ⟨g, 0, none⟩) n n] ∧ Only [] w (w2.alloc (.cells #[.slice (some ⟨g, 0, none⟩) n n] 128)) := by
      refine ⟨?_, fun i hi => ?_, Row.new _ _ _, ho.alloc _⟩
      · obtain ⟨T, cs, hc⟩ := hrow
        exact ⟨T, cs, hc.alloc _⟩
      · intro r hr
        have h5 := ((Only.refl [] w2).alloc (.cells #[.slice (some ⟨g, 0, none⟩) n n] 128)).cell (hcell (i * 25 + r) (by omega)) (by simp)
        rw [show (i * 25 + r) % 25 = r by omega] at h5
        exact h5
    have HST := Lib.hid hst
    have hne : w2.heap.size ≠ g := by omega
    have z0 : (w2.alloc (.cells #[.slice (some ⟨g, 0, none⟩) n n] 128)).cell? ⟨w2.heap.size, 0, none⟩ = some (.slice (some ⟨g, 0, none⟩) n n) := hst.2.2.1.cell 0 rfl
    clear hrow hcell ho hst hgg
    go_wp2_with fail
    generalize hpp : w2.heap.size = p at *
    have HPP := Lib.hid hpp
    generalize w2.alloc (.cells #[.slice (some ⟨g, 0, none⟩) n n] 128) = w3 at *
    clear hpp z0
    go_loopw [21] (fun v wr => ∃ k : Nat, k ≤ n ∧ v = .int .i64 k ∧ (∃ T cs, Row wr g T cs) ∧ (∀ i, i < n → PgAt wr g (i * 25) (if i < k then Pg.zero else Pg.nought)) ∧ Row wr p 128 [.slice (some ⟨g, 0, none⟩) n n] ∧ Only [] w wr) (fun v _ => n - (intOf v).toNat)
    case atStart =>
      obtain ⟨s1, s2, s3, s4⟩ := HST.out
      exact ⟨0, by omega, rfl, s1, fun i hi => by simp only [Nat.not_lt_zero, if_false]; exact s2 i hi, s3, s4⟩
    case round =>
      obtain ⟨k, hk, rfl, s1, s2, s3, s4⟩ := hrel
      have z0 := s3.cell 0 rfl
      have zf : ∀ x, wr.frozen? ⟨g, x, none⟩ = false := by obtain ⟨T, cs, hc⟩ := s1; exact hc.free
      by_cases hlt2 : k < n
      · have hpc := s2 k hlt2
        simp only [Nat.lt_irrefl, if_false] at hpc
        have hc0 := hpc.cls
        have S1 := Lib.hid s1
        have S2 := Lib.hid s2
        have HPC := Lib.hid hpc
        clear s1 s2 hpc
        go_wp2_with fail
        refine ⟨⟨k + 1, by omega, by go_num, ?_, fun i hi => ?_, s3.other (by simp; omega) _, s4.set (.inr (by have := HG.out; simp; omega)) _⟩, by simp [intOf]; omega⟩
        · obtain ⟨T, cs, hc⟩ := S1.out
          exact ⟨T, _, hc.set _ _⟩
        · by_cases e : i = k
          · subst e
            rw [if_pos (by omega)]
            exact HPC.out.setCls (-1)
          · have h5 := (S2.out i hi).other (a := ⟨g, k * 25, none⟩) (.int .i64 (-1)) (fun _ _ => by simp; omega)
            by_cases h6 : i < k
            · rw [if_pos (by omega)]; rw [if_pos h6] at h5; exact h5
            · rw [if_neg (by omega)]; rw [if_neg h6] at h5; exact h5
      · obtain rfl : k = n := by omega
        have S1 := Lib.hid s1
        have S2 := Lib.hid s2
        clear s1 s2
        go_wp2_with fail
        refine hR.out _ _ ⟨p, g, rfl, ⟨⟨_, _, s3⟩, S1.out, fun i hi => ?_, by omega, h1, h24, Pl.zero_ok _⟩, s4, by have := HG.out; have := HPP.out; omega, by have := HG.out; omega⟩
        have h5 := S2.out i hi
        rw [if_pos (show i < k from hi)] at h5
        exact h5
end Go.Proofs.Ythflghdaejbdkaa
namespace Go.Proofs.Ythflghdaejbdkaa
open Go.RowKit
set_option maxHeartbeats 1600000
set_option maxRecDepth 100000
set_option linter.unusedVariables false
end Go.Proofs.Ythflghdaejbdkaa
namespace Go.Proofs.Ythflghdaejbdkaa
open Go.RowKit
set_option maxHeartbeats 1600000
set_option maxRecDepth 100000
set_option linter.unusedVariables false
end Go.Proofs.Ythflghdaejbdkaa
namespace Go.Proofs.Ythflghdaejbdkaa
open Go.RowKit
set_option maxHeartbeats 1600000
set_option maxRecDepth 100000
set_option linter.unusedVariables false
def sP0 : Pl := Pl.zero 2
def sP1 : Pl := (sP0.alloc 2).2.2
def sP2 : Pl := (sP1.alloc 2).2.2
def sP3 : Pl := (sP2.alloc 2).2.2
theorem s1 : (sP0.alloc 2).1 = 0 ∧ (sP0.alloc 2).2.1 = 0 := by decide +kernel
theorem s2 : (sP1.alloc 2).1 = 8 ∧ (sP1.alloc 2).2.1 = 0 := by decide +kernel
theorem s3 : (sP2.alloc 2).1 = 16 ∧ (sP2.alloc 2).2.1 = 0 := by decide +kernel
theorem s4 : (sP3.free 0).1 = 0 := by decide +kernel
end Go.Proofs.Ythflghdaejbdkaa
