/- Contracts of package block's pools over the model Pl: Move whole, Copy, Moves, New. -/
import Derived.Test.YtngmiacekcmidaaBlockI
import Derived.Laws.AppendOwnNone
namespace Go.Proofs.Ytngmiacekcmidaa
open Go.RowKit
set_option maxHeartbeats 1600000
set_option maxRecDepth 100000
set_option linter.unusedVariables false

theorem move_rep (w : World) (p b : Nat) (P : Pl) (h : PRep w p b P) :
    Calls Try.prog 18 #[.pointer (some ⟨p, 0, none⟩)] w fun e w' =>
      e = .returned (.tuple #[.int .i64 P.move.1, .int .i64 P.move.2.1, .int .i64 P.move.2.2.1]) ∧ PRep w' p b P.move.2.2.2 ∧ Only [b] w w' := by
  cases hp : P.pair with
  | none =>
    rw [Pl.move_none hp]
    exact (move_none w p b P h hp).mono fun e w' ⟨he, hd⟩ => ⟨he, h.drewTo hd, hd.only _⟩
  | some x =>
    obtain ⟨i, j⟩ := x
    rw [Pl.move_some hp]
    exact move_some w p b P h i j hp

def pgZero : Value := .agg ((Value.int .i64 0 :: List.replicate 8 (Value.bool false)) ++ List.replicate 16 (Value.int .i64 0)).toArray
theorem infoPage : (Try.prog.info? 75).map (fun i => (i.zero, i.size, i.bytes)) = some (some pgZero, 25, 144) := by kernel_rfl
/-- All cells of a pool's pages. -/
def Pl.row (P : Pl) : List Value := (List.range (P.n * 25)).map fun x => (P.pg (x / 25)).at (x % 25)
theorem Pl.row_len (P : Pl) : P.row.length = P.n * 25 := by simp [Pl.row]
theorem Pg.at_one (p : Pg) (r : Nat) : (p.at r).oneCell' = true := by
  unfold Pg.at
  split
  · rfl
  · split <;> rfl

theorem clonePages (w : World) (b n c : Nat) (P : Pl) (hn : n = P.n) (h24 : n ≤ 24) (hp : ∀ i, i < P.n → PgAt w b (i * 25) (P.pg i)) (h1 : 1 ≤ n) :
    Calls Try.prog 69 #[.slice (some ⟨b, 0, none⟩) n c] w fun e w' =>
      ∃ g cap, e = .returned (.slice (some ⟨g, 0, none⟩) n cap) ∧ (∃ T cs, Row w' g T cs) ∧ (∀ i, i < P.n → PgAt w' g (i * 25) (P.pg i)) ∧ Only [] w w' ∧ w.heap.size ≤ g := by
  have hq := fun (wx : World) => Lib.run_eql_slice_nil (P := Try.prog) wx 71 75 (some ⟨b, 0, none⟩) n c 0 0 Try.underlying71
  have HP := Lib.hid hp
  have HN := Lib.hid hn
  clear hp hn
  obtain ⟨i0, hi, hz0, hz1, hz2⟩ := info_parts infoPage
  have HZ0 := Lib.hid hz0
  have HZ1 := Lib.hid hz1
  have HZ2 := Lib.hid hz2
  have HI := Lib.hid hi
  clear hz0 hz1 hz2 hi
  refine calls_abs fun R hR => ?_
  go_enter Try.func69, Try.ntmps69
  go_wp2_with (at_builtin; refine wpList_append_own2 rfl _ _ 71 rfl w.heap.size 75 i0 pgZero 25 144 Try.underlying71 HI.out HZ0.out HZ1.out HZ2.out rfl (by decide) _ 0 [] rfl (World.ownsRow_made w #[] 0 (Nat.le_refl _) (by simp [maxLen]) rfl) ⟨b, 0, none⟩ n c P.row rfl ?_ ?_ ?_ ?_ ?_ ?_ ?_)
  · rw [Pl.row_len, HN.out]
  · intro j u hu
    obtain ⟨hj, rfl⟩ := range_map_at hu
    rw [addr_add, Nat.zero_add]
    have h2 := HP.out (j / 25) (by omega) (j % 25) (by omega)
    rw [show j / 25 * 25 + j % 25 = j by omega] at h2
    exact ((Only.refl [] w).alloc _).cell h2 (by simp)
  · intro u hu
    simp only [Pl.row, List.mem_map] at hu
    obtain ⟨x, _, rfl⟩ := hu
    exact Pg.at_one _ _
  · simp [maxLen]; omega
  · omega
  · simp
  · intro v w1 hv ho hn1 hblk
    have HO := Lib.hid ho
    have HV := Lib.hid hv
    have HN1 := Lib.hid hn1
    have HB := Lib.hid hblk
    clear ho hv hn1 hblk
    go_wp2_with fail
    have hv := HV.out
    rcases hv.2 with ⟨hz, hz2⟩ | ⟨g, cap, cur, hve, hg, hh, hcc, hm, hs, ht⟩
    · omega
    · have hcell : ∀ x, x < P.n * 25 → w1.cell? ⟨g, x, none⟩ = some ((P.pg (x / 25)).at (x % 25)) := by
        intro x hx
        have h3 := World.ownsRow.cells hv (g := g) (by rw [hve]; rfl) x ((P.pg (x / 25)).at (x % 25)) (by simp [Pl.row, hx])
        rw [addr_add, Nat.zero_add] at h3
        exact h3
      refine hR.out _ _ ⟨g, cap, by rw [hve]; rfl, ⟨75, cur.toList, by unfold Row; rw [hh]⟩, fun i hi r hr => ?_, ?_, hg⟩
      · rw [hcell (i * 25 + r) (by omega)]
        congr 2
        · congr 1; omega
        · omega
      · exact ((Only.refl [] w).alloc _).grown HO.out (fun k hk => by
          right
          simp [Value.ownBlock] at hk
          omega)
theorem copy_rep (w : World) (p b : Nat) (P : Pl) (h : PRep w p b P) :
    Calls Try.prog 43 #[.pointer (some ⟨p, 0, none⟩)] w fun e w' =>
      ∃ p' b', e = .returned (.pointer (some ⟨p', 0, none⟩)) ∧ PRep w' p' b' P ∧ Only [] w w' ∧ w.heap.size ≤ p' ∧ w.heap.size ≤ b' := by
  refine calls_abs fun R hR => ?_
  obtain ⟨cap, z0, zf, zfb, _⟩ := h.facts
  have H := Lib.hid h
  clear h
  go_enter Try.func43, Try.ntmps43
  go_wp2_with fail
  refine (none_rep _ _ _ _ H.out).mono ?_
  rintro e _ ⟨rfl, rfl⟩
  go_wp2_with fail
  refine (clonePages w b P.n cap P rfl H.out.n24 H.out.pg H.out.n1).mono ?_
  rintro e w2 ⟨g, cap2, rfl, hrow, hpg, ho, hg⟩
  have HROW := Lib.hid hrow
  have HPG := Lib.hid hpg
  clear hrow hpg
  go_wp2_with fail
  refine hR.out _ _ ⟨w2.heap.size, g, rfl, ?_, ho.alloc _, ho.size, hg⟩
  have hga : g < w2.heap.size := by obtain ⟨T, cs, hc⟩ := HROW.out; exact hc.lt
  refine ⟨⟨_, cap2, Row.new w2 _ [_]⟩, ?_, fun i hi => ?_, by omega, H.out.n1, H.out.n24, H.out.ok⟩
  · obtain ⟨T, cs, hc⟩ := HROW.out
    exact ⟨T, cs, hc.alloc _⟩
  · exact (HPG.out i hi).only ((Only.refl [] w2).alloc _) (by simp)
theorem copy_nil (w : World) :
    Calls Try.prog 43 #[.pointer none] w (Exact w (.pointer none)) := by
  refine calls_abs fun R hR => ?_
  go_enter Try.func43, Try.ntmps43
  go_wp2_with fail
  refine (none_nil _).mono ?_
  rintro e _ ⟨rfl, rfl⟩
  go_wp2_with fail
  exact hR.out _ _ ⟨rfl, rfl⟩

theorem moves_rep (w : World) (p b : Nat) (P : Pl) (h : PRep w p b P) :
    Calls Try.prog 29 #[.pointer (some ⟨p, 0, none⟩)] w fun e w' => e = .returned (.int .i64 (P.moves : Int)) ∧ Only [] w w' := by
  refine calls_abs fun R hR => ?_
  have h24 := h.n24
  have hml := P.moves_le
  have H := Lib.hid h
  clear h
  go_enter Try.func29, Try.ntmps29
  go_wp2_with fail
  refine (copy_rep _ _ _ _ H.out).mono ?_
  rintro e w2 ⟨q, g, rfl, hQ, ho, hq1, hq2⟩
  go_wp2_with fail
  go_loopw [3] (fun v3 wr => ∃ (m : Nat) (Q : Pl), v3 = .int .i64 m ∧ m + Q.moves = P.moves ∧ PRep wr q g Q ∧ Only [] w wr) (fun v3 _ => P.moves - (intOf v3).toNat)
  case atStart => exact ⟨0, P, rfl, by omega, hQ, ho⟩
  case round =>
    clear hQ ho
    obtain ⟨m, Q, rfl, hm, hQ, ho⟩ := hrel
    have hmle : m ≤ P.moves := by omega
    have HM := Lib.hid hm
    clear hm
    cases hp : Q.pair with
    | none =>
      have hmv := move_none wr q g Q hQ hp
      have hN : Hid (P.moves = m) := by have := HM.out; rw [Pl.moves_none hp] at this; show _ = _; omega
      clear hp
      go_wp2_with fail
      refine hmv.mono ?_
      rintro e w3 ⟨rfl, hd⟩
      go_wp2_with fail
      exact hR.out _ _ ⟨by rw [hN.out]; rfl, ho.trans (hd.only []) (by simp)⟩
    | some x =>
      obtain ⟨i, j⟩ := x
      have hmv := move_some wr q g Q hQ i j hp
      have hN : Hid (m + 1 + (Q.moved i j).moves = P.moves) := by have := HM.out; rw [Pl.moves_some hQ.ok hp] at this; show _ = _; omega
      have hlt : m + 1 ≤ P.moves := by have := hN.out; omega
      generalize ((16 * i + (Q.pg i).top (Q.pg i).cls * bsz (Q.pg i).cls : Nat) : Int) = v1 at hmv
      generalize ((16 * j + (Q.pg j).gap (Q.pg j).cls * bsz (Q.pg i).cls : Nat) : Int) = v2 at hmv
      clear hp
      go_wp2_with fail
      refine hmv.mono ?_
      rintro e w3 ⟨rfl, hQ3, ho3⟩
      go_wp2_with fail
      exact ⟨⟨m + 1, Q.moved i j, by go_num, hN.out, hQ3, ho.trans ho3 (fun x hx => .inr (by simp at hx; omega))⟩, by simp [intOf]; omega⟩
theorem moves_nil (w : World) :
    Calls Try.prog 29 #[.pointer none] w fun e w' => e = .returned (.int .i64 0) ∧ w = w' := by
  refine calls_abs fun R hR => ?_
  go_enter Try.func29, Try.ntmps29
  go_wp2_with fail
  refine (copy_nil _).mono ?_
  rintro e _ ⟨rfl, rfl⟩
  go_wp2_with fail
  go_loopw [3] (fun v3 wr => v3 = .int .i64 0 ∧ wr = w) (fun v3 _ => 0)
  case atStart => exact ⟨rfl, rfl⟩
  case round =>
    obtain ⟨rfl, rfl⟩ := hrel
    go_wp2_with fail
    refine (move_nil _).mono ?_
    rintro e _ ⟨rfl, rfl⟩
    go_wp2_with fail
    exact hR.out _ _ ⟨rfl, rfl⟩
end Go.Proofs.Ytngmiacekcmidaa
