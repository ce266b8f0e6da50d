/- Lemmas of this claim. -/
import Derived.Test.YthflghdaejbdkaaGreatXfBlockH
import Derived.Laws.AppendOwnNone
import Derived.OwnWalk
import Derived.Test.YthflghdaejbdkaaGreatRows
import Derived.Test.YthflghdaejbdkaaGreatXfLib
import Derived.Test.YthflghdaejbdkaaGreatXfQModel
import Derived.Maps.RangeWalk
import Derived.Maps.Ext
namespace Go.Proofs.YthflghdaejbdkaaGreat
open Go.RowKit
set_option maxHeartbeats 1600000
set_option maxRecDepth 100000
set_option linter.unusedVariables false
theorem move_rep (w : World) (p b : Nat) (P : Pl) (h : PRep w p b P) :
    Calls Tryz.prog 137 #[.pointer (some ⟨p, 0, none⟩)] w fun e w' =>
      e = .returned (.tuple #[.int .i64 P.move.1, .int .i64 P.move.2.1, .int .i64 P.move.2.2.1]) ∧ PRep w' p b P.move.2.2.2 ∧ Only [b] w w' := by
  cases hp : P.pair with
  | none =>
    rw [Pl.move_none hp]
    exact (move_none w p b P h hp).mono fun e w' ⟨he, hd⟩ => ⟨he, h.drewTo hd, hd.only _⟩
  | some x =>
    obtain ⟨i, j⟩ := x
    rw [Pl.move_some hp]
    exact move_some w p b P h i j hp
def pgZero : Value := .agg ((Value.int .i64 0 :: List.replicate 8 (Value.bool false)) ++ List.replicate 16 (Value.int .i64 0)).toArray
theorem infoPage : (Tryz.prog.info? 232).map (fun i => (i.zero, i.size, i.bytes)) = some (some pgZero, 25, 144) := by kernel_rfl
def Pl.row (P : Pl) : List Value := (List.range (P.n * 25)).map fun x => (P.pg (x / 25)).at (x % 25)
theorem Pl.row_len (P : Pl) : P.row.length = P.n * 25 := by simp [Pl.row]
theorem Pg.at_one (p : Pg) (r : Nat) : (p.at r).oneCell' = true := by
  unfold Pg.at
  split
  · rfl
  · split <;> rfl
theorem clonePages (w : World) (b n c : Nat) (P : Pl) (hn : n = P.n) (h24 : n ≤ 24) (hp : ∀ i, i < P.n → PgAt w b (i * 25) (P.pg i)) (h1 : 1 ≤ n) :
    Calls Tryz.prog 206 #[.slice (some ⟨b, 0, none⟩) n c] w fun e w' =>
      ∃ g cap, e = .returned (.slice (some ⟨g, 0, none⟩) n cap) ∧ (∃ T cs, Row w' g T cs) ∧ (∀ i, i < P.n → PgAt w' g (i * 25) (P.pg i)) ∧ Only [] w w' ∧ w.heap.size ≤ g := by
  have hq := fun (wx : World) => Lib.run_eql_slice_nil (P := Tryz.prog) wx 227 232 (some ⟨b, 0, none⟩) n c 0 0 Tryz.underlying227
  have HP := Lib.hid hp
  have HN := Lib.hid hn
  clear hp hn
  obtain ⟨i0, hi, hz0, hz1, hz2⟩ := info_parts infoPage
  have HZ0 := Lib.hid hz0
  have HZ1 := Lib.hid hz1
  have HZ2 := Lib.hid hz2
  have HI := Lib.hid hi
  clear hz0 hz1 hz2 hi
  refine calls_abs fun R hR => ?_
  go_enter Tryz.func206, Tryz.ntmps206
  go_wp2_with (at_builtin; refine wpList_append_own2 rfl _ _ 227 rfl w.heap.size 232 i0 pgZero 25 144 Tryz.underlying227 HI.out HZ0.out HZ1.out HZ2.out rfl (by decide) _ 0 [] rfl (World.ownsRow_made w #[] 0 (Nat.le_refl _) (by simp [maxLen]) rfl) ⟨b, 0, none⟩ n c P.row rfl ?_ ?_ ?_ ?_ ?_ ?_ ?_)
  · rw [Pl.row_len, HN.out]
  · intro j u hu
    obtain ⟨hj, rfl⟩ := range_map_at hu
    rw [addr_add, Nat.zero_add]
    have h2 := HP.out (j / 25) (by omega) (j % 25) (by omega)
    rw [show j / 25 * 25 + j % 25 = j by omega] at h2
    exact ((Only.refl [] w).alloc _).cell h2 (by simp)
  · intro u hu
    simp only [Pl.row, List.mem_map] at hu
    obtain ⟨x, _, rfl⟩ := hu
    exact Pg.at_one _ _
  · simp [maxLen]; omega
  · omega
  · simp
  · intro v w1 hv ho hn1 hblk
    have HO := Lib.hid ho
    have HV := Lib.hid hv
    have HN1 := Lib.hid hn1
    have HB := Lib.hid hblk
    clear ho hv hn1 hblk
    go_wp2_with fail
    have hv := HV.out
    rcases hv.2 with ⟨hz, hz2⟩ | ⟨g, cap, cur, hve, hg, hh, hcc, hm, hs, ht⟩
    · omega
    · have hcell : ∀ x, x < P.n * 25 → w1.cell? ⟨g, x, none⟩ = some ((P.pg (x / 25)).at (x % 25)) := by
        intro x hx
        have h3 := World.ownsRow.cells hv (g := g) (by rw [hve]; rfl) x ((P.pg (x / 25)).at (x % 25)) (by simp [Pl.row, hx])
        rw [addr_add, Nat.zero_add] at h3
        exact h3
      refine hR.out _ _ ⟨g, cap, by rw [hve]; rfl, ⟨232, cur.toList, by unfold Row; rw [hh]⟩, fun i hi r hr => ?_, ?_, hg⟩
      · rw [hcell (i * 25 + r) (by omega)]
        congr 2
        · congr 1; omega
        · omega
      · exact ((Only.refl [] w).alloc _).grown HO.out (fun k hk => by
          right
          simp [Value.ownBlock] at hk
          omega)
theorem copy_rep (w : World) (p b : Nat) (P : Pl) (h : PRep w p b P) :
    Calls Tryz.prog 136 #[.pointer (some ⟨p, 0, none⟩)] w fun e w' =>
      ∃ p' b', e = .returned (.pointer (some ⟨p', 0, none⟩)) ∧ PRep w' p' b' P ∧ Only [] w w' ∧ w.heap.size ≤ p' ∧ w.heap.size ≤ b' := by
  refine calls_abs fun R hR => ?_
  obtain ⟨cap, z0, zf, zfb, _⟩ := h.facts
  have H := Lib.hid h
  clear h
  go_enter Tryz.func136, Tryz.ntmps136
  go_wp2_with fail
  refine (none_rep _ _ _ _ H.out).mono ?_
  rintro e _ ⟨rfl, rfl⟩
  go_wp2_with fail
  refine (clonePages w b P.n cap P rfl H.out.n24 H.out.pg H.out.n1).mono ?_
  rintro e w2 ⟨g, cap2, rfl, hrow, hpg, ho, hg⟩
  have HROW := Lib.hid hrow
  have HPG := Lib.hid hpg
  clear hrow hpg
  go_wp2_with fail
  refine hR.out _ _ ⟨w2.heap.size, g, rfl, ?_, ho.alloc _, ho.size, hg⟩
  have hga : g < w2.heap.size := by obtain ⟨T, cs, hc⟩ := HROW.out; exact hc.lt
  refine ⟨⟨_, cap2, Row.new w2 _ [_]⟩, ?_, fun i hi => ?_, by omega, H.out.n1, H.out.n24, H.out.ok⟩
  · obtain ⟨T, cs, hc⟩ := HROW.out
    exact ⟨T, cs, hc.alloc _⟩
  · exact (HPG.out i hi).only ((Only.refl [] w2).alloc _) (by simp)
end Go.Proofs.YthflghdaejbdkaaGreat
namespace Go.Proofs.YthflghdaejbdkaaGreat
open Go.RowKit
set_option maxHeartbeats 1600000
set_option maxRecDepth 100000
set_option linter.unusedVariables false
def Pg.nought : Pg := { cls := 0, used := fun _ => false, cell := fun _ => 0 }
theorem nought_cells : pgZero.cells.toList = (List.range 25).map Pg.nought.at := by rfl
theorem made_page {n x : Nat} (hx : x < n * 25) : (madeCells pgZero.cells (n * 25)).toList[x]? = some (Pg.nought.at (x % 25)) := by
  have h1 : pgZero.cells.size = 25 := rfl
  have h2 : ∀ r, r < 25 → pgZero.cells[r]? = some (Pg.nought.at r) := by
    intro r hr
    rw [← Array.getElem?_toList, nought_cells]
    simp [hr]
  have h3 := h2 (x % 25) (by omega)
  rw [Array.getElem?_toList]
  unfold madeCells
  rw [Array.getElem?_map, show (Array.range (n * 25))[x]? = some x by simp [hx]]
  simp only [Option.map_some, h1]
  rw [getElem!_def, h3]
def HasRow (w : World) (b : Nat) : Prop := ∃ T cs, Row w b T cs
theorem make_pages {w : World} {ops : Array Oper} {rest : List Oper} {o : Oper} {a : Act} {Q : Exit → Act → World → Prop} (hgd : o.guard = none) (x y : Operand)
    (ho : o.op = Op.makeSlice 227 x y) (n : Nat) (hl : a.eval x = .int .i64 n) (hc : a.eval y = .int .i64 n) (hn : n ≤ 24) (h1 : 1 ≤ n)
    (h : ∀ w', HasRow w' w.heap.size → Hid (∀ x, x < n * 25 → w'.cell? ⟨w.heap.size, x, none⟩ = some (Pg.nought.at (x % 25))) → Only [] w w' → wpList Tryz.prog ops Q rest (a.put o.dst (.slice (some ⟨w.heap.size, 0, none⟩) n n)) w') : wpList Tryz.prog ops Q (o :: rest) a w := by
  obtain ⟨i0, hi, hz0, hz1, hz2⟩ := info_parts infoPage
  refine wpList_make_full w hgd x y 227 ho w.heap.size 232 i0 pgZero 25 Tryz.underlying227 hi hz0 hz1 .i64 .i64 n n n hl hc rfl rfl (by rw [hz2]; omega) (by simp only [maxLen]; omega) (Nat.le_refl _) (fun w2 hown hgrow => h w2 ?_ ?_ ?_)
  · rcases hown.2 with ⟨hz, _⟩ | ⟨g, cap, cur, hve, hg, hh, _⟩
    · simp at hz
    · simp only [Value.slice.injEq, Option.some.injEq, Addr.mk.injEq] at hve
      obtain ⟨⟨rfl, _⟩, _⟩ := hve
      exact ⟨232, cur.toList, by unfold Row; rw [hh]⟩
  · intro x hx
    have h3 := World.ownsRow.cells hown (g := w.heap.size) rfl x (Pg.nought.at (x % 25)) (made_page hx)
    rwa [addr_add, Nat.zero_add] at h3
  · exact (Only.refl _ _).grown hgrow (fun k hk => by simp at hk)
theorem new_bad (w : World) (n : Int) (h : n < 1 ∨ 24 < n) :
    Calls Tryz.prog 163 #[.int .i64 n] w (Exact w (.tuple #[.pointer none, .int .i64 1])) := by
  refine calls_abs fun R hR => ?_
  by_cases h1 : n < 1
  · go_enter Tryz.func163, Tryz.ntmps163
    go_wp2_with fail
    exact hR.out _ _ ⟨rfl, rfl⟩
  · have h2 : 24 < n := by omega
    have h1' : decide (n < 1) = false := by simpa using h1
    clear h
    go_enter Tryz.func163, Tryz.ntmps163
    go_wp2_with fail
    exact hR.out _ _ ⟨rfl, rfl⟩
theorem new_yes (w : World) (n : Nat) (h1 : 1 ≤ n) (h24 : n ≤ 24) :
    Calls Tryz.prog 163 #[.int .i64 n] w fun e w' =>
      ∃ p b, e = .returned (.tuple #[.pointer (some ⟨p, 0, none⟩), .int .i64 0]) ∧ PRep w' p b (Pl.zero n) ∧ Only [] w w' ∧ w.heap.size ≤ p ∧ w.heap.size ≤ b := by
  refine calls_abs fun R hR => ?_
  have h1' : decide ((n : Int) < 1) = false := by simp; omega
  have h2' : decide (24 < (n : Int)) = false := by simp; omega
  go_enter Tryz.func163, Tryz.ntmps163
  go_wp2_with (refine make_pages rfl _ _ rfl n rfl rfl h24 h1 ?_)
  · intro w2 hrow hcell0 ho
    have hcell := hcell0.out
    clear hcell0
    have hlt : w.heap.size < w2.heap.size := by obtain ⟨T, cs, hc⟩ := hrow; exact hc.lt
    generalize hgg : w.heap.size = g at *
    have HG := Lib.hid hgg
    have hst : (∃ T cs, Row (w2.alloc (.cells #[.slice (some ⟨g, 0, none⟩) n n] 234)) g T cs) ∧ (∀ i, i < n → PgAt (w2.alloc (.cells #[.slice (some ⟨g, 0, none⟩) n n] 234)) g (i * 25) Pg.nought) ∧
        Row (w2.alloc (.cells #[.slice (some ⟨g, 0, none⟩) n n] 234)) w2.heap.size 234 [.slice (some ⟨g, 0, none⟩) n n] ∧ Only [] w (w2.alloc (.cells #[.slice (some ⟨g, 0, none⟩) n n] 234)) := by
      refine ⟨?_, fun i hi => ?_, Row.new _ _ _, ho.alloc _⟩
      · obtain ⟨T, cs, hc⟩ := hrow
        exact ⟨T, cs, hc.alloc _⟩
      · intro r hr
        have h5 := ((Only.refl [] w2).alloc (.cells #[.slice (some ⟨g, 0, none⟩) n n] 234)).cell (hcell (i * 25 + r) (by omega)) (by simp)
        rw [show (i * 25 + r) % 25 = r by omega] at h5
        exact h5
    have HST := Lib.hid hst
    have hne : w2.heap.size ≠ g := by omega
    have z0 : (w2.alloc (.cells #[.slice (some ⟨g, 0, none⟩) n n] 234)).cell? ⟨w2.heap.size, 0, none⟩ = some (.slice (some ⟨g, 0, none⟩) n n) := hst.2.2.1.cell 0 rfl
    clear hrow hcell ho hst hgg
    go_wp2_with fail
    generalize hpp : w2.heap.size = p at *
    have HPP := Lib.hid hpp
    generalize w2.alloc (.cells #[.slice (some ⟨g, 0, none⟩) n n] 234) = w3 at *
    clear hpp z0
    go_loopw [21] (fun v wr => ∃ k : Nat, k ≤ n ∧ v = .int .i64 k ∧ (∃ T cs, Row wr g T cs) ∧ (∀ i, i < n → PgAt wr g (i * 25) (if i < k then Pg.zero else Pg.nought)) ∧ Row wr p 234 [.slice (some ⟨g, 0, none⟩) n n] ∧ Only [] w wr) (fun v _ => n - (intOf v).toNat)
    case atStart =>
      obtain ⟨s1, s2, s3, s4⟩ := HST.out
      exact ⟨0, by omega, rfl, s1, fun i hi => by simp only [Nat.not_lt_zero, if_false]; exact s2 i hi, s3, s4⟩
    case round =>
      obtain ⟨k, hk, rfl, s1, s2, s3, s4⟩ := hrel
      have z0 := s3.cell 0 rfl
      have zf : ∀ x, wr.frozen? ⟨g, x, none⟩ = false := by obtain ⟨T, cs, hc⟩ := s1; exact hc.free
      by_cases hlt2 : k < n
      · have hpc := s2 k hlt2
        simp only [Nat.lt_irrefl, if_false] at hpc
        have hc0 := hpc.cls
        have S1 := Lib.hid s1
        have S2 := Lib.hid s2
        have HPC := Lib.hid hpc
        clear s1 s2 hpc
        go_wp2_with fail
        refine ⟨⟨k + 1, by omega, by go_num, ?_, fun i hi => ?_, s3.other (by simp; omega) _, s4.set (.inr (by have := HG.out; simp; omega)) _⟩, by simp [intOf]; omega⟩
        · obtain ⟨T, cs, hc⟩ := S1.out
          exact ⟨T, _, hc.set _ _⟩
        · by_cases e : i = k
          · subst e
            rw [if_pos (by omega)]
            exact HPC.out.setCls (-1)
          · have h5 := (S2.out i hi).other (a := ⟨g, k * 25, none⟩) (.int .i64 (-1)) (fun _ _ => by simp; omega)
            by_cases h6 : i < k
            · rw [if_pos (by omega)]; rw [if_pos h6] at h5; exact h5
            · rw [if_neg (by omega)]; rw [if_neg h6] at h5; exact h5
      · obtain rfl : k = n := by omega
        have S1 := Lib.hid s1
        have S2 := Lib.hid s2
        clear s1 s2
        go_wp2_with fail
        refine hR.out _ _ ⟨p, g, rfl, ⟨⟨_, _, s3⟩, S1.out, fun i hi => ?_, by omega, h1, h24, Pl.zero_ok _⟩, s4, by have := HG.out; have := HPP.out; omega, by have := HG.out; omega⟩
        have h5 := S2.out i hi
        rw [if_pos (show i < k from hi)] at h5
        exact h5
end Go.Proofs.YthflghdaejbdkaaGreat
namespace Go.Proofs.YthflghdaejbdkaaGreat
open Go.RowKit
set_option maxHeartbeats 1600000
set_option maxRecDepth 100000
set_option linter.unusedVariables false
theorem classOf_rep (w : World) (p b : Nat) (P : Pl) (h : PRep w p b P) (i : Int) :
    Calls Tryz.prog 310 #[.pointer (some ⟨p, 0, none⟩), .int .i64 i] w (Exact w (.tuple #[.int .i64 (P.class i).1, .int .i64 (P.class i).2])) := by
  refine calls_abs fun R hR => ?_
  obtain ⟨cap, z0, zf, zfb, _⟩ := h.facts
  have h24 := h.n24
  by_cases h0 : i < 0
  · rw [show P.class i = (0, 1) by unfold Pl.class; rw [if_pos (.inl h0)]] at hR
    have h0' : decide (i < 0) = true := by simpa using h0
    go_enter Tryz.func310, Tryz.ntmps310
    go_wp2_with fail
    refine (none_rep _ _ _ _ h).mono ?_
    rintro e _ ⟨rfl, rfl⟩
    go_wp2_with fail
    exact hR.out _ _ ⟨rfl, rfl⟩
  · have h0' : decide (i < 0) = false := by simpa using h0
    obtain ⟨I, rfl⟩ : ∃ I : Nat, i = I := ⟨i.toNat, by omega⟩
    by_cases h1 : P.n ≤ I
    · rw [show P.class (I : Int) = (0, 1) by unfold Pl.class; rw [if_pos (.inr (by omega))]] at hR
      go_enter Tryz.func310, Tryz.ntmps310
      go_wp2_with fail
      refine (none_rep _ _ _ _ h).mono ?_
      rintro e _ ⟨rfl, rfl⟩
      go_wp2_with fail
      exact hR.out _ _ ⟨rfl, rfl⟩
    · have h1' : decide (P.n ≤ I) = false := by simpa using h1
      have hlt : I < P.n := by omega
      have hpc := (h.pg I hlt).cls
      rw [show P.class (I : Int) = ((P.pg I).cls, 0) by unfold Pl.class; rw [if_neg (by omega)]; simp] at hR
      have H := Lib.hid h
      clear h h1
      go_enter Tryz.func310, Tryz.ntmps310
      go_wp2_with fail
      refine (none_rep _ _ _ _ H.out).mono ?_
      rintro e _ ⟨rfl, rfl⟩
      go_wp2_with fail
      exact hR.out _ _ ⟨rfl, rfl⟩
end Go.Proofs.YthflghdaejbdkaaGreat
namespace Go.Proofs.YthflghdaejbdkaaGreat
open Go.RowKit
set_option maxHeartbeats 1600000
set_option maxRecDepth 100000
set_option linter.unusedVariables false
end Go.Proofs.YthflghdaejbdkaaGreat
namespace Go.Proofs.YthflghdaejbdkaaGreat
open Go.RowKit
set_option maxHeartbeats 1600000
set_option maxRecDepth 100000
set_option linter.unusedVariables false
def sP0 : Pl := Pl.zero 2
def sP1 : Pl := (sP0.alloc 2).2.2
def sP2 : Pl := (sP1.alloc 2).2.2
def sP3 : Pl := (sP2.alloc 2).2.2
def sP4 : Pl := (sP3.free 0).2
theorem s1 : (sP0.alloc 2).1 = 0 ∧ (sP0.alloc 2).2.1 = 0 := by decide +kernel
theorem s2 : (sP1.alloc 2).1 = 8 ∧ (sP1.alloc 2).2.1 = 0 := by decide +kernel
theorem s3 : (sP2.alloc 2).1 = 16 ∧ (sP2.alloc 2).2.1 = 0 := by decide +kernel
theorem s4 : (sP3.free 0).1 = 0 := by decide +kernel
theorem s5 : sP4.move.1 = 16 ∧ sP4.move.2.1 = 0 ∧ sP4.move.2.2.1 = 0 := by decide +kernel
end Go.Proofs.YthflghdaejbdkaaGreat
namespace Go.Proofs.YthflghdaejbdkaaGreat
open Go.RowKit
def Ints (w : World) (base : Nat) (v : Value) (l : List Int) : Prop := w.ownsRow base 3 1 v l.length (l.map (Value.int .i64))
theorem infoInt : (Tryz.prog.info? 3).map (fun i => (i.zero, i.size, i.bytes)) = some (some (.int .i64 0), 1, 8) := by kernel_rfl
theorem Ints.nil (w : World) (base : Nat) : Ints w base (.slice none 0 0) [] := World.ownsRow_nil _ _ _ _
theorem Ints.drewN {w : World} {base : Nat} {v : Value} {l : List Int} (h : Ints w base v l) (n : Nat) : Ints (w.drewN n) base v l := h
theorem Ints.drew {w : World} {base : Nat} {v : Value} {l : List Int} (h : Ints w base v l) : Ints w.drew base v l := h
theorem Ints.alloc {w : World} {base : Nat} {v : Value} {l : List Int} (h : Ints w base v l) (o : Obj) : Ints (w.alloc o) base v l := World.ownsRow.alloc h o
theorem Ints.base {w : World} {base b : Nat} {v : Value} {l : List Int} (h : Ints w base v l) (hb : b ≤ base) : Ints w b v l := by
  refine ⟨h.1, ?_⟩
  rcases h.2 with h2 | ⟨g, cap, cur, hv, hg, r⟩
  · exact .inl h2
  · exact .inr ⟨g, cap, cur, hv, Nat.le_trans hb hg, r⟩
theorem Ints.form {w : World} {base : Nat} {v : Value} {l : List Int} (h : Ints w base v l) :
    (v = .slice none 0 0 ∧ l = []) ∨ ∃ g cap, v = .slice (some ⟨g, 0, none⟩) l.length cap ∧ base ≤ g ∧ g < w.heap.size ∧ l.length ≤ cap ∧ (∀ i, i < l.length → w.cell? ⟨g, i, none⟩ = some (.int .i64 (gI l i))) := by
  rcases h.2 with ⟨h1, h2⟩ | ⟨g, cap, cur, hv, hg, hh, hc, hm, hs, ht⟩
  · exact .inl ⟨h1, List.eq_nil_of_length_eq_zero h2⟩
  · refine .inr ⟨g, cap, hv, hg, (Array.getElem?_eq_some_iff.1 hh).1, hc, fun i hi => ?_⟩
    have h3 := World.ownsRow.cells h (g := g) (by rw [hv]; rfl) i (.int .i64 (gI l i)) (by simp [hi, gI])
    rwa [show (⟨g, 0, none⟩ : Addr).add i = ⟨g, i, none⟩ by unfold Addr.add; split <;> simp_all] at h3
theorem Ints.len {w : World} {base : Nat} {v : Value} {l : List Int} (h : Ints w base v l) : ∃ a cap, v = .slice a l.length cap := by
  rcases h.form with ⟨h1, h2⟩ | ⟨g, cap, h1, _⟩
  · exact ⟨none, 0, by rw [h1, h2]; rfl⟩
  · exact ⟨_, cap, h1⟩
theorem Ints.only {w w' : World} {base : Nat} {v : Value} {l : List Int} {F : List Nat} (h : Ints w base v l) (hg : Only F w w') (hF : ∀ k, v.ownBlock = some k → k ∉ F) : Ints w' base v l := by
  refine ⟨h.1, ?_⟩
  rcases h.2 with h2 | ⟨g, cap, cur, hv, hb, hh, r⟩
  · exact .inl h2
  · exact .inr ⟨g, cap, cur, hv, hb, by rw [hg.block g (Array.getElem?_eq_some_iff.1 hh).1 (hF g (by rw [hv]; rfl))]; exact hh, r⟩
theorem Ints.own {w : World} {base : Nat} {v : Value} {l : List Int} (h : Ints w base v l) : ∀ k, v.ownBlock = some k → base ≤ k ∧ k < w.heap.size := World.ownsRow.lt h
theorem append_ints {w : World} {ops : Array Oper} {rest : List Oper} {o : Oper} {a : Act} {Q : Exit → Act → World → Prop} (hgd : o.guard = none) (s x : Operand)
    (ho : o.op = .call { callee := .builtin .append, args := #[s, x], argTypes := #[23, 23] })
    (base : Nat) (v : Value) (l : List Int) (hs : a.eval s = v) (hown : Ints w base v l)
    (ad : Addr) (m c : Nat) (news : List Int) (hx : a.eval x = .slice (some ad) m c) (hl : news.length = m) (hnews : ∀ j u, news[j]? = some u → w.cell? (ad.add j) = some (.int .i64 u))
    (hbytes : (l.length + m) * 8 ≤ 140737488355328) (hbase : base ≤ w.heap.size)
    (h : ∀ v' w', Ints w' base v' (l ++ news) → Only v.ownBlock.toList w w' → (v' = .slice none 0 0 ↔ v = .slice none 0 0 ∧ m = 0) → (v'.ownBlock = v.ownBlock ∨ v'.ownBlock = some w.heap.size) → wpList Tryz.prog ops Q rest (a.put o.dst v') w') : wpList Tryz.prog ops Q (o :: rest) a w := by
  obtain ⟨i0, hi, hz0, hz1, hz2⟩ := info_parts infoInt
  refine wpList_append_own2 hgd s x 23 ho base 3 i0 (.int .i64 0) 1 8 Tryz.underlying23 hi hz0 hz1 hz2 rfl (by decide) v l.length _ hs hown ad m c (news.map (Value.int .i64)) hx (by simp [hl])
    (fun j u hu => ?_) (fun u hu => ?_) (by simp only [maxLen]; omega) hbytes hbase (fun v' w' h1 h2 h3 h5 => h v' w' ?_ ?_ h3 h5)
  · simp only [List.getElem?_map, Option.map_eq_some_iff] at hu
    obtain ⟨y, hy, rfl⟩ := hu
    exact hnews j y hy
  · simp only [List.mem_map] at hu
    obtain ⟨y, _, rfl⟩ := hu
    rfl
  · unfold Ints
    rw [List.length_append, hl, List.map_append]
    exact h1
  · exact (Only.refl _ _).grown h2 (fun k hk => .inl (by rw [hk]; simp))
theorem append_int1 {w : World} {ops : Array Oper} {rest : List Oper} {o : Oper} {a : Act} {Q : Exit → Act → World → Prop} (hgd : o.guard = none) (s x : Operand)
    (ho : o.op = .call { callee := .builtin .append, args := #[s, x], argTypes := #[23, 23] })
    (base : Nat) (v : Value) (l : List Int) (hs : a.eval s = v) (hown : Ints w base v l)
    (b : Nat) (y : Int) (hx : a.eval x = .slice (some ⟨b, 0, none⟩) 1 1) (hnews : w.cell? ⟨b, 0, none⟩ = some (.int .i64 y))
    (hbytes : l.length + 1 ≤ 17592186044416) (hbase : base ≤ w.heap.size)
    (h : ∀ v' w', Ints w' base v' (l ++ [y]) → Only v.ownBlock.toList w w' → (v'.ownBlock = v.ownBlock ∨ v'.ownBlock = some w.heap.size) → wpList Tryz.prog ops Q rest (a.put o.dst v') w') : wpList Tryz.prog ops Q (o :: rest) a w := by
  refine append_ints hgd s x ho base v l hs hown ⟨b, 0, none⟩ 1 1 [y] hx rfl (fun j u hu => ?_) (by omega) hbase (fun v' w' h1 h2 _ h5 => h v' w' h1 h2 h5)
  cases j with
  | zero => simp at hu; subst hu; exact hnews
  | succ j => simp at hu
theorem made_ints (n : Nat) : (madeCells (Value.int .i64 0).cells (n * 1)).toList = List.replicate n (Value.int .i64 0) := by
  apply List.ext_getElem
  · simp [madeCells]
  · intro i h1 h2
    simp [madeCells, Value.cells, Nat.mod_one]
theorem Ints.made (w : World) : Ints (w.alloc (.cells #[] 3)) w.heap.size (.slice (some ⟨w.heap.size, 0, none⟩) 0 0) [] :=
  World.ownsRow_made w #[] 0 (Nat.le_refl _) (by simp [maxLen]) rfl
set_option maxHeartbeats 400000 in
theorem clone_nil (w : World) : Calls Tryz.prog 80 #[.slice none 0 0] w (Exact w (.slice none 0 0)) := by
  have hn := fun (wx : World) => Lib.run_eql_slice_nil (P := Tryz.prog) wx 23 3 none 0 0 0 0 Tryz.underlying23
  refine calls_abs fun R hR => ?_
  go_enter Tryz.func80, Tryz.ntmps80
  go_wp2_with fail
  exact hR.out _ _ ⟨rfl, rfl⟩
set_option maxHeartbeats 400000 in
theorem clone_ints (w : World) (b n c : Nat) (l : List Int) (hl : l.length = n) (hn : n ≤ 17592186044416) (hc : ∀ i, i < n → w.cell? ⟨b, i, none⟩ = some (.int .i64 (gI l i))) :
    Calls Tryz.prog 80 #[.slice (some ⟨b, 0, none⟩) n c] w fun e w' => ∃ v, e = .returned v ∧ Ints w' w.heap.size v l ∧ Only [] w w' ∧ v ≠ .slice none 0 0 := by
  have hq := fun (wx : World) => Lib.run_eql_slice_nil (P := Tryz.prog) wx 23 3 (some ⟨b, 0, none⟩) n c 0 0 Tryz.underlying23
  have HL := Lib.hid hl
  have HC := Lib.hid hc
  clear hl hc
  refine calls_abs fun R hR => ?_
  go_enter Tryz.func80, Tryz.ntmps80
  go_wp2_with (at_builtin; refine append_ints rfl _ _ rfl w.heap.size _ _ rfl (Ints.made w) ⟨b, 0, none⟩ n c l rfl ?_ ?_ ?_ ?_ ?_)
  · exact HL.out
  · intro j u hu
    have hj : j < n := by have := (List.getElem?_eq_some_iff.1 hu).1; have := HL.out; omega
    have h1 := HC.out j hj
    rw [show (⟨b, 0, none⟩ : Addr).add j = ⟨b, j, none⟩ by unfold Addr.add; split <;> simp_all]
    rw [World.cell?_alloc_past _ _ _ (World.block_lt_of_cell? w _ h1), h1, gI, hu]
    rfl
  · simp; omega
  · simp
  · intro v w1 hv ho hn hblk
    have HN : Hid (v ≠ .slice none 0 0) := by intro e; simp [e] at hn
    clear hn
    go_wp2_with fail
    exact hR.out _ _ ⟨v, rfl, hv, ((Only.refl _ _).alloc _).trans ho (fun x hx => .inr (by simp [Value.ownBlock] at hx; omega)), HN.out⟩
end Go.Proofs.YthflghdaejbdkaaGreat
namespace Go.Proofs.YthflghdaejbdkaaGreat
open Go.RowKit
set_option linter.unusedVariables false
def Read (w : World) (v : Value) (l : List Int) : Prop :=
  (∃ b o c, v = .slice (some ⟨b, o, none⟩) l.length c ∧ ∀ i, i < l.length → w.cell? ⟨b, o + i, none⟩ = some (.int .i64 (gI l i))) ∨ (∃ oa c, v = .slice oa 0 c ∧ l = [])
theorem Ints.read {w : World} {base : Nat} {v : Value} {l : List Int} (h : Ints w base v l) : Read w v l := by
  rcases h.form with ⟨h1, h2⟩ | ⟨g, cap, h1, _, _, _, h2⟩
  · exact .inr ⟨none, 0, h1, h2⟩
  · exact .inl ⟨g, 0, cap, h1, fun i hi => by rw [Nat.zero_add]; exact h2 i hi⟩
theorem Read.len {w : World} {v : Value} {l : List Int} (h : Read w v l) : ∃ a c, v = .slice a l.length c := by
  rcases h with ⟨b, o, c, h1, _⟩ | ⟨oa, c, h1, h2⟩
  · exact ⟨_, _, h1⟩
  · exact ⟨oa, c, by rw [h1, h2]; rfl⟩
theorem Read.only {w w' : World} {v : Value} {l : List Int} {F : List Nat} (h : Read w v l) (ho : Only F w w') (hF : ∀ k, v.ownBlock = some k → k ∉ F) : Read w' v l := by
  rcases h with ⟨b, o, c, h1, h2⟩ | h1
  · exact .inl ⟨b, o, c, h1, fun i hi => ho.cell (h2 i hi) (hF b (by rw [h1]; rfl))⟩
  · exact .inr h1
end Go.Proofs.YthflghdaejbdkaaGreat
namespace Go.Proofs.YthflghdaejbdkaaGreat
open Go.RowKit
set_option maxHeartbeats 1600000
set_option maxRecDepth 100000
set_option linter.unusedVariables false
open Go.Maps Go.WideShapes in
section
theorem nodup_len {α : Type} : ∀ {l1 l2 : List α}, l1.Nodup → (∀ x ∈ l1, x ∈ l2) → l1.length ≤ l2.length ∧ (l2.length ≤ l1.length → ∀ x ∈ l2, x ∈ l1)
  | [], l2, _, _ => ⟨by simp, fun h x hx => by cases l2 with | nil => exact hx | cons a r => simp at h⟩
  | a :: r, l2, hn, hs => by
    obtain ⟨h1, h2⟩ := List.nodup_cons.1 hn
    obtain ⟨s, t, rfl⟩ := List.append_of_mem (hs a (by simp))
    have h3 : ∀ x ∈ r, x ∈ s ++ t := fun x hx => by
      have := hs x (List.mem_cons_of_mem _ hx)
      simp only [List.mem_append, List.mem_cons] at this ⊢
      rcases this with h | h | h
      · exact .inl h
      · subst h; exact absurd hx h1
      · exact .inr h
    obtain ⟨h4, h5⟩ := nodup_len h2 h3
    simp only [List.length_append, List.length_cons] at h4 h5 ⊢
    refine ⟨by omega, fun h x hx => ?_⟩
    by_cases e : x = a
    · rw [e]; simp
    · refine List.mem_cons_of_mem _ (h5 (by omega) x ?_)
      simp only [List.mem_append, List.mem_cons] at hx ⊢
      rcases hx with h | h | h
      · exact .inl h
      · exact absurd h e
      · exact .inr h
def keysD {H : Type} : DataW H → List Lit | .map es => es.map Prod.fst | _ => []
theorem keysD_len {H : Type} {D : DataW H} (c : Canon D) : (keysD D).length = Maps.size D := by obtain ⟨es, rfl, _⟩ := c; simp [keysD, Maps.size]
theorem keysD_nodup {H : Type} {D : DataW H} (c : Canon D) : (keysD D).Nodup := by
  obtain ⟨es, rfl, h, _⟩ := c
  exact List.pairwise_map.2 (apart_of_rising h)
theorem keysD_mem {H : Type} {D : DataW H} (c : Canon D) (k : Lit) : k ∈ keysD D ↔ Maps.has D k = true := by
  obtain ⟨es, rfl, _, h⟩ := c
  constructor
  · intro hk
    obtain ⟨p, hp, rfl⟩ := List.mem_map.1 hk
    exact List.any_eq_true.2 ⟨p, hp, WideAt.sameKey_self (h p hp)⟩
  · intro hk
    obtain ⟨p, hp, hs⟩ := List.any_eq_true.1 hk
    exact List.mem_map.2 ⟨p, hp, WideAt.sameKey_eq hs⟩
theorem size_sub {H : Type} {D1 D2 : DataW H} (c1 : Canon D1) (c2 : Canon D2) (h : ∀ k, Maps.has D1 k = true → Maps.has D2 k = true) :
    Maps.size D1 ≤ Maps.size D2 ∧ (Maps.size D2 ≤ Maps.size D1 → ∀ k, Maps.has D2 k = true → Maps.has D1 k = true) := by
  have h1 := nodup_len (keysD_nodup c1) (l2 := keysD D2) (fun x hx => (keysD_mem c2 x).2 (h x ((keysD_mem c1 x).1 hx)))
  rw [keysD_len c1, keysD_len c2] at h1
  exact ⟨h1.1, fun hs k hk => (keysD_mem c1 k).1 (h1.2 hs k ((keysD_mem c2 k).2 hk))⟩
theorem ownsMap_key {H : Type} {R : Value → Option (DataW H × List MemPlace)} {w : World} {b n : Nat} {D : DataW H} (h : w.ownsMap Tryz.prog 3 R b n D) {k : Lit} (hk : Maps.has D k = true) : ∃ x, k = .int .i64 x ∧ (Lit.int .i64 x).wf = true := by
  obtain ⟨es, clock, _, F, _, rfl⟩ := h
  obtain ⟨p, hp, hpk⟩ := List.any_eq_true.1 hk
  obtain ⟨x, hx, rfl⟩ := List.mem_map.1 (mem_sorted.1 hp)
  obtain ⟨y, hy⟩ := F.reads x hx
  have h1 := WideAt.sameKey_eq hpk
  rw [WideElems.rg_of hy] at h1
  obtain ⟨z, _, e, hw⟩ := Maps.keyOf_int_inv Tryz.underlying3 (WideElems.rd_key hy)
  exact ⟨z, by rw [← h1, e], hw⟩
end
end Go.Proofs.YthflghdaejbdkaaGreat
