/- Lemmas of this claim. -/
import Derived.Test.YthflghdaejbdkaaKOMaps
import Derived.Test.YthflghdaejbdkaaKOModel
import Derived.Test.YthflghdaejbdkaaKBlockJ
import Derived.IntWalk
namespace Go.Proofs.Ythflghdaejbdkaa
open Go.RowKit Go.Maps
set_option maxHeartbeats 1600000
set_option maxRecDepth 100000
set_option linter.unusedVariables false
inductive Lb | mem | pool | pages | map | th (h : Int) | rb (h : Int) | bl (h : Int)
  deriving DecidableEq
def Th.rlist (o : Th) : List Bool := if o.kind = 2 then o.refs else []
def thRow (o : Th) (rv bv : Value) : List Value := [.int .i64 o.kind, .int .i64 o.cls, .int .i64 o.slots.length, rv, bv]
structure ThAt (w : World) (L : Nat → Option Lb) (h : Int) (b : Nat) (rv bv : Value) (o : Th) : Prop where
  row : ∃ T, Row w b T (thRow o rv bv)
  Lth : L b = some (.th h)
  rb : Bls w 0 rv o.rlist
  Lr : ∀ g, rv.ownBlock = some g → L g = some (.rb h)
  bl : Ints w 0 bv o.blocks
  Ll : ∀ g, bv.ownBlock = some g → L g = some (.bl h)
structure HX where
  pp : Nat
  pb : Nat
  mb : Nat
  blk : Int → Nat
  rv : Int → Value
  bv : Int → Value
structure HRep (w : World) (L : Nat → Option Lb) (hb : Nat) (M : Hp) (X : HX) : Prop where
  lt : ∀ k, L k ≠ none → k < w.heap.size
  mem : ∃ T, Row w hb T [.pointer (some ⟨X.pp, 0, none⟩), .map (some X.mb)]
  Lm : L hb = some .mem
  pool : PRep w X.pp X.pb M.P
  Lpp : L X.pp = some .pool
  Lpb : L X.pb = some .pages
  mp : MapAt w X.mb 192 (fun h => (M.ob h).map fun _ => X.blk h)
  Lp : L X.mb = some .map
  th : ∀ h o, M.ob h = some o → ThAt w L h (X.blk h) (X.rv h) (X.bv h) o
section
variable {w w' : World} {S : Nat → Prop} {L L' : Nat → Option Lb} {hb : Nat} {M : Hp} {X : HX}
theorem PgAt.onlyP {b o : Nat} {p : Pg} (h : PgAt w b o p) (hg : OnlyP S w w') (hS : ¬ S b) : PgAt w' b o p := fun r hr => hg.cell (h r hr) hS
theorem PRep.onlyP {p b : Nat} {P : Pl} (h : PRep w p b P) (hg : OnlyP S w w') (h1 : ¬ S p) (h2 : ¬ S b) : PRep w' p b P :=
  ⟨h.hp.imp fun _ x => x.imp fun _ y => hg.row y h1, h.hb.imp fun _ x => x.imp fun _ y => hg.row y h2, fun i hi => (h.pg i hi).onlyP hg h2, h.ne, h.n1, h.n24, h.ok⟩
theorem ThAt.only {h : Int} {b : Nat} {rv bv : Value} {o : Th} (k : ThAt w L h b rv bv o) (hg : OnlyP S w w') (hS : ∀ x, S x → L x ≠ some (.th h) ∧ L x ≠ some (.rb h) ∧ L x ≠ some (.bl h)) : ThAt w' L h b rv bv o := by
  obtain ⟨⟨T, h1⟩, h2, h3, h4, h5, h6⟩ := k
  exact ⟨⟨T, hg.row h1 (fun x => (hS b x).1 h2)⟩, h2, h3.onlyP hg (fun g hgv x => (hS g x).2.1 (h4 g hgv)), h4, h5.onlyP hg (fun g hgv x => (hS g x).2.2 (h6 g hgv)), h6⟩
theorem HRep.only (h : HRep w L hb M X) (hg : OnlyP S w w') (hS : ∀ k, S k → L k = none) : HRep w' L hb M X := by
  have hne : ∀ k ℓ, S k → L k ≠ some ℓ := fun k ℓ hk e => by rw [hS k hk] at e; cases e
  refine ⟨fun k hk => Nat.lt_of_lt_of_le (h.lt k hk) hg.size, ?_, h.Lm, h.pool.onlyP hg (fun x => hne _ _ x h.Lpp) (fun x => hne _ _ x h.Lpb), h.Lpp, h.Lpb, h.mp.only hg (fun x => hne _ _ x h.Lp), h.Lp,
    fun k t hk => (h.th k t hk).only hg (fun x hx => ⟨hne x _ hx, hne x _ hx, hne x _ hx⟩)⟩
  obtain ⟨T, hr⟩ := h.mem
  exact ⟨T, hg.row hr (fun x => hne _ _ x h.Lm)⟩
theorem HRep.only0 (h : HRep w L hb M X) (hg : Only [] w w') : HRep w' L hb M X := h.only (hg.toP0 (S := fun _ => False)) (fun _ x => x.elim)
theorem HRep.drewN (h : HRep w L hb M X) (n : Nat) : HRep (w.drewN n) L hb M X := h.only ((OnlyP.refl (fun _ => False) w).drewN n) (fun _ x => x.elim)
theorem HRep.drew (h : HRep w L hb M X) : HRep w.drew L hb M X := h.only ((OnlyP.refl (fun _ => False) w).drew) (fun _ x => x.elim)
theorem lab_of {ℓ : Lb} {g : Nat} (hL : ∀ k, L k ≠ none → L' k = L k) (h : L g = some ℓ) : L' g = some ℓ := by rw [hL g (by rw [h]; simp)]; exact h
theorem ThAt.lab {h : Int} {b : Nat} {rv bv : Value} {o : Th} (k : ThAt w L h b rv bv o) (hL : ∀ k, L k ≠ none → L' k = L k) : ThAt w L' h b rv bv o :=
  ⟨k.row, lab_of hL k.Lth, k.rb, fun g hg => lab_of hL (k.Lr g hg), k.bl, fun g hg => lab_of hL (k.Ll g hg)⟩
theorem HRep.cells (h : HRep w L hb M X) : w.cell? ⟨hb, 0, none⟩ = some (.pointer (some ⟨X.pp, 0, none⟩)) ∧ w.cell? ⟨hb, 1, none⟩ = some (.map (some X.mb)) ∧ ∀ i, w.frozen? ⟨hb, i, none⟩ = false := by
  obtain ⟨T, hr⟩ := h.mem
  exact ⟨hr.cell 0 rfl, hr.cell 1 rfl, fun i => hr.free i⟩
theorem HRep.look (h : HRep w L hb M X) {x : Int} (hx : wfI x) : (Instr.lookup 96 (.map (some X.mb)) (.int .i64 x) false).run Try.prog w = .ok (mkP ((M.ob x).map fun _ => X.blk x)) w := h.mp.look hx
theorem HRep.look_none (h : HRep w L hb M X) {x : Int} (hx : wfI x) (ho : M.ob x = none) : (Instr.lookup 96 (.map (some X.mb)) (.int .i64 x) false).run Try.prog w = .ok (.pointer none) w := by
  have := h.look hx
  rw [ho] at this
  exact this
theorem HRep.look_some (h : HRep w L hb M X) {x : Int} (hx : wfI x) {o : Th} (ho : M.ob x = some o) : (Instr.lookup 96 (.map (some X.mb)) (.int .i64 x) false).run Try.prog w = .ok (.pointer (some ⟨X.blk x, 0, none⟩)) w := by
  have := h.look hx
  rw [ho] at this
  exact this
theorem ThAt.cells {h : Int} {b : Nat} {rv bv : Value} {o : Th} (k : ThAt w L h b rv bv o) : w.cell? ⟨b, 0, none⟩ = some (.int .i64 o.kind) ∧ w.cell? ⟨b, 1, none⟩ = some (.int .i64 o.cls) ∧ w.cell? ⟨b, 2, none⟩ = some (.int .i64 o.slots.length) ∧ w.cell? ⟨b, 3, none⟩ = some rv ∧ w.cell? ⟨b, 4, none⟩ = some bv := by
  obtain ⟨T, hr⟩ := k.row
  exact ⟨hr.cell 0 rfl, hr.cell 1 rfl, hr.cell 2 rfl, hr.cell 3 rfl, hr.cell 4 rfl⟩
end
def HNope (w : World) (v : Value) : Prop := v = .pointer none ∨ ∃ b, v = .pointer (some ⟨b, 0, none⟩) ∧ w.cell? ⟨b, 0, none⟩ = some (.pointer none)
theorem hnone_any (w : World) (v : Value) (h : HNope w v) : Calls Try.prog 39 #[v] w (Exact w (.bool true)) := by
  refine calls_abs fun R hR => ?_
  rcases h with rfl | ⟨b, rfl, hc⟩ <;>
  (go_enter Try.func39, Try.ntmps39
   go_wp2_with fail
   exact hR.out _ _ ⟨rfl, rfl⟩)
section
variable {L : Nat → Option Lb} {hb : Nat} {M : Hp} {X : HX}
theorem hnone_rep (w : World) (h : HRep w L hb M X) : Calls Try.prog 39 #[.pointer (some ⟨hb, 0, none⟩)] w (Exact w (.bool false)) := by
  refine calls_abs fun R hR => ?_
  have h1 := h.cells.1
  clear h
  go_enter Try.func39, Try.ntmps39
  go_wp2_with fail
  exact hR.out _ _ ⟨rfl, rfl⟩
theorem find_nope (w : World) (v : Value) (h : HNope w v) (x : Int) : Calls Try.prog 69 #[v, .int .i64 x] w (Exact w (.tuple #[.pointer none, .int .i64 1])) := by
  refine calls_abs fun R hR => ?_
  have h1 := hnone_any w v h
  clear h
  go_enter Try.func69, Try.ntmps69
  go_wp2_with fail
  refine h1.mono ?_
  rintro e _ ⟨rfl, rfl⟩
  go_wp2_with fail
  exact hR.out _ _ ⟨rfl, rfl⟩
theorem find_none (w : World) (h : HRep w L hb M X) (x : Int) (hx : wfI x) (ho : M.ob x = none) : Calls Try.prog 69 #[.pointer (some ⟨hb, 0, none⟩), .int .i64 x] w (Exact w (.tuple #[.pointer none, .int .i64 3])) := by
  refine calls_abs fun R hR => ?_
  have h1 := hnone_rep w h
  have h2 := h.cells.2.1
  have h3 := h.look_none hx ho
  clear h ho
  go_enter Try.func69, Try.ntmps69
  go_wp2_with fail
  refine h1.mono ?_
  rintro e _ ⟨rfl, rfl⟩
  go_wp2_with fail
  exact hR.out _ _ ⟨rfl, rfl⟩
theorem find_some (w : World) (h : HRep w L hb M X) (x : Int) (hx : wfI x) {o : Th} (ho : M.ob x = some o) : Calls Try.prog 69 #[.pointer (some ⟨hb, 0, none⟩), .int .i64 x] w (Exact w (.tuple #[.pointer (some ⟨X.blk x, 0, none⟩), .int .i64 0])) := by
  refine calls_abs fun R hR => ?_
  have h1 := hnone_rep w h
  have h2 := h.cells.2.1
  have h3 := h.look_some hx ho
  clear h ho
  go_enter Try.func69, Try.ntmps69
  go_wp2_with fail
  refine h1.mono ?_
  rintro e _ ⟨rfl, rfl⟩
  go_wp2_with fail
  exact hR.out _ _ ⟨rfl, rfl⟩
theorem slot_none (w : World) (h : HRep w L hb M X) (x s : Int) (hx : wfI x) (ho : M.ob x = none) : Calls Try.prog 43 #[.pointer (some ⟨hb, 0, none⟩), .int .i64 x, .int .i64 s] w (Exact w (.tuple #[.pointer none, .int .i64 3])) := by
  refine calls_abs fun R hR => ?_
  have h1 := find_none w h x hx ho
  clear h ho
  go_enter Try.func43, Try.ntmps43
  go_wp2_with fail
  refine h1.mono ?_
  rintro e _ ⟨rfl, rfl⟩
  go_wp2_with fail
  exact hR.out _ _ ⟨rfl, rfl⟩
theorem slot_bad (w : World) (h : HRep w L hb M X) (x s : Int) (hx : wfI x) {o : Th} (ho : M.ob x = some o) (hs : s < 0 ∨ (o.slots.length : Int) ≤ s) : Calls Try.prog 43 #[.pointer (some ⟨hb, 0, none⟩), .int .i64 x, .int .i64 s] w (Exact w (.tuple #[.pointer none, .int .i64 1])) := by
  refine calls_abs fun R hR => ?_
  have h1 := find_some w h x hx ho
  have h2 := (h.th x o ho).cells.2.2.1
  clear h ho
  generalize o.slots.length = n at *
  by_cases h0 : s < 0
  · go_enter Try.func43, Try.ntmps43
    go_wp2_with fail
    refine h1.mono ?_
    rintro e _ ⟨rfl, rfl⟩
    go_wp2_with fail
    exact hR.out _ _ ⟨rfl, rfl⟩
  · have h3 : (n : Int) ≤ s := by omega
    clear hs
    go_enter Try.func43, Try.ntmps43
    go_wp2_with fail
    refine h1.mono ?_
    rintro e _ ⟨rfl, rfl⟩
    go_wp2_with fail
    exact hR.out _ _ ⟨rfl, rfl⟩
theorem slot_ok (w : World) (h : HRep w L hb M X) (x s : Int) (hx : wfI x) {o : Th} (ho : M.ob x = some o) (hs : ¬ (s < 0 ∨ (o.slots.length : Int) ≤ s)) : Calls Try.prog 43 #[.pointer (some ⟨hb, 0, none⟩), .int .i64 x, .int .i64 s] w (Exact w (.tuple #[.pointer (some ⟨X.blk x, 0, none⟩), .int .i64 0])) := by
  refine calls_abs fun R hR => ?_
  have h1 := find_some w h x hx ho
  have h2 := (h.th x o ho).cells.2.2.1
  clear h ho
  generalize o.slots.length = n at *
  have h0 : ¬ s < 0 := by omega
  have h3 : ¬ (n : Int) ≤ s := by omega
  clear hs
  go_enter Try.func43, Try.ntmps43
  go_wp2_with fail
  refine h1.mono ?_
  rintro e _ ⟨rfl, rfl⟩
  go_wp2_with fail
  exact hR.out _ _ ⟨rfl, rfl⟩
theorem isRefT_any (w : World) {h : Int} {b : Nat} {rv bv : Value} {o : Th} (k : ThAt w L h b rv bv o) (hok : o.ok1) {s : Nat} (hs : s < o.slots.length) :
    Calls Try.prog 44 #[.pointer (some ⟨b, 0, none⟩), .int .i64 s] w (Exact w (.bool (gB o.refs s))) := by
  refine calls_abs fun R hR => ?_
  have c0 := k.cells.1
  rcases hok.kd with ⟨e1, _⟩ | ⟨e1, _, _, e2⟩ | ⟨e1, _, _, _, e2⟩
  · have c3 := k.cells.2.2.2.1
    have hr := k.rb
    unfold Th.rlist at hr
    rw [if_pos e1] at hr
    have hl : s < o.refs.length := by rw [hok.rl]; exact hs
    rcases hr.form with ⟨_, e3⟩ | ⟨g, cap, e3, _, _, _, hc⟩
    · rw [e3] at hl; simp at hl
    · have hcs := hc s hl
      rw [e1] at c0
      rw [e3] at c3
      have h1 : (s : Int) < (o.refs.length : Int) := by omega
      have h0 : (0 : Int) ≤ s := by omega
      clear hr hc k hok e3 hs e1
      generalize gB o.refs s = r at *
      generalize o.refs.length = n at *
      go_enter Try.func44, Try.ntmps44
      go_wp2_with fail
      exact hR.out _ _ ⟨rfl, rfl⟩
  · rw [e1] at c0
    rw [e2 s] at hR
    clear k hok e1 e2
    go_enter Try.func44, Try.ntmps44
    go_wp2_with fail
    exact hR.out _ _ ⟨rfl, rfl⟩
  · rw [e1] at c0
    rw [e2 s hs] at hR
    clear k hok e1 e2
    go_enter Try.func44, Try.ntmps44
    go_wp2_with fail
    exact hR.out _ _ ⟨rfl, rfl⟩
end
end Go.Proofs.Ythflghdaejbdkaa
namespace Go.Proofs.Ythflghdaejbdkaa
open Go.RowKit Go.Maps
set_option maxHeartbeats 1600000
set_option maxRecDepth 100000
set_option linter.unusedVariables false
theorem Hp.Ok.blkRange {M : Hp} (hk : M.Ok) {h : Int} {o : Th} (ho : M.ob h = some o) {m : Nat} (hm : m < o.blocks.length) : 0 ≤ gI o.blocks m ∧ gI o.blocks m < 384 := by
  have h1 := (hk.bk h o ho m hm).range (hk.isC ho hm)
  have h2 := (hk.isC ho hm).sz
  have h3 := hk.n24
  omega
section
variable {L : Nat → Option Lb} {hb : Nat} {M : Hp} {X : HX}
theorem Ints.cellsOf {w : World} {base : Nat} {v : Value} {l : List Int} (h : Ints w base v l) (h0 : 1 ≤ l.length) : ∃ g cap, v = .slice (some ⟨g, 0, none⟩) l.length cap ∧ ∀ i, i < l.length → w.cell? ⟨g, i, none⟩ = some (.int .i64 (gI l i)) := by
  rcases h.form with ⟨_, e⟩ | ⟨g, cap, e, _, _, _, hc⟩
  · rw [e] at h0; simp at h0
  · exact ⟨g, cap, e, hc⟩
theorem cellT_any (w : World) {h : Int} {b : Nat} {rv bv : Value} {o : Th} (k : ThAt w L h b rv bv o) (hk : M.Ok) (ho : M.ob h = some o) {s : Nat} (hs : s < o.slots.length) :
    Calls Try.prog 46 #[.pointer (some ⟨b, 0, none⟩), .int .i64 s] w (Exact w (.int .i64 (o.addr s))) := by
  refine calls_abs fun R hR => ?_
  obtain ⟨hb1, hb2, hb3, hb4⟩ := hk.blen ho
  obtain ⟨g, cap, e, hc⟩ := k.bl.cellsOf hb1
  have c4 := k.cells.2.2.2.2
  rw [e] at c4
  have hr0 := hk.blkRange ho (m := 0) (by omega)
  have hs48 := (hk.th h o ho).le
  by_cases h1 : 1 < o.blocks.length
  · have h7 := hb3.1 h1
    have hl := hb4 h7
    have hm : 1 + s / 8 < o.blocks.length := by omega
    have hcs := hc (1 + s / 8) hm
    have hr := hk.blkRange ho hm
    have hR2 : Hid (o.addr s = gI o.blocks (1 + s / 8) + ((s % 8 : Nat) : Int)) := by show _ = _; unfold Th.addr; rw [if_pos h1]
    rw [hR2.out] at hR
    obtain ⟨z, hz⟩ : ∃ z, z = gI o.blocks (1 + s / 8) := ⟨_, rfl⟩
    rw [← hz] at hcs hr hR
    obtain ⟨q, hq⟩ : ∃ q, q = s / 8 := ⟨_, rfl⟩
    obtain ⟨r, hrr⟩ : ∃ r, r = s % 8 := ⟨_, rfl⟩
    rw [← hq] at hcs hm
    rw [← hrr] at hR
    have hqi : (s : Int) / 8 = (q : Int) := by omega
    have hri : (s : Int) % 8 = (r : Int) := by omega
    have hr8 : (r : Int) < 8 := by omega
    have hr00 : (0 : Int) ≤ r := by omega
    have hq00 : (0 : Int) ≤ q := by omega
    have hs0 : (0 : Int) ≤ s := by omega
    have hq1 : (q : Int) ≤ 6 := by omega
    obtain ⟨n, hn⟩ : ∃ n, n = o.blocks.length := ⟨_, rfl⟩
    rw [← hn] at c4 h1 hm
    have h1i : (1 : Int) < n := by omega
    have hmi : (1 : Int) + q < n := by omega
    obtain ⟨hz1, hz2⟩ := hr
    have hsb : (s : Int) ≤ 48 := by omega
    clear k hk ho e hc hb1 hb2 hb3 hb4 h7 hl hz hq hrr hn hR2 hr0 hs48 h1 hs
    go_enter Try.func46, Try.ntmps46
    go_wp2_with fail
    exact hR.out _ _ ⟨rfl, rfl⟩
  · have hR2 : Hid (o.addr s = gI o.blocks 0 + 1 + (s : Int)) := by show _ = _; unfold Th.addr; rw [if_neg h1]
    rw [hR2.out] at hR
    have hc0 := hc 0 (by omega)
    have hbl : o.blocks.length = 1 := by omega
    rw [hbl] at c4
    obtain ⟨z, hz⟩ : ∃ z, z = gI o.blocks 0 := ⟨_, rfl⟩
    rw [← hz] at hc0 hr0 hR
    obtain ⟨hz1, hz2⟩ := hr0
    have hs0 : (0 : Int) ≤ s := by omega
    have hsb : (s : Int) ≤ 48 := by omega
    clear k hk ho e hc hb1 hb2 hb3 hb4 hz hR2 hs48 h1 hbl hs
    go_enter Try.func46, Try.ntmps46
    go_wp2_with fail
    exact hR.out _ _ ⟨rfl, rfl⟩
theorem type_rep (w : World) (h : HRep w L hb M X) (x : Int) (hx : wfI x) : Calls Try.prog 60 #[.pointer (some ⟨hb, 0, none⟩), .int .i64 x] w (Same w (.tuple #[.int .i64 (M.type x).1, .int .i64 (M.type x).2.1, .int .i64 (M.type x).2.2.1, .int .i64 (M.type x).2.2.2])) := by
  refine calls_abs fun R hR => ?_
  cases ho : M.ob x with
  | none =>
    have hr : M.type x = (0, 0, 0, 3) := by unfold Hp.type; rw [ho]
    rw [hr] at hR
    have h1 := find_none w h x hx ho
    clear h hr ho
    go_enter Try.func60, Try.ntmps60
    go_wp2_with fail
    refine h1.mono ?_
    rintro e _ ⟨rfl, rfl⟩
    go_wp2_with fail
    refine bodyPost_ret (results_tmp4 rfl _ _ _) rfl ?_
    exact hR.out _ _ ⟨rfl, 0, rfl⟩
  | some o =>
    have hr : M.type x = (o.kind, o.cls, (o.slots.length : Int), 0) := by unfold Hp.type; rw [ho]
    rw [hr] at hR
    have h1 := find_some w h x hx ho
    obtain ⟨c0, c1, c2, _⟩ := (h.th x o ho).cells
    clear h hr ho
    generalize o.slots.length = n at *
    generalize o.kind = kd at *
    generalize o.cls = cl at *
    go_enter Try.func60, Try.ntmps60
    go_wp2_with fail
    refine h1.mono ?_
    rintro e _ ⟨rfl, rfl⟩
    go_wp2_with fail
    go_quiet (fail)
    go_wp2_with fail
    refine bodyPost_ret (results_tmp4 rfl _ _ _) rfl ?_
    exact hR.out _ _ ⟨rfl, _, rfl⟩
end
end Go.Proofs.Ythflghdaejbdkaa
namespace Go.Proofs.Ythflghdaejbdkaa
open Go.RowKit Go.Maps
set_option maxHeartbeats 3200000
set_option maxRecDepth 100000
set_option linter.unusedVariables false
def RetL (w : World) (l : List Int) (e : Ending) (w' : World) : Prop := ∃ v, e = .returned v ∧ Ints w' w.heap.size v l ∧ Only [] w w'
def TwoL (w : World) (r : List Int × Int) (e : Ending) (w' : World) : Prop := ∃ v, e = .returned (.tuple #[v, .int .i64 r.2]) ∧ Ints w' w.heap.size v r.1 ∧ Only [] w w'
theorem own_past {w wr w2 : World} {o : Obj} {v : Value} {l : List Int} (hO : Only [] w wr) (hi : Ints wr w.heap.size v l) (ho2 : Only v.ownBlock.toList (wr.alloc o) w2) : Only [] w w2 :=
  (hO.alloc o).trans ho2 (fun z hz => .inr (by
    cases e : v.ownBlock with
    | none => rw [e] at hz; simp at hz
    | some c => rw [e] at hz; simp at hz; subst hz; exact (hi.own _ e).1))
section
variable {L : Nat → Option Lb} {hb : Nat} {M : Hp} {X : HX}
theorem slotCall (w : World) (h : HRep w L hb M X) (hk : M.Ok) {x : Int} {o : Th} (ho : M.ob x = some o) {k : Nat} (hn : k < o.slots.length) :
    (∀ m, Calls Try.prog 46 #[.pointer (some ⟨X.blk x, 0, none⟩), .int .i64 k] (w.drewN m) fun e w'' => e = .returned (.int .i64 (o.addr k)) ∧ ∃ k, w'' = w.drewN k) ∧
    ∀ m, Calls Try.prog 92 #[.pointer (some ⟨X.pp, 0, none⟩), .int .i64 (o.addr k)] (w.drewN m) fun e w'' => e = .returned (.tuple #[.int .i64 (gI o.slots k), .int .i64 0]) ∧ ∃ k, w'' = w.drewN k := by
  refine ⟨fun m => quiet_exact (cellT_any (w.drewN m) ((h.drewN m).th x o ho) hk ho hn), fun m => ?_⟩
  have := cell_rep (w.drewN m) X.pp X.pb M.P (h.drewN m).pool (o.addr k)
  rw [(hk.slotCell ho hn).1] at this
  exact Calls.quiet_of this
theorem refsT_any (w : World) (h : HRep w L hb M X) (hk : M.Ok) {x : Int} {o : Th} (ho : M.ob x = some o) :
    Calls Try.prog 74 #[.pointer (some ⟨hb, 0, none⟩), .pointer (some ⟨X.blk x, 0, none⟩)] w (RetL w o.refsL) := by
  refine calls_abs fun R hR => ?_
  have c2 := (h.th x o ho).cells.2.2.1
  have hle := (hk.th x o ho).le
  have H := Lib.hid h
  have HK := Lib.hid hk
  have HO0 := Lib.hid ho
  obtain ⟨n, hn⟩ : ∃ n, n = o.slots.length := ⟨_, rfl⟩
  rw [← hn] at c2 hle
  have HN := Lib.hid hn
  have hR2 : Hid (o.refsL = o.refsN n) := by show _ = _; rw [hn]; rfl
  rw [hR2.out] at hR
  clear h hk ho hn hR2
  go_enter Try.func74, Try.ntmps74
  go_wp2_with fail
  clear c2
  go_loopw [5, 13] (fun v iv wr => ∃ k : Nat, k ≤ n ∧ iv = .int .i64 k ∧ Ints wr w.heap.size v (o.refsN k) ∧ Only [] w wr) (fun _ iv _ => n - (intOf iv).toNat)
  case atStart => exact ⟨0, by omega, rfl, Ints.nil _ _, Only.refl _ _⟩
  case round =>
    obtain ⟨k, hk, rfl, hi, ho⟩ := hrel
    have HI := Lib.hid hi
    have HO := Lib.hid ho
    clear hi ho
    by_cases hlt : k < n
    · have hlt1 : k < o.slots.length := by have := HN.out; omega
      have hr := H.out.only0 HO.out
      have hir := isRefT_any wr (hr.th x o HO0.out) (HK.out.th x o HO0.out) hlt1
      obtain ⟨s1, s2⟩ := slotCall wr hr HK.out HO0.out hlt1
      have h0 := hr.cells.1
      have hstep : Hid (o.refsN (k + 1) = o.refsN k ++ if gB o.refs k = true ∧ gI o.slots k ≠ 0 then [gI o.slots k] else []) := rfl
      have HLEN := Lib.hid (o.refsN_len k)
      generalize o.addr k = ad at s1 s2
      generalize gI o.slots k = z at s2 hstep
      clear hr hlt1
      cases hg : gB o.refs k
      · rw [hg] at hir hstep
        have hs2 : Hid (o.refsN (k + 1) = o.refsN k) := by show _ = _; rw [hstep.out]; simp
        clear hstep hg s1 s2
        go_wp2_with fail
        refine hir.mono ?_
        rintro e _ ⟨rfl, rfl⟩
        clear hir
        go_wp2_with fail
        exact ⟨⟨k + 1, by omega, by go_num, by rw [hs2.out]; exact HI.out, HO.out⟩, by simp [intOf]; omega⟩
      · rw [hg] at hir hstep
        by_cases hz : z = 0
        · subst hz
          have hs2 : Hid (o.refsN (k + 1) = o.refsN k) := by show _ = _; rw [hstep.out]; simp
          clear hstep hg
          go_wp2_with fail
          refine hir.mono ?_
          rintro e _ ⟨rfl, rfl⟩
          clear hir
          go_wp2_with fail
          go_quiet ((first | (go_at_call 46; with_reducible exact s1 _) | (go_at_call 92; with_reducible exact s2 _)))
          clear s1 s2 h0
          go_wp2_with fail
          exact ⟨⟨k + 1, by omega, by go_num, by rw [hs2.out]; exact HI.out, HO.out.drewN _⟩, by simp [intOf]; omega⟩
        · have hs2 : Hid (o.refsN (k + 1) = o.refsN k ++ [z]) := by show _ = _; rw [hstep.out]; simp [hz]
          have hzb : (z != 0) = true := by simpa using hz
          clear hstep hg hz
          go_wp2_with fail
          refine hir.mono ?_
          rintro e _ ⟨rfl, rfl⟩
          clear hir
          go_wp2_with fail
          go_quiet ((first | (go_at_call 46; with_reducible exact s1 _) | (go_at_call 92; with_reducible exact s2 _)))
          clear s1 s2 h0
          have HO3 := Lib.hid (HO.out.drewN nq)
          have HI3 := Lib.hid (HI.out.drewN nq)
          generalize wr.drewN nq = w3 at *
          go_wp2_with (at_builtin; refine append_int1 rfl _ _ rfl w.heap.size _ _ rfl (HI3.out.alloc (.cells #[.int .i64 z] 3)) w3.heap.size z rfl ?c1 ?c2 ?c3 ?c4)
          case c1 => exact (Row.new w3 _ [_]).cell 0 rfl
          case c2 => have := HLEN.out; omega
          case c3 => have := HO3.out.size; simp; omega
          case c4 =>
            intro v' w2 hi2 ho2 hb2
            have HO4 := Lib.hid (own_past HO3.out HI3.out ho2)
            have HI4 := Lib.hid hi2
            clear hi2 ho2 hb2
            go_wp2_with fail
            exact ⟨⟨k + 1, by omega, by go_num, by rw [hs2.out]; exact HI4.out, HO4.out⟩, by simp [intOf]; omega⟩
    · obtain rfl : k = n := by omega
      go_wp2_with fail
      exact hR.out _ _ ⟨_, rfl, HI.out, HO.out⟩
theorem refs_rep (w : World) (h : HRep w L hb M X) (hk : M.Ok) (x : Int) (hx : wfI x) : Calls Try.prog 53 #[.pointer (some ⟨hb, 0, none⟩), .int .i64 x] w (TwoL w (M.refs x)) := by
  refine calls_abs fun R hR => ?_
  cases ho : M.ob x with
  | none =>
    have hr : M.refs x = ([], 3) := by unfold Hp.refs; rw [ho]
    rw [hr] at hR
    have h1 := find_none w h x hx ho
    clear h hr ho
    go_enter Try.func53, Try.ntmps53
    go_wp2_with fail
    refine h1.mono ?_
    rintro e _ ⟨rfl, rfl⟩
    go_wp2_with fail
    exact hR.out _ _ ⟨_, rfl, Ints.nil _ _, Only.refl _ _⟩
  | some o =>
    have hr : M.refs x = (o.refsL, 0) := by unfold Hp.refs; rw [ho]
    rw [hr] at hR
    have h1 := find_some w h x hx ho
    have h2 := refsT_any w h hk ho
    clear h hr ho hk
    go_enter Try.func53, Try.ntmps53
    go_wp2_with fail
    refine h1.mono ?_
    rintro e _ ⟨rfl, rfl⟩
    go_wp2_with fail
    refine h2.mono ?_
    rintro e w2 ⟨v, rfl, hi, ho⟩
    have HI := Lib.hid hi
    have HO := Lib.hid ho
    clear hi ho h1 h2
    go_wp2_with fail
    exact hR.out _ _ ⟨_, rfl, HI.out, HO.out⟩
end
end Go.Proofs.Ythflghdaejbdkaa
namespace Go.Proofs.Ythflghdaejbdkaa
open Go.RowKit Go.Maps
set_option maxHeartbeats 3200000
set_option maxRecDepth 100000
set_option linter.unusedVariables false
theorem mem_gI {l : List Int} {y : Int} : y ∈ l ↔ ∃ i, i < l.length ∧ gI l i = y := by
  constructor
  · intro h
    obtain ⟨i, hi, rfl⟩ := List.getElem_of_mem h
    exact ⟨i, hi, by unfold gI; rw [List.getElem?_eq_getElem hi]; rfl⟩
  · rintro ⟨i, hi, rfl⟩
    unfold gI
    rw [List.getElem?_eq_getElem hi]
    exact List.getElem_mem hi
section
variable {w w' : World} {L : Nat → Option Lb} {hb : Nat} {M : Hp} {X : HX}
def HDid (w : World) (L : Nat → Option Lb) (hb : Nat) (r : Value) (M' : Hp) (e : Ending) (w' : World) : Prop :=
  e = .returned r ∧ ∃ L' X', HRep w' L' hb M' X' ∧ (∀ k, L' k ≠ none → L k ≠ none ∨ w.heap.size ≤ k) ∧ OnlyP (fun k => L k ≠ none) w w'
theorem HDid.none {r : Value} (h : HRep w L hb M X) (ho : Drew w w') : HDid w L hb r M (.returned r) w' := by
  obtain ⟨n, rfl⟩ := ho
  exact ⟨rfl, L, X, h.drewN n, fun k hk => .inl hk, (OnlyP.refl _ _).drewN n⟩
theorem HDid.none0 {r : Value} (h : HRep w L hb M X) (ho : Only [] w w') : HDid w L hb r M (.returned r) w' :=
  ⟨rfl, L, X, h.only0 ho, fun k hk => .inl hk, ho.toP0⟩
structure Th.Shape (o o' : Th) : Prop where
  kind : o'.kind = o.kind
  cls : o'.cls = o.cls
  refs : o'.refs = o.refs
  len : o'.slots.length = o.slots.length
  blocks : o'.blocks = o.blocks
theorem Th.Shape.refl (o : Th) : o.Shape o := ⟨rfl, rfl, rfl, rfl, rfl⟩
theorem ThAt.shape {h : Int} {b : Nat} {rv bv : Value} {o o' : Th} (k : ThAt w L h b rv bv o) (s : o.Shape o') : ThAt w L h b rv bv o' := by
  have e1 : thRow o' rv bv = thRow o rv bv := by unfold thRow; rw [s.kind, s.cls, s.len]
  have e2 : o'.rlist = o.rlist := by unfold Th.rlist; rw [s.kind, s.refs]
  exact ⟨by rw [e1]; exact k.row, k.Lth, by rw [e2]; exact k.rb, k.Lr, by rw [s.blocks]; exact k.bl, k.Ll⟩
theorem HRep.poolTurn {P' : Pl} {ob' : Int → Option Th} (h : HRep w L hb M X) (hg : Only [X.pb] w w') (hp : PRep w' X.pp X.pb P') (hs : ∀ k, (M.ob k).isSome = (ob' k).isSome) (ho : ∀ k o', ob' k = some o' → ∃ o, M.ob k = some o ∧ o.Shape o') : HRep w' L hb ⟨P', ob'⟩ X := by
  have hP : OnlyP (fun k => L k = some .pages) w w' := hg.toP (fun x hx => .inl (by simp at hx; rw [hx]; exact h.Lpb))
  have hne : ∀ k ℓ, ℓ ≠ Lb.pages → L k = some .pages → L k ≠ some ℓ := fun k ℓ h1 hk e => by rw [hk] at e; cases e; exact h1 rfl
  refine ⟨fun k hk => Nat.lt_of_lt_of_le (h.lt k hk) hP.size, ?_, h.Lm, hp, h.Lpp, h.Lpb, ?_, h.Lp, fun k o' hk => ?_⟩
  · obtain ⟨T, hr⟩ := h.mem
    exact ⟨T, hP.row hr (fun x => hne _ .mem (by simp) x h.Lm)⟩
  · refine (h.mp.only hP (fun x => hne _ .map (by simp) x h.Lp)).congr (fun k => ?_)
    show (M.ob k).map _ = (ob' k).map _
    have := hs k
    cases h1 : M.ob k <;> cases h2 : ob' k <;> simp_all
  · obtain ⟨o, h1, h2⟩ := ho k o' hk
    exact ((h.th k o h1).only hP (fun x hx => ⟨hne x _ (by simp) hx, hne x _ (by simp) hx, hne x _ (by simp) hx⟩)).shape h2
theorem set_rep (w : World) (h : HRep w L hb M X) (hk : M.Ok) (x s y : Int) (hx : wfI x) (hy : wfI y) : Calls Try.prog 22 #[.pointer (some ⟨hb, 0, none⟩), .int .i64 x, .int .i64 s, .int .i64 y] w (HDid w L hb (.int .i64 (M.set x s y).1) (M.set x s y).2) := by
  refine calls_abs fun R hR => ?_
  cases ho : M.ob x with
  | none =>
    have hr : M.set x s y = (3, M) := by unfold Hp.set; rw [ho]
    rw [hr] at hR
    have h1 := slot_none w h x s hx ho
    have HD := Lib.hid (HDid.none (r := .int .i64 3) h (Drew.refl w))
    clear h hr ho hk
    go_enter Try.func22, Try.ntmps22
    go_wp2_with fail
    refine h1.mono ?_
    rintro e _ ⟨rfl, rfl⟩
    go_wp2_with fail
    exact hR.out _ _ HD.out
  | some o =>
    by_cases hs : s < 0 ∨ (o.slots.length : Int) ≤ s
    · have hr : M.set x s y = (1, M) := by unfold Hp.set; rw [ho]; simp only; rw [if_pos hs]
      rw [hr] at hR
      have h1 := slot_bad w h x s hx ho hs
      have HD := Lib.hid (HDid.none (r := .int .i64 1) h (Drew.refl w))
      clear h hr ho hs hk
      go_enter Try.func22, Try.ntmps22
      go_wp2_with fail
      refine h1.mono ?_
      rintro e _ ⟨rfl, rfl⟩
      go_wp2_with fail
      exact hR.out _ _ HD.out
    · obtain ⟨n, rfl⟩ : ∃ n : Nat, s = n := ⟨s.toNat, by omega⟩
      have hn : n < o.slots.length := by omega
      have h1 := slot_ok w h x n hx ho hs
      have h2 := isRefT_any w (h.th x o ho) (hk.th x o ho) hn
      have hc1 := h.cells.2.1
      have hr0 : M.set x n y = if M.fits (gB o.refs n) y then (0, ⟨(M.P.setCell (o.addr n) y).2, setT M.ob x (some (o.put n y))⟩) else (1, M) := by unfold Hp.set; rw [ho]; simp only; rw [if_neg hs, Int.toNat_natCast]
      cases hf : M.fits (gB o.refs n) y
      · have hr : M.set x n y = (1, M) := by rw [hr0, hf]; rfl
        rw [hr] at hR
        have HD := Lib.hid (HDid.none (r := .int .i64 1) h (Drew.refl w))
        cases hg : gB o.refs n
        · rw [hg] at h2 hf
          have hf2 : isWordI y = false := hf
          unfold isWordI at hf2
          simp only [decide_eq_false_iff_not] at hf2
          clear hf hr hr0 hk hg hs hc1
          by_cases hy1 : y < -2147483648
          · clear hf2
            go_enter Try.func22, Try.ntmps22
            go_wp2_with fail
            refine h1.mono ?_
            rintro e _ ⟨rfl, rfl⟩
            go_wp2_with fail
            refine h2.mono ?_
            rintro e _ ⟨rfl, rfl⟩
            go_wp2_with fail
            exact hR.out _ _ HD.out
          · have hy2 : 2147483647 < y := by omega
            clear hf2
            go_enter Try.func22, Try.ntmps22
            go_wp2_with fail
            refine h1.mono ?_
            rintro e _ ⟨rfl, rfl⟩
            go_wp2_with fail
            refine h2.mono ?_
            rintro e _ ⟨rfl, rfl⟩
            go_wp2_with fail
            exact hR.out _ _ HD.out
        · rw [hg] at h2 hf
          have hf2 : (decide (y = 0) || (M.ob y).isSome) = false := hf
          simp only [Bool.or_eq_false_iff, decide_eq_false_iff_not] at hf2
          have hyn : M.ob y = none := by
            cases e : M.ob y with
            | none => rfl
            | some o' => rw [e] at hf2; cases hf2.2
          have hl := h.look_none hy hyn
          have hy0 : (y != 0) = true := by simpa using hf2.1
          clear hf hf2 hr hr0 hk hg hs hyn
          go_enter Try.func22, Try.ntmps22
          go_wp2_with fail
          refine h1.mono ?_
          rintro e _ ⟨rfl, rfl⟩
          go_wp2_with fail
          refine h2.mono ?_
          rintro e _ ⟨rfl, rfl⟩
          go_wp2_with fail
          exact hR.out _ _ HD.out
      · have hr : M.set x n y = (0, ⟨(M.P.setCell (o.addr n) y).2, setT M.ob x (some (o.put n y))⟩) := by rw [hr0, hf]; rfl
        rw [hr] at hR
        have HCT : Hid (Calls Try.prog 46 #[.pointer (some ⟨X.blk x, 0, none⟩), .int .i64 n] w.drew (Exact w.drew (.int .i64 (o.addr n)))) := cellT_any w.drew (h.drew.th x o ho) hk ho hn
        have hse : (M.P.setCell (o.addr n) y).1 = 0 := by
          unfold Pl.setCell
          rw [if_pos (hk.slotCell ho hn).2]
        have HST : Hid (Calls Try.prog 45 #[.pointer (some ⟨X.pp, 0, none⟩), .int .i64 (o.addr n), .int .i64 y] w.drew fun e w' => e = .returned (.int .i64 0) ∧ PRep w' X.pp X.pb (M.P.setCell (o.addr n) y).2 ∧ Only [X.pb] w.drew w') := by
          have := setCell_rep w.drew X.pp X.pb M.P h.drew.pool (o.addr n) y
          rw [hse] at this
          exact this
        have hEnd : Hid (∀ w', PRep w' X.pp X.pb (M.P.setCell (o.addr n) y).2 → Only [X.pb] w.drew w' → HDid w L hb (.int .i64 0) ⟨(M.P.setCell (o.addr n) y).2, setT M.ob x (some (o.put n y))⟩ (.returned (.int .i64 0)) w') := fun w' hp hg => by
          have hg' : Only [X.pb] w w' := ((Only.refl [X.pb] w).drew).trans hg (fun x hx => .inl hx)
          refine ⟨rfl, L, X, h.poolTurn hg' hp (fun k => ?_) (fun k o' hk' => ?_), fun k hk => .inl hk, hg'.toP (fun x hx => .inl (by simp at hx; rw [hx, h.Lpb]; simp))⟩
          · by_cases e : k = x
            · rw [e, setT_same, ho]; rfl
            · rw [setT_other _ _ e]
          · rcases setT_some hk' with ⟨rfl, rfl⟩ | ⟨_, e2⟩
            · exact ⟨o, ho, rfl, rfl, rfl, by simp [Th.put], rfl⟩
            · exact ⟨o', e2, Th.Shape.refl _⟩
        have d0 : w.drew.cell? ⟨hb, 0, none⟩ = some (.pointer (some ⟨X.pp, 0, none⟩)) := h.cells.1
        obtain ⟨ad, had⟩ : ∃ z, z = o.addr n := ⟨_, rfl⟩
        rw [← had] at HCT HST hEnd hR
        obtain ⟨P2, hP2⟩ : ∃ z, z = (M.P.setCell ad y).2 := ⟨_, rfl⟩
        rw [← hP2] at HST hEnd hR
        cases hg : gB o.refs n
        · rw [hg] at h2 hf
          have hf2 : isWordI y = true := hf
          unfold isWordI at hf2
          simp only [decide_eq_true_eq] at hf2
          obtain ⟨hy1, hy2⟩ := hf2
          clear hf hr hr0 hk hg hs hc1 had hP2 hse ho hn
          go_enter Try.func22, Try.ntmps22
          go_wp2_with fail
          refine h1.mono ?_
          rintro e _ ⟨rfl, rfl⟩
          go_wp2_with fail
          refine h2.mono ?_
          rintro e _ ⟨rfl, rfl⟩
          go_wp2_with fail
          go_region_held3 (fun w' => w'.cell? ⟨hb, 0, none⟩ = some (.pointer (some ⟨X.pp, 0, none⟩)))
            (first | (exact d0) | (exact ho3.cell d0 (by simp; rintro rfl; have := h.Lm; rw [h.Lpb] at this; cases this)))
            (first
              | (go_at_call 46; refine HCT.out.mono ?_; rintro e _ ⟨rfl, rfl⟩)
              | (go_at_call 45; refine HST.out.mono ?_; rintro e w3 ⟨rfl, hp3, ho3⟩))
          have HE := Lib.hid (hEnd.out w3 hp3 ho3)
          clear hp3 ho3 hEnd
          go_wp2_with fail
          exact hR.out _ _ HE.out
        · rw [hg] at h2 hf
          have hf2 : (decide (y = 0) || (M.ob y).isSome) = true := hf
          simp only [Bool.or_eq_true, decide_eq_true_eq] at hf2
          by_cases hy0 : y = 0
          · subst hy0
            clear hf hf2 hr hr0 hk hg hs hc1 had hP2 hse ho hn
            go_enter Try.func22, Try.ntmps22
            go_wp2_with fail
            refine h1.mono ?_
            rintro e _ ⟨rfl, rfl⟩
            go_wp2_with fail
            refine h2.mono ?_
            rintro e _ ⟨rfl, rfl⟩
            go_wp2_with fail
            go_region_held3 (fun w' => w'.cell? ⟨hb, 0, none⟩ = some (.pointer (some ⟨X.pp, 0, none⟩)))
              (first | (exact d0) | (exact ho3.cell d0 (by simp; rintro rfl; have := h.Lm; rw [h.Lpb] at this; cases this)))
              (first
                | (go_at_call 46; refine HCT.out.mono ?_; rintro e _ ⟨rfl, rfl⟩)
                | (go_at_call 45; refine HST.out.mono ?_; rintro e w3 ⟨rfl, hp3, ho3⟩))
            have HE := Lib.hid (hEnd.out w3 hp3 ho3)
            clear hp3 ho3 hEnd
            go_wp2_with fail
            exact hR.out _ _ HE.out
          · have hys : ∃ o', M.ob y = some o' := by
              cases e : M.ob y with
              | none => rw [e] at hf2; simp [hy0] at hf2
              | some o' => exact ⟨o', rfl⟩
            obtain ⟨o', hyo⟩ := hys
            have hl := h.look_some hy hyo
            have hyb : (y != 0) = true := by simpa using hy0
            clear hf hf2 hr hr0 hk hg hs had hP2 hse ho hn hy0 hyo
            go_enter Try.func22, Try.ntmps22
            go_wp2_with fail
            refine h1.mono ?_
            rintro e _ ⟨rfl, rfl⟩
            go_wp2_with fail
            refine h2.mono ?_
            rintro e _ ⟨rfl, rfl⟩
            go_wp2_with fail
            go_region_held3 (fun w' => w'.cell? ⟨hb, 0, none⟩ = some (.pointer (some ⟨X.pp, 0, none⟩)))
              (first | (exact d0) | (exact ho3.cell d0 (by simp; rintro rfl; have := h.Lm; rw [h.Lpb] at this; cases this)))
              (first
                | (go_at_call 46; refine HCT.out.mono ?_; rintro e _ ⟨rfl, rfl⟩)
                | (go_at_call 45; refine HST.out.mono ?_; rintro e w3 ⟨rfl, hp3, ho3⟩))
            have HE := Lib.hid (hEnd.out w3 hp3 ho3)
            clear hp3 ho3 hEnd
            go_wp2_with fail
            exact hR.out _ _ HE.out
end
end Go.Proofs.Ythflghdaejbdkaa
