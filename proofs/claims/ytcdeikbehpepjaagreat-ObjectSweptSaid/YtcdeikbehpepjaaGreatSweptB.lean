/- Law ObjectSwept: handle by handle; what lies in memory meanwhile. -/
import Derived.Test.YtcdeikbehpepjaaGreatSwept
import Derived.Test.YtcdeikbehpepjaaGreatOSeen
import Derived.Test.YtcdeikbehpepjaaGreatOReaches
namespace Go.Proofs.YtcdeikbehpepjaaGreat
open Go.RowKit Go.Maps
set_option maxHeartbeats 12800000
set_option maxRecDepth 100000
set_option linter.unusedVariables false
/-- The first i handles. -/
def upTo (M : Hp) (i : Nat) (k : Int) : Prop := ∃ j, j < i ∧ gI M.handles j = k
section
variable {M N N0 : Hp} {live : Int → Prop} {i s n : Nat} {x k : Int} {rts : List Int}
theorem upTo_zero : ¬ upTo M 0 k := fun ⟨j, h, _⟩ => by omega
theorem upTo_succ : upTo M (i + 1) k ↔ upTo M i k ∨ k = gI M.handles i := by
  constructor
  · rintro ⟨j, h1, h2⟩
    by_cases e : j = i
    · exact .inr (by rw [← h2, e])
    · exact .inl ⟨j, by omega, h2⟩
  · rintro (⟨j, h1, h2⟩ | h)
    · exact ⟨j, by omega, h2⟩
    · exact ⟨i, by omega, h.symm⟩
theorem upTo_all (hk : M.Ok) (h : (M.ob k).isSome = true) : upTo M M.handles.length k := by
  obtain ⟨j, h1, h2⟩ := mem_gI.1 (hk.mem_handles.2 h)
  exact ⟨j, h1, h2⟩
theorem not_upTo (hi : i < M.handles.length) : ¬ upTo M i (gI M.handles i) := fun ⟨j, h1, h2⟩ => by
  have := handles_lt h1 hi
  omega
/-- On the way through the slots of x. -/
structure BarS (M N : Hp) (live : Int → Prop) (i : Nat) (x : Int) (s n : Nat) : Prop where
  b : Bared M N live (upTo M i)
  o : ∃ o, N.ob x = some o ∧ o.slots.length = n ∧ (¬ live x → ∀ j, j < s → gI o.slots j = 0)
theorem BarS.start (h : Bared M N live (upTo M i)) {o : Th} (ho : M.ob x = some o) : BarS M N live i x 0 o.slots.length := ⟨h, by
  have h1 := h.is x
  rw [ho] at h1
  obtain ⟨o2, h2⟩ := Option.isSome_iff_exists.1 h1
  exact ⟨o2, h2, h.ln x o o2 ho h2, fun _ j hj => by omega⟩⟩
theorem BarS.step (h : BarS M N live i x s n) (hs : s < n) (hl : ¬ live x) : (N.set x s 0).1 = 0 ∧ BarS M (N.set x s 0).2 live i x (s + 1) n := by
  obtain ⟨o, ho, hn, hz⟩ := h.o
  obtain ⟨h1, h2, h3⟩ := h.b.set hl ho (s := s) (by omega)
  refine ⟨h1, h2, _, h3, ?_, fun _ j hj => ?_⟩
  · show (o.slots.set s 0).length = n
    rw [List.length_set]; exact hn
  · show gI (o.slots.set s 0) j = 0
    rw [gI_set (by omega)]
    split
    · rfl
    · exact hz hl j (by omega)
theorem Bared.weak {done d : Int → Prop} (h : Bared M N live done) (hd : ∀ k, d k → done k) : Bared M N live d := ⟨h.ok, h.lv, h.is, h.ln, fun k o h1 h2 h3 => h.dn k o (hd k h1) h2 h3⟩
theorem BarS.done (h : BarS M N live i x s n) (hx : x = gI M.handles i) (he : live x ∨ s = n) : Bared M N live (upTo M (i + 1)) := by
  obtain ⟨o, ho, hn, hz⟩ := h.o
  have h1 : Bared M N live (fun k => upTo M i k ∨ k = x) := by
    by_cases hl : live x
    · exact h.b.alive hl
    · rcases he with he | he
      · exact absurd he hl
      · exact h.b.next ho (fun j hj => hz hl j (by omega))
  exact h1.weak (fun k hk => by rw [hx]; exact upTo_succ.1 hk)
/-- All that is not live is bare. -/
structure Bare0 (M N0 : Hp) (live : Int → Prop) : Prop where
  ok : N0.OkF
  lv : ∀ k, live k → N0.ob k = M.ob k
  is : ∀ k, (N0.ob k).isSome = (M.ob k).isSome
  hb : ∀ k o, ¬ live k → N0.ob k = some o → o.bare
  hc : ∀ k o, live k → N0.ob k = some o → ∀ y, y ∈ o.refsL → live y
theorem Bared.all (hM : M.Ok) (h : Bared M N (M.Rch rts) (upTo M M.handles.length)) : Bare0 M N (M.Rch rts) :=
  ⟨h.ok, h.lv, h.is, fun k o hl ho => h.dn k o (upTo_all hM (by rw [← h.is k, ho]; rfl)) hl ho, fun k o hl ho y hy => .step hl (by rw [← h.lv k hl]; exact ho) hy⟩
theorem Gone.turn {g g' : Int → Prop} (h : Gone N0 N live g) (e : ∀ k, g' k ↔ g k) : Gone N0 N live g' :=
  ⟨h.ok, h.lv, fun k hg hl => h.no k ((e k).1 hg) hl, h.sm, fun k hg => h.st k (fun x => hg ((e k).2 x))⟩
theorem gone_start (h : Bare0 M N0 live) : Gone N0 N0 live (upTo M 0) := (Gone.start h.ok).turn (fun k => ⟨fun h => absurd h upTo_zero, fun h => h.elim⟩)
theorem gone_step (hz : Bare0 M N0 live) (h : Gone N0 N live (upTo M i)) (hi : i < M.handles.length) (hl : ¬ live (gI M.handles i)) : (N.release (gI M.handles i)).1 = 0 ∧ Gone N0 (N.release (gI M.handles i)).2 live (upTo M (i + 1)) := by
  have h1 := Hp.handle_some hi
  rw [← hz.is, ← h.st _ (not_upTo hi)] at h1
  obtain ⟨o, ho⟩ := Option.isSome_iff_exists.1 h1
  obtain ⟨h2, h3⟩ := h.release hz.hb hz.hc hl ho
  exact ⟨h2, h3.turn (fun k => upTo_succ)⟩
theorem gone_skip (h : Gone N0 N live (upTo M i)) (hl : live (gI M.handles i)) : Gone N0 N live (upTo M (i + 1)) :=
  ⟨h.ok, h.lv, fun k hg hn => by
    rcases upTo_succ.1 hg with hg | hg
    · exact h.no k hg hn
    · exact absurd (by rw [hg]; exact hl) hn, h.sm, fun k hg => h.st k (fun x => hg (upTo_succ.2 (.inl x)))⟩
theorem gone_all (hM : M.Ok) (hB : ¬ M.badRoot rts) (hz : Bare0 M N0 (M.Rch rts)) (h : Gone N0 N (M.Rch rts) (upTo M M.handles.length)) : N.OkF ∧ N.handles = M.reachL rts ∧ ∀ k, M.Rch rts k → N.ob k = M.ob k := by
  have h3 : ∀ k, M.Rch rts k → N.ob k = M.ob k := fun k hk => (h.lv k hk).trans (hz.lv k hk)
  refine ⟨h.ok, handles_reach fun k => ⟨fun hs => ?_, fun hk => ?_⟩, h3⟩
  · by_cases e : M.Rch rts k
    · exact e
    · obtain ⟨o, ho⟩ := Option.isSome_iff_exists.1 hs
      have h0 := h.sm k o ho
      have h4 := h.no k (upTo_all hM (by rw [← hz.is k, h0]; rfl)) e
      rw [ho] at h4
      cases h4
  · rw [h3 k hk]; exact (hk.some hM hB).1
theorem used_final (h : N.OkF) {kp : List Int} (hh : N.handles = kp) (he : ∀ j, j < kp.length → N.ob (gI kp j) = M.ob (gI kp j)) : sumN (fun c : Nat => N.P.usedN (c : Int) N.P.n) 3 = sumN (fun j => bLen (M.ob (gI kp j))) kp.length := by
  rw [used_handles h, hh]
  exact sumN_congr fun j hj => by rw [he j hj]
theorem get_in {o : Th} (ho : M.ob x = some o) (hs : s < o.slots.length) : M.get x s = (gI o.slots s, 0) := by
  unfold Hp.get
  rw [ho]
  simp only
  rw [if_neg (by omega), Int.toNat_natCast]
theorem type_in {o : Th} (ho : M.ob x = some o) : M.type x = (o.kind, o.cls, (o.slots.length : Int), 0) := by unfold Hp.type; rw [ho]
end
/-- Which handles are live: the table and the list. -/
structure LiveB (keep : List Int) (bits : List Bool) (i : Nat) : Prop where
  len : bits.length = 193
  iff : ∀ k : Nat, k < 193 → (gB bits k = true ↔ ∃ j, j < i ∧ gI keep j = (k : Int))
theorem LiveB.start {keep : List Int} : LiveB keep (List.replicate 193 false) 0 := ⟨List.length_replicate, fun k _ => by
  rw [gB_rep]
  exact ⟨fun h => (by cases h), fun ⟨j, h, _⟩ => by omega⟩⟩
theorem LiveB.step {keep : List Int} {bits : List Bool} {i y : Nat} (h : LiveB keep bits i) (hy : gI keep i = (y : Int)) (hy3 : y < 193) : LiveB keep (bits.set y true) (i + 1) := ⟨by rw [List.length_set]; exact h.len, fun k hk => by
  rw [gB_set (by rw [h.len]; exact hy3)]
  by_cases e : k = y
  · rw [if_pos e]
    exact ⟨fun _ => ⟨i, by omega, by rw [hy, e]⟩, fun _ => rfl⟩
  · rw [if_neg e, h.iff k hk]
    constructor
    · rintro ⟨j, h1, h2⟩; exact ⟨j, by omega, h2⟩
    · rintro ⟨j, h1, h2⟩
      by_cases ej : j = i
      · rw [ej, hy] at h2; omega
      · exact ⟨j, by omega, h2⟩⟩
theorem LiveB.rch {M : Hp} {rts : List Int} {keep : List Int} {bits : List Bool} (h : LiveB keep bits keep.length) (hk : M.Ok) (hb : ¬ M.badRoot rts) (he : keep = M.reachL rts) {y : Nat} (hy : y < 193) : gB bits y = true ↔ M.Rch rts (y : Int) := by
  rw [h.iff y hy, ← hk.mem_reach hb, ← he, mem_gI]
/-- What lies in memory. -/
def FL (p : Nat) (N : Hp) (q : Nat) (M : Hp) (vk : Value) (kp : List Int) (sg : Nat) (bits : List Bool) (vl : Value) : List Asn :=
  [PH p N, GH q M, IntsA vk kp, RowA sg 4 (bits.map Value.bool), IntsA vl M.handles]
section
variable {w0 w : World} {p q sg : Nat} {M N : Hp} {vk vl : Value} {kp : List Int} {bits : List Bool}
theorem FL.pset (h : Fam w0 w (FL p N q M vk kp sg bits vl)) {x : Int} {s : Nat} (hx : wfI x) (he : (N.set x s 0).1 = 0) : Calls Tryz.prog 21 #[.pointer (some ⟨p, 0, none⟩), .int .i64 x, .int .i64 s, .int .i64 0] w (fun e w1 => e = .returned (.int .i64 0) ∧ Fam w0 w1 (FL p (N.set x s 0).2 q M vk kp sg bits vl)) := by
  have c := h.pstep 0 rfl (fun hk => hk.set x s 0) (fun L X hr hk => set_rep w hr hk x s 0 hx (by decide))
  rw [he] at c
  exact c
theorem FL.prel (h : Fam w0 w (FL p N q M vk kp sg bits vl)) {x : Int} (hx : wfI x) (he : (N.release x).1 = 0) : Calls Tryz.prog 22 #[.pointer (some ⟨p, 0, none⟩), .int .i64 x] w (fun e w1 => e = .returned (.int .i64 0) ∧ Fam w0 w1 (FL p (N.release x).2 q M vk kp sg bits vl)) := by
  have c := h.pstep 0 rfl (fun hk => hk.release x) (fun L X hr hk => release_rep w hr hk x hx)
  rw [he] at c
  exact c
theorem FL.gtype (h : Fam w0 w (FL p N q M vk kp sg bits vl)) {x : Int} {o : Th} (ho : M.ob x = some o) : Calls Tryz.prog 20 #[.pointer (some ⟨q, 0, none⟩), .int .i64 x] w (fun e w' => e = .returned (.tuple #[.int .i64 o.kind, .int .i64 o.cls, .int .i64 (o.slots.length : Int), .int .i64 0]) ∧ Only [] w w') := by
  obtain ⟨hk, L, X, hg⟩ := h.gh 1 rfl
  have c := gtype_rep w hg hk x
  rw [type_in ho] at c
  exact c
theorem FL.gblocks (h : Fam w0 w (FL p N q M vk kp sg bits vl)) {x : Int} {o : Th} (ho : M.ob x = some o) : Calls Tryz.prog 23 #[.pointer (some ⟨q, 0, none⟩), .int .i64 x] w (fun e w' => ∃ a c, e = .returned (.tuple #[.slice a o.blocks.length c, .int .i64 0]) ∧ Only [] w w') := by
  obtain ⟨hk, L, X, hg⟩ := h.gh 1 rfl
  have c := gblocks_rep w hg hk x
  rw [blocks_some ho] at c
  refine c.mono ?_
  rintro e w' ⟨v, rfl, hi, ho⟩
  obtain ⟨a, c, rfl⟩ := hi.len
  exact ⟨a, c, rfl, ho⟩
theorem FL.gget (h : Fam w0 w (FL p N q M vk kp sg bits vl)) {x : Int} {o : Th} (ho : M.ob x = some o) {s : Nat} (hs : s < o.slots.length) : Calls Tryz.prog 25 #[.pointer (some ⟨q, 0, none⟩), .int .i64 x, .int .i64 s] w (fun e w' => e = .returned (.tuple #[.int .i64 (gI o.slots s), .int .i64 0]) ∧ Only [] w w') := by
  obtain ⟨hk, L, X, hg⟩ := h.gh 1 rfl
  have c := gget_rep w hg hk x s
  rw [get_in ho hs] at c
  refine c.mono ?_
  rintro e _ ⟨rfl, rfl⟩
  exact ⟨rfl, Only.refl _ _⟩
theorem FL.pget (h : Fam w0 w (FL p N q M vk kp sg bits vl)) {x : Int} (hx : wfI x) {o : Th} (ho : N.ob x = some o) {s : Nat} (hs : s < o.slots.length) : Calls Tryz.prog 24 #[.pointer (some ⟨p, 0, none⟩), .int .i64 x, .int .i64 s] w (fun e w' => e = .returned (.tuple #[.int .i64 (gI o.slots s), .int .i64 0]) ∧ Only [] w w') := by
  obtain ⟨hk, L, X, hp⟩ := h.ph 0 rfl
  have c := get_rep w hp hk x s hx
  rw [get_in ho hs] at c
  refine c.mono ?_
  rintro e _ ⟨rfl, m, rfl⟩
  exact ⟨rfl, (Only.refl _ _).drewN m⟩
theorem FL.bit (h : Fam w0 w (FL p N q M vk kp sg bits vl)) {y : Nat} (hy : y < bits.length) : w.cell? ⟨sg, y, none⟩ = some (.bool (gB bits y)) := (h.row 3 rfl).cell y (bits_cell hy)
theorem icell {w : World} {a : Option Addr} {n c : Nat} {m : List Int} (h : Ints w 0 (.slice a n c) m) {j : Nat} (hj : j < m.length) : ∃ g, a = some ⟨g, 0, none⟩ ∧ w.cell? ⟨g, j, none⟩ = some (.int .i64 (gI m j)) := by
  rcases h.form with ⟨_, e⟩ | ⟨g, cap, e, _, _, _, hc⟩
  · rw [e] at hj; simp at hj
  · cases e; exact ⟨g, rfl, hc j hj⟩
theorem FL.hcell {a : Option Addr} {n c j : Nat} (h : Fam w0 w (FL p N q M vk kp sg bits (.slice a n c))) (hj : j < M.handles.length) : ∃ g, a = some ⟨g, 0, none⟩ ∧ w.cell? ⟨g, j, none⟩ = some (.int .i64 (gI M.handles j)) := icell (h.ints 4 rfl) hj
theorem FL.kcell {a : Option Addr} {n c j : Nat} (h : Fam w0 w (FL p N q M (.slice a n c) kp sg bits vl)) (hj : j < kp.length) : ∃ g, a = some ⟨g, 0, none⟩ ∧ w.cell? ⟨g, j, none⟩ = some (.int .i64 (gI kp j)) := icell (h.ints 2 rfl) hj
end
end Go.Proofs.YtcdeikbehpepjaaGreat
