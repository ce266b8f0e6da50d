/- Contracts of the program's log and of the reference's. -/
import Derived.Test.YtemdkffkpdhciaaRefQB
namespace Go.Proofs.Ytemdkffkpdhciaa
open Go.RowKit

set_option maxHeartbeats 400000 in
theorem clone_intsO (w : World) (b of n c : Nat) (l : List Int) (hl : l.length = n) (hn : n ≤ 17592186044416) (hc : ∀ i, i < n → w.cell? ⟨b, of + i, none⟩ = some (.int .i64 (gI l i))) :
    Calls Try.prog 53 #[.slice (some ⟨b, of, none⟩) n c] w fun e w' => ∃ v, e = .returned v ∧ Ints w' w.heap.size v l ∧ Only [] w w' ∧ v ≠ .slice none 0 0 := by
  have hq := fun (wx : World) => Lib.run_eql_slice_nil (P := Try.prog) wx 22 3 (some ⟨b, of, none⟩) n c 0 0 Try.underlying22
  have HL := Lib.hid hl
  have HC := Lib.hid hc
  clear hl hc
  refine calls_abs fun R hR => ?_
  go_enter Try.func53, Try.ntmps53
  go_wp2_with (at_builtin; refine append_ints rfl _ _ rfl w.heap.size _ _ rfl (Ints.made w) ⟨b, of, none⟩ n c l rfl ?_ ?_ ?_ ?_ ?_)
  · exact HL.out
  · intro j u hu
    have hj : j < n := by have := (List.getElem?_eq_some_iff.1 hu).1; have := HL.out; omega
    have h1 := HC.out j hj
    rw [show (⟨b, of, none⟩ : Addr).add j = ⟨b, of + j, none⟩ by unfold Addr.add; split <;> simp_all]
    rw [World.cell?_alloc_past _ _ _ (World.block_lt_of_cell? w _ h1), h1, gI, hu]
    rfl
  · simp; omega
  · simp
  · intro v w1 hv ho hn hblk
    have HN : Hid (v ≠ .slice none 0 0) := by intro e; simp [e] at hn
    clear hn
    go_wp2_with fail
    exact hR.out _ _ ⟨v, rfl, hv, ((Only.refl _ _).alloc _).trans ho (fun x hx => .inr (by simp [Value.ownBlock] at hx; omega)), HN.out⟩

/-- An object in block p with one slice of numbers of its own: its row as a function of the slice value; F: the blocks that it takes up. -/
structure ORep (w : World) (T p : Nat) (F : List Nat) (row : Value → List Value) (xs : List Int) : Prop where
  ex : ∃ v, Row w p T (row v) ∧ Ints w 0 v xs ∧ v.ownBlock ≠ some p ∧ F = p :: v.ownBlock.toList

theorem ORep.lt {w : World} {T p : Nat} {F : List Nat} {row : Value → List Value} {xs : List Int} (h : ORep w T p F row xs) : ∀ x ∈ F, x < w.heap.size := by
  obtain ⟨v, hp, hv, hne, rfl⟩ := h.ex
  intro x hx
  rcases List.mem_cons.1 hx with rfl | hx
  · exact hp.lt
  · exact (hv.own x (by simpa using hx)).2
theorem ORep.mem {w : World} {T p : Nat} {F : List Nat} {row : Value → List Value} {xs : List Int} (h : ORep w T p F row xs) : p ∈ F := by
  obtain ⟨v, hp, hv, hne, rfl⟩ := h.ex
  simp
theorem ORep.only {w w' : World} {T p : Nat} {F G : List Nat} {row : Value → List Value} {xs : List Int} (h : ORep w T p F row xs) (k : Only G w w') (hd : ∀ x ∈ F, x ∉ G) : ORep w' T p F row xs := by
  obtain ⟨v, hp, hv, hne, rfl⟩ := h.ex
  exact ⟨v, k.row hp (hd p (by simp)), hv.only k (fun x hx => hd x (by rw [hx]; simp)), hne, rfl⟩
theorem ORep.drewN {w : World} {T p : Nat} {F : List Nat} {row : Value → List Value} {xs : List Int} (h : ORep w T p F row xs) (n : Nat) : ORep (w.drewN n) T p F row xs := ⟨h.ex⟩
theorem ORep.set {w : World} {T p : Nat} {F : List Nat} {row row' : Value → List Value} {xs : List Int} (h : ORep w T p F row xs) (i : Nat) (x : Value) (ht : ∀ v, (row v).set i x = row' v) : ORep (w.setCell ⟨p, i, none⟩ x) T p F row' xs := by
  obtain ⟨v, hp, hv, hne, rfl⟩ := h.ex
  exact ⟨v, by rw [← ht]; exact hp.set i x, hv.only (F := [p]) ((Only.refl _ _).set (by simp) _) (fun k hk hm => hne (by simp at hm; rw [hk, hm])), hne, rfl⟩
/-- The slice is replaced by one that lies where it lay (block ob), or in a new block. -/
theorem ORep.put {w w1 : World} {T p : Nat} (i : Nat) {cs : List Value} (row : Value → List Value) {v' : Value} {ys : List Int} (ob : Option Nat) (o : Only (p :: ob.toList) w w1) (hp : Row w1 p T cs) (hv1 : Ints w1 0 v' ys)
    (hb : v'.ownBlock = ob ∨ ∀ k, v'.ownBlock = some k → w.heap.size ≤ k) (hne : ob ≠ some p) (hlt : p < w.heap.size) (hset : cs.set i v' = row v') :
    ORep (w1.setCell ⟨p, i, none⟩ v') T p (p :: v'.ownBlock.toList) row ys ∧ Only (p :: ob.toList) w (w1.setCell ⟨p, i, none⟩ v') ∧ Within w (p :: ob.toList) (p :: v'.ownBlock.toList) := by
  have hne' : v'.ownBlock ≠ some p := by
    rcases hb with hb | hb
    · rw [hb]; exact hne
    · intro e; have := hb p e; omega
  refine ⟨⟨v', by rw [← hset]; exact hp.set i v', hv1.only (F := [p]) ((Only.refl _ _).set (by simp) _) (fun k hk hm => hne' (by simp at hm; rw [hk, hm])), hne', rfl⟩, o.set (by simp) _, fun x hx => ?_⟩
  rcases List.mem_cons.1 hx with rfl | hx
  · exact .inl (by simp)
  · rcases hb with hb | hb
    · rw [hb] at hx; exact .inl (List.mem_cons_of_mem _ hx)
    · exact .inr (hb x (by simpa using hx))

/-- What a log of the program holds. -/
structure LSt where
  kept : List Int
  room : Nat
  lost : Nat
def LSt.row (s : LSt) (v : Value) : List Value := [v, .int .i64 s.room, .int .i64 s.lost]
structure LSt.ok (s : LSt) : Prop where
  r1 : 1 ≤ s.room
  r16 : s.room ≤ 16
  kl : s.kept.length ≤ s.room
  lo : s.lost ≤ 1099511627776
def LSt.add (s : LSt) (n : Int) : Int × LSt :=
  if isWordB n then (0, if s.kept.length = s.room then { s with kept := s.kept.tail ++ [n], lost := s.lost + 1 } else { s with kept := s.kept ++ [n] }) else (1, s)
/-- What a log of the reference holds. -/
structure RLog where
  size : Nat
  gone : Nat
  drained : Nat
  words : List Int
def RLog.row (s : RLog) (v : Value) : List Value := [.int .i64 s.size, .int .i64 s.gone, .int .i64 s.drained, v]
structure RLog.ok (s : RLog) : Prop where
  s1 : 1 ≤ s.size
  s16 : s.size ≤ 16
  dg : s.drained ≤ s.gone
  gl : s.gone ≤ s.words.length
  wl : s.words.length ≤ 1099511627776
def RLog.add (s : RLog) (n : Int) : Int × RLog :=
  if isWordB n then (0, if s.words.length + 1 - s.gone > s.size then { s with words := s.words ++ [n], gone := s.gone + 1 } else { s with words := s.words ++ [n] }) else (1, s)

set_option maxHeartbeats 400000
set_option maxRecDepth 100000
set_option linter.unusedVariables false

theorem logNone_rep (w : World) (l : Nat) (F : List Nat) (s : LSt) (h : ORep w 81 l F s.row s.kept) (hk : s.ok) :
    Calls Try.prog 58 #[.pointer (some ⟨l, 0, none⟩)] w (Exact w (.bool false)) := by
  refine calls_abs fun R hR => ?_
  obtain ⟨v, hp, hv, hne, rfl⟩ := h.ex
  have h1 := hp.cell 1 rfl
  have hr := hk.r1
  have hr16 := hk.r16
  have hz : ((s.room : Int) == 0) = false := by rw [beq_eq_false_iff_ne]; omega
  go_enter Try.func58, Try.ntmps58
  go_wp2_with fail
  exact hR.out _ _ ⟨rfl, rfl⟩

theorem logLost_rep (w : World) (l : Nat) (F : List Nat) (s : LSt) (h : ORep w 81 l F s.row s.kept) (hk : s.ok) :
    Calls Try.prog 37 #[.pointer (some ⟨l, 0, none⟩)] w (Exact w (.int .i64 s.lost)) := by
  refine calls_abs fun R hR => ?_
  obtain ⟨v, hp, hv, hne, rfl⟩ := h.ex
  have h2 := hp.cell 2 rfl
  go_enter Try.func37, Try.ntmps37
  go_wp2_with fail
  refine (logNone_rep _ _ _ _ h hk).mono ?_
  rintro e _ ⟨rfl, rfl⟩
  go_wp2_with fail
  exact hR.out _ _ ⟨rfl, rfl⟩

theorem logLast_rep (w : World) (l : Nat) (F : List Nat) (s : LSt) (h : ORep w 81 l F s.row s.kept) (hk : s.ok) :
    Calls Try.prog 35 #[.pointer (some ⟨l, 0, none⟩)] w fun e w' => ∃ v, e = .returned v ∧ Ints w' w.heap.size v s.kept ∧ Only [] w w' := by
  refine calls_abs fun R hR => ?_
  obtain ⟨v, hp, hv, hne, rfl⟩ := h.ex
  have h0 := hp.cell 0 rfl
  have hkl := hk.kl
  have hr16 := hk.r16
  rcases hv.form with ⟨rfl, e⟩ | ⟨g, cap, rfl, hg0, hg1, hg2, hg3⟩
  · have HE := Lib.hid e
    clear e
    go_enter Try.func35, Try.ntmps35
    go_wp2_with fail
    refine (logNone_rep _ _ _ _ h hk).mono ?_
    rintro e _ ⟨rfl, rfl⟩
    go_wp2_with fail
    refine (clone_nil _).mono ?_
    rintro e _ ⟨rfl, rfl⟩
    go_wp2_with fail
    refine hR.out _ _ ⟨_, rfl, ?_, Only.refl _ _⟩
    rw [HE.out]
    exact Ints.nil _ _
  · have HG := Lib.hid hg3
    clear hg3
    go_enter Try.func35, Try.ntmps35
    go_wp2_with fail
    refine (logNone_rep _ _ _ _ h hk).mono ?_
    rintro e _ ⟨rfl, rfl⟩
    go_wp2_with fail
    refine (clone_intsO w g 0 s.kept.length cap s.kept rfl (by omega) (fun i hi => by rw [Nat.zero_add]; exact HG.out i hi)).mono ?_
    rintro e w1 ⟨v1, rfl, i1, o1, _⟩
    go_wp2_with fail
    exact hR.out _ _ ⟨_, rfl, i1, o1⟩

theorem logDrain_rep (w : World) (l : Nat) (F : List Nat) (s : LSt) (h : ORep w 81 l F s.row s.kept) (hk : s.ok) :
    Calls Try.prog 33 #[.pointer (some ⟨l, 0, none⟩)] w fun e w' => ∃ v F', e = .returned v ∧ Ints w' w.heap.size v s.kept ∧ ORep w' 81 l F' (LSt.row { s with kept := [] }) [] ∧ Only F w w' ∧ Within w F F' := by
  refine calls_abs fun R hR => ?_
  go_enter Try.func33, Try.ntmps33
  go_wp2_with fail
  refine (logLast_rep _ _ _ _ h hk).mono ?_
  rintro e w1 ⟨v1, rfl, i1, o1⟩
  have h1 := h.only o1 (by simp)
  go_wp2_with fail
  refine (logNone_rep _ _ _ _ h1 hk).mono ?_
  rintro e _ ⟨rfl, rfl⟩
  have hlt := h.lt
  obtain ⟨v, hp, hv, hne, rfl⟩ := h1.ex
  have h0 := hp.cell 0 rfl
  have hf := hp.free 0
  go_wp2_with fail
  have hlt := hlt l (by simp)
  have hpl : l ∉ v1.ownBlock.toList := fun hm => by have := (i1.own l (by simpa using hm)).1; omega
  obtain ⟨g1, g2, g3⟩ := ORep.put 0 (LSt.row { s with kept := [] }) v.ownBlock (o1.mono (by simp)) hp (Ints.nil _ _) (.inr (by simp [Value.ownBlock])) hne hlt rfl
  refine hR.out _ _ ⟨v1, _, rfl, ?_, g1, g2, g3⟩
  exact i1.only (F := [l]) ((Only.refl _ _).set (by simp) _) (fun k hk hm => hpl (by simp at hm; rw [← hm, hk]; simp))
end Go.Proofs.Ytemdkffkpdhciaa
