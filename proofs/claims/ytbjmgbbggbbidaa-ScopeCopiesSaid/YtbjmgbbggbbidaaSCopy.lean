/- Contracts of package scope: Copy. -/
import Derived.Test.YtbjmgbbggbbidaaSSameB
import Derived.OwnWalk
namespace Go.Proofs.Ytbjmgbbggbbidaa
open Go.RowKit Go.Maps
set_option maxHeartbeats 3200000
set_option maxRecDepth 100000
set_option linter.unusedVariables false

/-- All cells of a row of scopes. -/
def spRow (l : List Sp) : List Value := (List.range (l.length * 5)).map fun x => .int .i64 ((l[x / 5]?.getD ⟨0, 0, 0, 0, 0⟩).fld (x % 5))
theorem spRow_len (l : List Sp) : (spRow l).length = l.length * 5 := by simp [spRow]
theorem spRow_at {l : List Sp} {j r : Nat} {s : Sp} (hs : l[j]? = some s) (hr : r < 5) : (spRow l)[j * 5 + r]? = some (.int .i64 (s.fld r)) := by
  have hj : j < l.length := (List.getElem?_eq_some_iff.1 hs).1
  have hlt : j * 5 + r < l.length * 5 := by omega
  unfold spRow
  rw [List.getElem?_map, List.getElem?_range hlt]
  simp only [Option.map_some]
  rw [show (j * 5 + r) / 5 = j by omega, show (j * 5 + r) % 5 = r by omega, hs]
  rfl
theorem clone_scopes (w : World) (v : Value) (l : List Sp) (h : SpRead w v l) (hl : l.length ≤ 100) :
    Calls Try.prog 71 #[v] w fun e w' => ∃ v', e = .returned v' ∧ ((l = [] ∧ v' = .slice none 0 0) ∨ ∃ g cap T cs, v' = .slice (some ⟨g, 0, none⟩) l.length cap ∧ Row w' g T cs ∧ w.heap.size ≤ g ∧ ∀ j s, l[j]? = some s → ∀ r, r < 5 → cs[j * 5 + r]? = some (.int .i64 (s.fld r))) ∧ Only [] w w' := by
  refine calls_abs fun R hR => ?_
  rcases h with ⟨rfl, rfl⟩ | ⟨b, c, rfl, hc⟩
  · have hn := fun (wx : World) => Lib.run_eql_slice_nil (P := Try.prog) wx 54 72 none 0 0 0 0 Try.underlying54
    go_enter Try.func71, Try.ntmps71
    go_wp2_with fail
    exact hR.out _ _ ⟨_, rfl, .inl (by simp), Only.refl _ _⟩
  · obtain ⟨n, hn⟩ : ∃ n, n = l.length := ⟨_, rfl⟩
    rw [← hn] at hl
    rw [← hn]
    have hq := fun (wx : World) => Lib.run_eql_slice_nil (P := Try.prog) wx 54 72 (some ⟨b, 0, none⟩) n c 0 0 Try.underlying54
    have HN := Lib.hid hn
    have HC := Lib.hid hc
    clear hn hc
    obtain ⟨i0, hi, hz0, hz1, hz2⟩ := info_parts infoSp
    have HZ0 := Lib.hid hz0
    have HZ1 := Lib.hid hz1
    have HZ2 := Lib.hid hz2
    have HI := Lib.hid hi
    clear hz0 hz1 hz2 hi
    go_enter Try.func71, Try.ntmps71
    go_wp2_with (at_builtin; refine wpList_append_own2 rfl _ _ 54 rfl w.heap.size 72 i0 _ 5 40 Try.underlying54 HI.out HZ0.out HZ1.out HZ2.out rfl (by decide) _ 0 [] rfl (World.ownsRow_made w #[] 0 (Nat.le_refl _) (by simp [maxLen]) rfl) ⟨b, 0, none⟩ n c (spRow l) rfl ?_ ?_ ?_ ?_ ?_ ?_ ?_)
    · rw [spRow_len, HN.out]
    · intro j u hu
      obtain ⟨hj, rfl⟩ := range_at hu
      rw [addr_add, Nat.zero_add]
      have hj5 : j / 5 < l.length := by omega
      have h2 := HC.out (j / 5) _ (List.getElem?_eq_getElem hj5) (j % 5) (by omega)
      rw [show j / 5 * 5 + j % 5 = j by omega] at h2
      rw [List.getElem?_eq_getElem hj5]
      exact ((Only.refl [] w).alloc _).cell h2 (by simp)
    · intro u hu
      simp only [spRow, List.mem_map] at hu
      obtain ⟨x, _, rfl⟩ := hu
      rfl
    · simp [maxLen]; omega
    · omega
    · simp
    · intro v w1 hv ho hn1 hblk
      have HO := Lib.hid ho
      have HV := Lib.hid hv
      have HN1 := Lib.hid hn1
      clear ho hv hn1 hblk
      go_wp2_with fail
      have hv := HV.out
      rcases hv.2 with ⟨hz, hz2⟩ | ⟨g, cap, cur, hve, hg, hh, hcc, hm, hs, ht⟩
      · exact (HN1.out hz).elim
      · refine hR.out _ _ ⟨_, rfl, .inr ⟨g, cap, 72, cur.toList, by rw [hve, HN.out]; rfl, by unfold Row; rw [hh], hg, fun j s hs2 r hr => ?_⟩, ?_⟩
        · have h3 := spRow_at hs2 hr
          have h4 : (cur.toList.take ((0 + n) * 5))[j * 5 + r]? = some (.int .i64 (s.fld r)) := by rw [Nat.zero_add, ht]; simpa using h3
          rw [List.getElem?_take] at h4
          split at h4
          · exact h4
          · cases h4
        · exact ((Only.refl [] w).alloc _).grown HO.out (fun k hk => by
            right
            simp [Value.ownBlock] at hk
            omega)
theorem clone_own (w : World) (v : Value) (l : List Int) (h : Ints w 0 v l) (hl : l.length ≤ 1000000) :
    Calls Try.prog 50 #[v] w fun e w' => ∃ v', e = .returned v' ∧ Ints w' w.heap.size v' l ∧ Only [] w w' := by
  rcases h.form with ⟨rfl, rfl⟩ | ⟨g, cap, rfl, _, hg, _, hc⟩
  · refine (clone_nil w).mono ?_
    rintro e _ ⟨rfl, rfl⟩
    exact ⟨_, rfl, Ints.nil _ _, Only.refl _ _⟩
  · refine (clone_ints w g l.length cap l rfl (by omega) hc).mono ?_
    rintro e w1 ⟨v', rfl, hv, ho, _⟩
    exact ⟨v', rfl, hv, ho⟩

theorem copy_nope (w : World) (v : Value) (h : Nope w v) : Calls Try.prog 42 #[v] w (Exact w (.pointer none)) := by
  refine calls_abs fun R hR => ?_
  have h1 := none_any w v h
  clear h
  go_enter Try.func42, Try.ntmps42
  go_wp2_with fail
  refine h1.mono ?_
  rintro e _ ⟨rfl, rfl⟩
  go_wp2_with fail
  exact hR.out _ _ ⟨rfl, rfl⟩
section
variable {L : Nat → Option Lb} {p : Nat} {P : Pm} {X : PX}
/-- A thing is put into the map. -/
theorem PRep.putOb {w w' : World} (h : PRep w L p P X) {k : Int} {b : Nat} {v : Value} {t : Th} (hg : OnlyP (fun j => L j = some .map) w w') (hmp : MapAt w' X.mb P.made (fun j => if j = k then some b else (P.ob j).map fun _ => X.blk j))
    (hb : w.heap.size ≤ b) (hb2 : b < w'.heap.size) (hr : ∃ T, Row w' b T [.int .i64 t.area, .int .i64 t.blocks, v]) (hi : Ints w' w.heap.size v t.refs) (hv : ∀ g, v.ownBlock = some g → g ≠ b) :
    ∃ L' X', PRep w' L' p { P with ob := setOb P.ob k t } X' ∧ (∀ j, L' j ≠ none → L j ≠ none ∨ w.heap.size ≤ j) ∧ X'.mb = X.mb ∧ (fun j => ((setOb P.ob k t) j).map fun _ => X'.blk j) = (fun j => if j = k then some b else (P.ob j).map fun _ => X.blk j) := by
  obtain ⟨L', hL'⟩ : ∃ L' : Nat → Option Lb, L' = fun j => if j = b then some (.th k) else if v.ownBlock = some j then some (.rf k) else L j := ⟨_, rfl⟩
  have hlab : ∀ j, L j ≠ none → L' j = L j := fun j hj => by
    rw [hL']
    have := h.lt j hj
    simp only
    rw [if_neg (by omega), if_neg (fun e => by have := (hi.own j e).1; omega)]
  have hne2 : ∀ j ℓ, ℓ ≠ Lb.map → L j = some .map → L j ≠ some ℓ := fun j ℓ h1 hj e => by rw [hj] at e; cases e; exact h1 rfl
  have hfun : (fun j => ((setOb P.ob k t) j).map fun _ => (if j = k then b else X.blk j)) = (fun j => if j = k then some b else (P.ob j).map fun _ => X.blk j) := by
    funext j
    unfold setOb
    by_cases e : j = k
    · simp [e]
    · simp [e]
  refine ⟨L', { X with blk := fun j => if j = k then b else X.blk j, rv := fun j => if j = k then v else X.rv j }, ⟨fun j hj => ?_, ?_, lab_of hlab h.Lm, (h.sc.only hg (fun j hj => hne2 j .scp (by simp) hj)).lab hlab,
    fun s hs => ⟨(h.st s hs).1.onlyP hg (fun g hgv x => hne2 g (.stk s) (by simp) x ((h.st s hs).2 g hgv)), fun g hgv => lab_of hlab ((h.st s hs).2 g hgv)⟩, ?_, lab_of hlab h.Lp, fun j u hj => ?_⟩, fun j hj => ?_, rfl, hfun⟩
  · rw [hL'] at hj
    by_cases e : j = b
    · rw [e]; exact hb2
    · simp only [e, if_false] at hj
      by_cases e2 : v.ownBlock = some j
      · exact (hi.own j e2).2
      · simp only [e2, if_false] at hj
        exact Nat.lt_of_lt_of_le (h.lt j hj) hg.size
  · obtain ⟨T, hrow⟩ := h.mem
    exact ⟨T, hg.row hrow (fun x => hne2 p .mem (by simp) x h.Lm)⟩
  · show MapAt w' X.mb P.made _
    rw [hfun]; exact hmp
  · have hj' : (if j = k then some t else P.ob j) = some u := hj
    show ThAt w' L' j (if j = k then b else X.blk j) (if j = k then v else X.rv j) u
    by_cases e : j = k
    · rw [if_pos e] at hj'
      cases hj'
      rw [if_pos e, if_pos e]
      refine ⟨hr, by rw [hL', e]; simp, hi.base (Nat.zero_le _), fun g hgv => ?_⟩
      rw [hL', e]
      simp only
      rw [if_neg (hv g hgv), if_pos hgv]
    · rw [if_neg e] at hj'
      rw [if_neg e, if_neg e]
      exact ((h.th j u hj').only hg (fun x hx => ⟨hne2 x _ (by simp) hx, hne2 x _ (by simp) hx⟩)).lab hlab
  · rw [hL'] at hj
    by_cases e : j = b
    · rw [e]; exact .inr hb
    · simp only [e, if_false] at hj
      by_cases e2 : v.ownBlock = some j
      · exact .inr (hi.own j e2).1
      · simp only [e2, if_false] at hj
        exact .inl hj
/-- The first k stacks. -/
def firstStk (P : Pm) (k : Nat) : Nat → List Int := fun t => if t < k then P.stk t else []
/-- A copy begins: the scopes, no stack, no object. -/
theorem copyStart {w w1 : World} {q mb T : Nat} {v' : Value} {made : Nat} {l : List Sp} (ho : Only [] w w1) (hv : (l = [] ∧ v' = .slice none 0 0) ∨ ∃ g cap T cs, v' = .slice (some ⟨g, 0, none⟩) l.length cap ∧ Row w1 g T cs ∧ w.heap.size ≤ g ∧ ∀ j s, l[j]? = some s → ∀ r, r < 5 → cs[j * 5 + r]? = some (.int .i64 (s.fld r)))
    (hvq : ∀ g, v'.ownBlock = some g → g ≠ q ∧ g ≠ mb) (hr : Row w1 q T [v', .slice none 0 0, .slice none 0 0, .slice none 0 0, .slice none 0 0, .slice none 0 0, .map (some mb), .int .i64 made]) (hm : MapAt w1 mb 0 (fun _ => none)) (hq : w.heap.size ≤ q) (hmb : w.heap.size ≤ mb) (hne : q ≠ mb) :
    ∃ L' X', PRep w1 L' q ⟨l, fun _ => [], fun _ => none, made⟩ X' ∧ (∀ k, L' k ≠ none → w.heap.size ≤ k) ∧ X'.mb = mb := by
  obtain ⟨L', hL'⟩ : ∃ L' : Nat → Option Lb, L' = fun j => if j = q then some .mem else if j = mb then some .map else if v'.ownBlock = some j then some .scp else none := ⟨_, rfl⟩
  have hlt : ∀ g, v'.ownBlock = some g → w.heap.size ≤ g ∧ g < w1.heap.size := fun g hg => by
    rcases hv with ⟨_, rfl⟩ | ⟨g', cap, T, cs, rfl, h1, h2, _⟩
    · cases hg
    · cases hg; exact ⟨h2, h1.lt⟩
  refine ⟨L', ⟨v', fun _ => .slice none 0 0, mb, fun _ => 0, fun _ => .slice none 0 0⟩, ⟨fun j hj => ?_, ⟨T, hr⟩, by rw [hL']; simp, ?_, fun t ht => ⟨Ints.nil _ _, fun g hg => by cases hg⟩, (hm.mono (Nat.zero_le _)).congr (fun _ => rfl), by rw [hL']; simp [Ne.symm hne], fun k t hk => by cases hk⟩, fun j hj => ?_, rfl⟩
  · rw [hL'] at hj
    by_cases e : j = q
    · rw [e]; exact hr.lt
    · simp only [e, if_false] at hj
      by_cases e2 : j = mb
      · rw [e2]; exact hm.lt
      · simp only [e2, if_false] at hj
        by_cases e3 : v'.ownBlock = some j
        · exact (hlt j e3).2
        · simp [e3] at hj
  · rcases hv with h1 | ⟨g, cap, T, cs, h1, h2, h3, h4⟩
    · exact .inl h1
    · refine .inr ⟨g, cap, T, cs, h1, h2, ?_, h4⟩
      have hg : v'.ownBlock = some g := by rw [h1]; rfl
      rw [hL']
      simp only
      rw [if_neg (hvq g hg).1, if_neg (hvq g hg).2, if_pos hg]
  · rw [hL'] at hj
    by_cases e : j = q
    · rw [e]; exact hq
    · simp only [e, if_false] at hj
      by_cases e2 : j = mb
      · rw [e2]; exact hmb
      · simp only [e2, if_false] at hj
        by_cases e3 : v'.ownBlock = some j
        · exact (hlt j e3).1
        · simp [e3] at hj
end
end Go.Proofs.Ytbjmgbbggbbidaa
