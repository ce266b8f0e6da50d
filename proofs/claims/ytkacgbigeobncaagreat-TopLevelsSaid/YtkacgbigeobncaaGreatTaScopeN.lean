/- Lemmas of this claim. -/
import Derived.Test.YtkacgbigeobncaaGreatTaScopeK
import Derived.Test.YtkacgbigeobncaaGreatTaSNear
import Derived.OwnWalk
namespace Go.Proofs.YtkacgbigeobncaaGreat
open Go.RowKit Go.Maps
set_option maxHeartbeats 3200000
set_option maxRecDepth 100000
set_option linter.unusedVariables false
theorem any_step {l : List Int} {p : Int → Bool} {k : Nat} (hk : k < l.length) (h : (l.take k).any p = false) (hp : p (gI l k) = false) : (l.take (k + 1)).any p = false := by
  rw [List.take_succ_eq_append_getElem hk, List.any_append, h]
  simp [gI, hk] at hp
  simp [hp]
theorem any_found {l : List Int} {p : Int → Bool} {k : Nat} (hk : k < l.length) (hp : p (gI l k) = true) : l.any p = true := by
  rw [List.any_eq_true]
  refine ⟨l[k], List.getElem_mem _, ?_⟩
  simpa [gI, hk] using hp
def badS (n : Int) : Bool := decide (n < 1) || decide (24 < n)
theorem new1_any (n : Int) (w : World) : Calls Tryz.prog 12 #[.int .i64 n] w (Exact w (.bool (badS n))) := by
  refine calls_abs fun R hR => ?_
  have H : Hid (badS n = (decide (n < 1) || decide (24 < n))) := rfl
  go_enter Tryz.func12, Tryz.ntmps12
  go_wp2_with fail
  all_goals (refine hR.out _ _ ⟨?_, rfl⟩; have := H.out; clear H hR; rw [this]; simp_all)
theorem indexFuncN_any (w : World) (v : Value) (l : List Int) (hr : Read w v l) (hl : l.length < 1099511627776) :
    Calls Tryz.prog 27 #[v, .func (.func 12) #[] #[]] w fun e w' => ∃ r : Int, e = .returned (.int .i64 r) ∧ decide (0 ≤ r) = l.any badS ∧ w = w' := by
  refine calls_abs fun R hR => ?_
  obtain ⟨a, c, e⟩ := hr.len
  subst e
  have HR := Lib.hid hr
  clear hr
  go_enter Tryz.func27, Tryz.ntmps27
  go_wp2_with fail
  go_loopw [8] (fun i wr => ∃ k : Nat, k ≤ l.length ∧ i = .int .i64 k ∧ wr = w ∧ Hid ((l.take k).any badS = false)) (fun i _ => l.length - (intOf i).toNat)
  case atStart => exact ⟨0, by omega, rfl, rfl, rfl⟩
  case round =>
    obtain ⟨k, hk, rfl, rfl, hf⟩ := hrel
    by_cases hlt : k < l.length
    · rcases HR.out with ⟨b, o, d, f1, g1⟩ | ⟨oa, d, f1, g1⟩
      rotate_left
      · rw [g1] at hlt; simp at hlt
      simp only [Value.slice.injEq] at f1
      obtain ⟨rfl, _, rfl⟩ := f1
      have k1 := g1 k hlt
      clear g1
      cases hp : badS (gI l k)
      · go_wp2_with fail
        refine (new1_any _ _).mono ?_
        rintro e _ ⟨rfl, rfl⟩
        go_wp2_with fail
        exact ⟨⟨k + 1, by omega, by go_num, by trivial, any_step hlt hf.out hp⟩, by simp [intOf]; omega⟩
      · go_wp2_with fail
        refine (new1_any _ _).mono ?_
        rintro e _ ⟨rfl, rfl⟩
        go_wp2_with fail
        exact hR.out _ _ ⟨k, rfl, by rw [any_found hlt hp]; simp, rfl⟩
    · go_wp2_with fail
      refine hR.out _ _ ⟨-1, rfl, ?_, rfl⟩
      have := hf.out
      rw [List.take_of_length_le (by omega)] at this
      rw [this]
      rfl
theorem containsFuncN_any (w : World) (v : Value) (l : List Int) (hr : Read w v l) (hl : l.length < 1099511627776) :
    Calls Tryz.prog 11 #[v, .func (.func 12) #[] #[]] w (Exact w (.bool (l.any badS))) := by
  refine calls_abs fun R hR => ?_
  go_enter Tryz.func11, Tryz.ntmps11
  go_wp2_with fail
  refine (indexFuncN_any _ _ l hr hl).mono ?_
  rintro e _ ⟨r, rfl, h1, rfl⟩
  have H1 := Lib.hid h1
  clear h1
  go_wp2_with fail
  refine hR.out _ _ ⟨?_, rfl⟩
  rw [← H1.out]
  rfl
theorem goodSizes_eq (l : List Int) : goodSizes l = (decide (l.length ≤ 6) && !(l.any badS)) := by
  unfold goodSizes
  congr 1
  rw [List.not_any_eq_all_not]
  congr 1
  funext s
  unfold badS
  by_cases h1 : s < 1 <;> by_cases h2 : 24 < s <;> simp [h1, h2] <;> omega
def newSps (l : List Int) : List Sp := l.map fun s => ⟨s, s, 0, 0, 0⟩
theorem toP_new (l : List Int) : (Sc.new l).toP = ⟨newSps l, fun _ => [0], fun _ => none, 0⟩ := by
  have hpar : ∀ a, (Sc.new l).par a = none := fun a => by
    cases e : (Sc.new l).par a with
    | none => rfl
    | some p =>
      obtain ⟨t, _, i, h1, _⟩ := Sc.par_at e
      have h2 := Sc.par_two e
      have := List.mem_of_getElem? h1
      simp [Sc.new] at this
      omega
  have hus : ∀ a, (Sc.new l).usersN a = 0 := fun a => by
    have := Sc.par_none.1 (hpar a)
    unfold Sc.used at this
    simp at this
    omega
  refine Pm.ext' ?_ rfl ?_ rfl
  · show (List.range (Sc.new l).n).map (Sc.new l).spOf = newSps l
    apply List.ext_getElem
    · simp [newSps, Sc.n, Sc.new]
    · intro i h1 h2
      simp only [List.getElem_map, List.getElem_range, newSps]
      unfold Sc.spOf
      rw [hpar, hus]
      have hi : i < l.length := by simpa [newSps] using h2
      have e1 : gI (Sc.new l).sizes i = l[i] := by show gI l i = _; unfold gI; rw [List.getElem?_eq_getElem hi]; rfl
      have e2 : (Sc.new l).roomN ((i + 2 : Nat) : Int) = l[i] := by
        unfold Sc.roomN
        rw [if_neg (by omega), show (((i + 2 : Nat) : Int)).toNat - 2 = i by omega, e1]
        simp [Sc.new, sumB]
      rw [e1, e2]
      rfl
  · funext x
    show (Sc.new l).thOf x = none
    have h0 : innL ([] : List Ob) x = false := by unfold innL obI; simp
    show (if innL ([] : List Ob) x = true then _ else none) = none
    rw [h0]; rfl
def spCells (l : List Int) : List Value := l.flatMap fun s => [.int .i64 s, .int .i64 s, .int .i64 0, .int .i64 0, .int .i64 0]
theorem spCells_snoc (l : List Int) (s : Int) : spCells (l ++ [s]) = spCells l ++ [.int .i64 s, .int .i64 s, .int .i64 0, .int .i64 0, .int .i64 0] := by simp [spCells]
theorem spCells_at (l : List Int) (j : Nat) (s : Sp) (h : (newSps l)[j]? = some s) (r : Nat) (hr : r < 5) : (spCells l)[j * 5 + r]? = some (.int .i64 (s.fld r)) := by
  induction l generalizing j with
  | nil => simp [newSps] at h
  | cons x t ih =>
    cases j with
    | zero =>
      simp [newSps] at h
      subst h
      match r, hr with
      | 0, _ => rfl
      | 1, _ => rfl
      | 2, _ => rfl
      | 3, _ => rfl
      | 4, _ => rfl
    | succ j =>
      have := ih j (by simpa [newSps] using h)
      unfold spCells at *
      rw [List.flatMap_cons, List.getElem?_append_right (by simp; omega)]
      simp only [List.length_cons, List.length_nil]
      rw [show (j + 1) * 5 + r - (0 + 1 + 1 + 1 + 1 + 1) = j * 5 + r by omega]
      exact this
theorem infoSp : (Tryz.prog.info? 47).map (fun i => (i.zero, i.size, i.bytes)) = some (some (.agg #[.int .i64 0, .int .i64 0, .int .i64 0, .int .i64 0, .int .i64 0]), 5, 40) := by kernel_rfl
theorem ScAt.ofOwn {w : World} {L : Nat → Option Lb} {base T n : Nat} {v : Value} {l : List Int} (h : w.ownsRow base T 5 v n (spCells l)) (hl : l.length = n) (hL : ∀ g, v.ownBlock = some g → L g = some .scp) : ScAt w L v (newSps l) := by
  rcases h.2 with ⟨h1, h2⟩ | ⟨g, cap, cur, hv, hg, hh, hc, hm, hs, ht⟩
  · left
    have : l = [] := List.eq_nil_of_length_eq_zero (by omega)
    exact ⟨by rw [this]; rfl, h1⟩
  · right
    refine ⟨g, cap, T, cur.toList, by rw [hv]; simp [newSps, hl], by unfold Row; rw [hh], hL g (by rw [hv]; rfl), fun j s hj r hr => ?_⟩
    have h1 := spCells_at l j s hj r hr
    rw [← ht, List.getElem?_take] at h1
    split at h1
    · exact h1
    · cases h1
def nilSv (g k : Nat) (t : Nat) : Value := if t < k then .slice (some ⟨g + t, 0, none⟩) 1 1 else .slice none 0 0
theorem new_good (w : World) (v : Value) (l : List Int) (hr : Read w v l) (hb : goodSizes l = true) :
    Calls Tryz.prog 4 #[v] w fun e w' => ∃ p L X, e = .returned (.tuple #[.pointer (some ⟨p, 0, none⟩), .int .i64 0]) ∧ PRep w' L p (Sc.new l).toP X ∧ (∀ k, L k ≠ none → w.heap.size ≤ k) ∧ Only [] w w' := by
  refine calls_abs fun R hR => ?_
  obtain ⟨a, c, e⟩ := hr.len
  subst e
  rw [goodSizes_eq] at hb
  simp only [Bool.and_eq_true, decide_eq_true_eq, Bool.not_eq_true'] at hb
  obtain ⟨h6, hb2⟩ := hb
  have hc := containsFuncN_any w _ l hr (by omega)
  rw [hb2] at hc
  have HRD := Lib.hid hr
  obtain ⟨i0, hi0, hz0, hz1, hz2⟩ := info_parts infoSp
  have I0 := Lib.hid hi0
  have I1 := Lib.hid hz0
  have I2 := Lib.hid hz1
  have I3 := Lib.hid hz2
  have hmm := @run_makeMap Tryz.prog
  obtain ⟨n, hn⟩ : ∃ n, n = l.length := ⟨_, rfl⟩
  have HN := Lib.hid hn
  rw [← hn] at hc h6 ⊢
  clear hb2 hi0 hz0 hz1 hz2 hn hr
  go_enter Tryz.func4, Tryz.ntmps4
  go_wp2_with fail
  refine hc.mono ?_
  rintro e _ ⟨rfl, rfl⟩
  clear hc
  go_wp2_with fail
  have hrow0 : Row ((w.alloc (.map #[] 0)).alloc (.cells #[.slice none 0 0, .slice none 0 0, .slice none 0 0, .slice none 0 0, .slice none 0 0, .slice none 0 0, .map (some w.heap.size), .int .i64 0] 45)) (w.heap.size + 1) 45 [.slice none 0 0, .slice none 0 0, .slice none 0 0, .slice none 0 0, .slice none 0 0, .slice none 0 0, .map (some w.heap.size), .int .i64 0] := by
    have := Row.new (w.alloc (.map #[] 0)) 45 [.slice none 0 0, .slice none 0 0, .slice none 0 0, .slice none 0 0, .slice none 0 0, .slice none 0 0, .map (some w.heap.size), .int .i64 0]
    rwa [World.size_alloc] at this
  have hmap0 : MapAt ((w.alloc (.map #[] 0)).alloc (.cells #[.slice none 0 0, .slice none 0 0, .slice none 0 0, .slice none 0 0, .slice none 0 0, .slice none 0 0, .map (some w.heap.size), .int .i64 0] 45)) w.heap.size 0 (fun _ => none) := (MapAt.made w).only ((OnlyP.refl (fun _ => False) _).alloc _) (fun x => x)
  have ho0 : Only [] w ((w.alloc (.map #[] 0)).alloc (.cells #[.slice none 0 0, .slice none 0 0, .slice none 0 0, .slice none 0 0, .slice none 0 0, .slice none 0 0, .map (some w.heap.size), .int .i64 0] 45)) := ((Only.refl _ w).alloc _).alloc _
  have hsz0 : ((w.alloc (.map #[] 0)).alloc (.cells #[.slice none 0 0, .slice none 0 0, .slice none 0 0, .slice none 0 0, .slice none 0 0, .slice none 0 0, .map (some w.heap.size), .int .i64 0] 45)).heap.size = w.heap.size + 2 := by simp
  obtain ⟨q, hq⟩ : ∃ q, q = w.heap.size := ⟨_, rfl⟩
  rw [← hq] at hrow0 hmap0 hsz0 ho0 ⊢
  generalize ((w.alloc (.map #[] 0)).alloc (.cells #[.slice none 0 0, .slice none 0 0, .slice none 0 0, .slice none 0 0, .slice none 0 0, .slice none 0 0, .map (some q), .int .i64 0] 45)) = w0 at *
  have HQ := Lib.hid hq
  have HROW0 := Lib.hid hrow0
  have HMAP0 := Lib.hid hmap0
  have HO0 := Lib.hid ho0
  have HSZ0 := Lib.hid hsz0
  clear hmm hrow0 hmap0 ho0 hsz0 hq
  go_loopw [6, 20] (fun _ iv wr => ∃ (k : Nat) (scv : Value), k ≤ n ∧ iv = .int .i64 k ∧ Row wr (q + 1) 45 [scv, .slice none 0 0, .slice none 0 0, .slice none 0 0, .slice none 0 0, .slice none 0 0, .map (some q), .int .i64 0] ∧
      wr.ownsRow (q + 2) 47 5 scv k (spCells (l.take k)) ∧ MapAt wr q 0 (fun _ => none) ∧ Only [] w wr ∧ q + 2 ≤ wr.heap.size) (fun _ iv _ => n - (intOf iv).toNat)
  case atStart => exact ⟨0, _, by omega, rfl, HROW0.out, World.ownsRow_nil _ _ _ _, HMAP0.out, HO0.out, by rw [HSZ0.out]; exact Nat.le_refl _⟩
  case round =>
    clear HROW0 HMAP0 HO0 HSZ0
    obtain ⟨k, scv, hk, rfl, hrow, hown, hmp, ho, hsz⟩ := hrel
    have c0 := hrow.cell 0 rfl
    have f0 := hrow.free 0
    have HROW := Lib.hid hrow
    have HOWN := Lib.hid hown
    have HMP := Lib.hid hmp
    have HO := Lib.hid ho
    clear hrow hown hmp ho
    by_cases hlt : k < n
    · have hlt' : k < l.length := by have := HN.out; omega
      rcases HRD.out with ⟨b, o, d, f1, g1⟩ | ⟨oa, d, f1, g1⟩
      rotate_left
      · rw [g1] at hlt'; simp at hlt'
      have e1 : a = some ⟨b, o, none⟩ := by cases f1; rfl
      subst e1
      have hck := HO.out.cell (g1 k hlt') (by simp)
      obtain ⟨x, hx⟩ : ∃ x, x = gI l k := ⟨_, rfl⟩
      rw [← hx] at hck
      have HX := Lib.hid hx
      clear g1 hx f1
      go_wp2_with (at_builtin; refine wpList_append_own2 rfl _ _ 42 rfl (q + 2) 47 i0 _ 5 40 Tryz.underlying42 I0.out I1.out I2.out I3.out rfl (by omega) scv k _ rfl (HOWN.out.alloc _) ⟨wr.heap.size, 0, none⟩ 1 1 [.int .i64 x, .int .i64 x, .int .i64 0, .int .i64 0, .int .i64 0] rfl rfl ?_ ?_ ?_ ?_ ?_ ?_)
      · exact World.news_of_block (cs := #[.int .i64 x, .int .i64 x, .int .i64 0, .int .i64 0, .int .i64 0]) (t := 47) (fr := (0, 0)) (heap_alloc_new wr _)
      · simp [Value.oneCell']
      · simp only [maxLen]; omega
      · omega
      · simp; omega
      · intro v' w1 hown1 hgrow1 hnil hblk
        have ho1 : Only scv.ownBlock.toList wr w1 := ((Only.refl _ wr).alloc _).grown hgrow1 (fun j hj => .inl (by rw [hj]; simp))
        have hscv : ∀ j, scv.ownBlock = some j → q + 2 ≤ j ∧ j < wr.heap.size := fun j hj => World.ownsRow.lt HOWN.out j hj
        have hn1 : q + 1 ∉ scv.ownBlock.toList := by
          intro hx
          cases e : scv.ownBlock with
          | none => rw [e] at hx; simp at hx
          | some b => rw [e] at hx; simp at hx; subst hx; have := (hscv _ e).1; omega
        have hn0 : q ∉ scv.ownBlock.toList := by
          intro hx
          cases e : scv.ownBlock with
          | none => rw [e] at hx; simp at hx
          | some b => rw [e] at hx; simp at hx; subst hx; have := (hscv _ e).1; omega
        have hrow1 := ho1.row HROW.out hn1
        have c01 := hrow1.cell 0 rfl
        have f01 := hrow1.free 0
        have hO1 : Only [] w w1 := HO.out.trans ho1 (fun x hx => .inr (by
          cases e : scv.ownBlock with
          | none => rw [e] at hx; simp at hx
          | some b => rw [e] at hx; simp at hx; subst hx; have := (hscv _ e).1; have := HQ.out; omega))
        have hmp1 := HMP.out.only (ho1.toP (S := fun x => x ∈ scv.ownBlock.toList) (fun x hx => .inl hx)) hn0
        have hv1 : ∃ g cap, v' = .slice (some ⟨g, 0, none⟩) (k + 1) cap ∧ q + 2 ≤ g := by
          rcases hown1.2 with ⟨_, h2⟩ | ⟨g, cap, cur, hv, hg, _⟩
          · omega
          · exact ⟨g, cap, hv, hg⟩
        obtain ⟨g, cap, rfl, hgq⟩ := hv1
        have hsz1 := ho1.size
        have HR1 := Lib.hid hrow1
        have HOW1 : Hid (w1.ownsRow (q + 2) 47 5 (.slice (some ⟨g, 0, none⟩) (k + 1) cap) (k + 1) (spCells (l.take (k + 1)))) := by
          show World.ownsRow _ _ _ _ _ _ _
          have e : l.take (k + 1) = l.take k ++ [x] := by
            rw [List.take_succ_eq_append_getElem hlt', HX.out]
            unfold gI
            rw [List.getElem?_eq_getElem hlt']; rfl
          rw [e, spCells_snoc]
          exact hown1
        have HO1 := Lib.hid hO1
        have HM1 := Lib.hid hmp1
        clear hown1 hgrow1 hnil hblk ho1 hscv hn1 hn0 hrow1 hO1 hmp1
        go_wp2_with fail
        have hg1 : g ≠ q + 1 := by omega
        refine ⟨⟨k + 1, _, by omega, by go_num, HR1.out.set 0 _, ?_, HM1.out.only (S := (· = q + 1)) ((OnlyP.refl (· = q + 1) w1).set (p := ⟨q + 1, 0, none⟩) (.inl rfl) _) (by omega), HO1.out.set (.inr (by have := HQ.out; simp; omega)) _, by simp [World.setCell]; omega⟩, by simp [intOf]; omega⟩
        exact ownsRow_setCell_below HOW1.out (by show q + 1 < q + 2; omega) _
    · obtain rfl : k = n := by omega
      go_wp2_with fail
      obtain ⟨wo, rfl⟩ : ∃ wo : World, wo = wr := ⟨_, rfl⟩
      obtain ⟨G, hG⟩ : ∃ G, G = wo.heap.size := ⟨_, rfl⟩
      have hHR : Row wo (q + 1) 45 (memRow ⟨scv, nilSv G 0, q, fun _ => 0, fun _ => .slice none 0 0⟩ 0) := HROW.out
      have HG := Lib.hid hG
      have HHR := Lib.hid hHR
      have hqg : q + 2 ≤ G := by omega
      clear hG hHR c0 f0
      go_loopw [7, 37] (fun _ tv wr => ∃ t : Nat, t ≤ 5 ∧ tv = .int .i64 t ∧ Row wr (q + 1) 45 (memRow ⟨scv, nilSv G t, q, fun _ => 0, fun _ => .slice none 0 0⟩ 0) ∧ (∀ s, s < t → Row wr (G + s) 3 [.int .i64 0]) ∧ wr.heap.size = G + t ∧ Only [q + 1] wo wr) (fun _ tv _ => 5 - (intOf tv).toNat)
      case atStart => exact ⟨0, by omega, rfl, HHR.out, fun s hs => by omega, by rw [HG.out]; rfl, Only.refl _ _⟩
      case round =>
        obtain ⟨t, ht, rfl, hrow, hst, hsz, ho⟩ := hrel
        have HR2 := Lib.hid hrow
        have HST := Lib.hid hst
        have HSZ := Lib.hid hsz
        have HO2 := Lib.hid ho
        by_cases hlt : t < 5
        · have ck : wr.cell? ⟨q + 1, 1 + t, none⟩ = some (.slice none 0 0) := hrow.cell (1 + t) (by
            match t, hlt with
            | 0, _ => rfl
            | 1, _ => rfl
            | 2, _ => rfl
            | 3, _ => rfl
            | 4, _ => rfl)
          have fk := hrow.free (1 + t)
          have b1 : (0 : Int) ≤ t := by omega
          have b2 : (t : Int) < 5 := by omega
          have hlt2 := hrow.lt
          clear hrow hst hsz ho
          go_wp2_with fail
          have hR3 := HR2.out
          refine ⟨⟨t + 1, by omega, by go_num, ?_, fun s hs => ?_, by simp [World.setCell]; have := HSZ.out; omega, ((HO2.out.set (p := ⟨q + 1, 1 + t, none⟩) (.inl (by simp)) _).alloc _)⟩, by simp [intOf]; omega⟩
          · have := (hR3.set (1 + t) (.slice (some ⟨wr.heap.size, 0, none⟩) 1 1)).alloc (.cells #[.int .i64 0] 3)
            rw [HSZ.out] at this ⊢
            have e : (memRow ⟨scv, nilSv G t, q, fun _ => 0, fun _ => .slice none 0 0⟩ 0).set (1 + t) (.slice (some ⟨G + t, 0, none⟩) 1 1) = memRow ⟨scv, nilSv G (t + 1), q, fun _ => 0, fun _ => .slice none 0 0⟩ 0 := by
              match t, hlt with
              | 0, _ => rfl
              | 1, _ => rfl
              | 2, _ => rfl
              | 3, _ => rfl
              | 4, _ => rfl
            rw [e] at this
            exact this
          · by_cases e : s = t
            · subst e
              have h1 := Row.new (wr.setCell ⟨q + 1, 1 + s, none⟩ (.slice (some ⟨wr.heap.size, 0, none⟩) 1 1)) 3 [.int .i64 0]
              rw [show (wr.setCell ⟨q + 1, 1 + s, none⟩ (.slice (some ⟨wr.heap.size, 0, none⟩) 1 1)).heap.size = G + s by rw [← HSZ.out]; simp [World.setCell]] at h1
              exact h1
            · exact ((HST.out s (by omega)).other (a := ⟨q + 1, 1 + t, none⟩) (by show q + 1 ≠ G + s; omega) _).alloc _
        · obtain rfl : t = 5 := by omega
          clear hrow hst hsz ho
          go_wp2_with fail
          have hOwn2 : wr.ownsRow (q + 2) 47 5 scv k (spCells (l.take k)) := by
            have h1 := HOWN.out
            refine ⟨h1.1, ?_⟩
            rcases h1.2 with h2 | ⟨g, cap, cur, hv, hb, hh, r⟩
            · exact .inl h2
            · exact .inr ⟨g, cap, cur, hv, hb, by rw [HO2.out.block g (Array.getElem?_eq_some_iff.1 hh).1 (by simp; omega)]; exact hh, r⟩
          rw [HN.out, List.take_length] at hOwn2
          have hmp2 := HMP.out.only (HO2.out.toP (S := (· = q + 1)) (fun x hx => .inl (by simpa using hx))) (by omega)
          have hown := fun j hj => World.ownsRow.lt HOWN.out j hj
          refine hR.out _ _ ⟨q + 1, fun k => if k = q + 1 then some .mem else if k = q then some .map else if scv.ownBlock = some k then some .scp else if G ≤ k ∧ k < G + 5 then some (.stk (k - G)) else none, ⟨scv, nilSv G 5, q, fun _ => 0, fun _ => .slice none 0 0⟩, rfl, ?_, fun k hk => ?_, HO.out.trans HO2.out (fun x hx => .inr (by simp at hx; have := HQ.out; omega))⟩
          · rw [toP_new]
            have hgs : ∀ g, scv.ownBlock = some g → q + 2 ≤ g ∧ g < G := fun g hg => by have := hown g hg; have := HG.out; omega
            have hs2 := HSZ.out
            refine ⟨fun k hk => ?_, ⟨_, HR2.out⟩, by simp, ScAt.ofOwn hOwn2 rfl (fun g hg => ?_), fun t ht => ⟨?_, fun g hg => ?_⟩, hmp2, ?_, fun k t hk => by cases hk⟩
            · replace hk : (if k = q + 1 then some Lb.mem else if k = q then some .map else if scv.ownBlock = some k then some .scp else if G ≤ k ∧ k < G + 5 then some (.stk (k - G)) else none) ≠ none := hk
              by_cases e1 : k = q + 1
              · omega
              · by_cases e2 : k = q
                · omega
                · by_cases e3 : scv.ownBlock = some k
                  · have := hgs k e3; omega
                  · by_cases e4 : G ≤ k ∧ k < G + 5
                    · omega
                    · simp [e1, e2, e3, e4] at hk
            · have := hgs g hg
              simp only [hg]
              rw [if_neg (by omega), if_neg (by omega)]
              rfl
            · show Ints wr 0 (nilSv G 5 t) [0]
              unfold nilSv
              rw [if_pos ht]
              exact Ints.ofRow (l := [0]) (Nat.zero_le _) (HST.out t ht) rfl rfl (Nat.le_refl _) (by decide)
            · have hg' : (nilSv G 5 t).ownBlock = some g := hg
              unfold nilSv at hg'
              rw [if_pos ht] at hg'
              cases hg'
              have h3 : ¬ scv.ownBlock = some (G + t) := fun e => by have := (hgs _ e).2; omega
              simp only [h3]
              rw [if_neg (by omega), if_neg (by omega), if_neg (by simp), if_pos (by omega)]
              congr 2; omega
            · simp
          · replace hk : (if k = q + 1 then some Lb.mem else if k = q then some .map else if scv.ownBlock = some k then some .scp else if G ≤ k ∧ k < G + 5 then some (.stk (k - G)) else none) ≠ none := hk
            have hq := HQ.out
            have hg := HG.out
            by_cases e1 : k = q + 1
            · omega
            · by_cases e2 : k = q
              · omega
              · by_cases e3 : scv.ownBlock = some k
                · have := (hown k e3).1; omega
                · by_cases e4 : G ≤ k ∧ k < G + 5
                  · omega
                  · simp [e1, e2, e3, e4] at hk
end Go.Proofs.YtkacgbigeobncaaGreat
