/- The law BlockPlays, walked. -/
import Derived.Test.YtngmiacekcmidaaBPlay
import Derived.Test.YtngmiacekcmidaaBStates
import Derived.Laws.StructEq
namespace Go.Proofs.Ytngmiacekcmidaa
open Go.RowKit Go.ChangeShapes Go.WideShapes Go.Deep
set_option maxHeartbeats 6400000
set_option maxRecDepth 100000
set_option linter.unusedVariables false

theorem deed_neq (a b c : Int) (wx : World) : (binOp .neq 34 (.agg #[.int .i64 a, .int .i64 b, .int .i64 c]) (.agg #[.int .i64 a, .int .i64 b, .int .i64 c])).run Try.prog wx = .ok (.bool false) wx := by
  rw [run_neq_struct, run_equalIn_struct wx 9999 _ _ _ (by kernel_rfl) (by kernel_rfl)]
  simp [go_sem, Try.underlying34, Try.underlying3, part]
def deedZero : Value := .agg #[.int .i64 0, .int .i64 0, .int .i64 0]
theorem infoDeed : (Try.prog.info? 34).map (fun i => (i.zero, i.size, i.bytes)) = some (some deedZero, 3, 24) := by kernel_rfl
theorem deedCells_inv {f : Nat → Nat → Int} {n j : Nat} {u : Value} (h : (deedCells f n)[j]? = some u) : ∃ i r, i < n ∧ r < 3 ∧ j = i * 3 + r ∧ u = .int .i64 (f i r) := by
  have hj : j < n * 3 := by have := (List.getElem?_eq_some_iff.1 h).1; rw [deedCells_len] at this; exact this
  refine ⟨j / 3, j % 3, by omega, by omega, by omega, ?_⟩
  have := deedCells_at f n (j / 3) (j % 3) (by omega) (by omega)
  rw [show j / 3 * 3 + j % 3 = j by omega, h] at this
  cases this; rfl
/-- A slice of deeds that the call itself has made. -/
theorem own_deeds {w : World} {base : Nat} {v : Value} {f : Nat → Nat → Int} {n T : Nat} (h : w.ownsRow base T 3 v n (deedCells f n)) :
    ∃ a cap, v = .slice a n cap ∧ (n = 0 ∨ ∃ g, a = some ⟨g, 0, none⟩ ∧ base ≤ g ∧ ∀ i, i < n → ∀ j, j < 3 → w.cell? ⟨g, 0 + (i * 3 + j), none⟩ = some (.int .i64 (f i j))) := by
  rcases h.2 with ⟨h1, h2⟩ | ⟨g, cap, cur, hv, hg, hh, hc, hm, hs, ht⟩
  · exact ⟨none, 0, by rw [h1, h2], .inl h2⟩
  · refine ⟨_, cap, hv, .inr ⟨g, rfl, hg, fun i hi j hj => ?_⟩⟩
    have h3 := World.ownsRow.cells h (g := g) (by rw [hv]; rfl) (i * 3 + j) _ (deedCells_at f n i j hi hj)
    rwa [addr_add] at h3

/-- A slice of structs of numbers; a nil one has no room. -/
def Recc (k : Nat) (w : World) (a : Option Addr) (len cap : Nat) (f : Nat → Nat → Int) : Prop := Recs k w a len f ∧ (a = none → len = 0 ∧ cap = 0)
theorem recc_of {H : Type} {enc : TypeId × Value → H} {P : Program} {w : World} {base : Nat} {spare : Nat → Bool} {held : Bool} {t e : TypeId} {fs : Array Field} {fuel len cap : Nat} {a : Option Addr} {x : DataW H × List MemPlace} (k : Nat) (ht : P.underlying t = some (.slice e)) (he : P.underlying e = some (.struct fs))
    (hk : fs.size = k) (h0 : 0 < k) (hone : oneCellFields P fs = true) (hC : P.cellsOf e = fs.size) (hint : ∀ (j : Nat) (f : Field), fs[j]? = some f → P.underlying f.type = some (.int .i64))
    (h : DataW.trod enc P w base spare held fuel t [.slice a len cap] = some x) : ∃ f, Recc k w a len cap f := by
  obtain ⟨f, hf⟩ := recs_of k ht he hk h0 hone hC hint h
  refine ⟨f, hf, fun e1 => ?_⟩
  subst e1
  rcases open_slice ht h with ⟨h1, _⟩ | ⟨a', len', cap', m, n, D, Pl, hcs, hb, hl, hm, hmm, hx, hi⟩
  · simp at h1; exact h1
  · simp at hcs
/-- append(s, l...) to an empty slice of the call's own. -/
theorem append_deeds {w0 w : World} {ops : Array Oper} {rest : List Oper} {o : Oper} {a : Act} {Q : Exit → Act → World → Prop} (hgd : o.guard = none) (s x : Operand)
    (ho : o.op = .call { callee := .builtin .append, args := #[s, x], argTypes := #[22, 22] })
    (base : Nat) (v : Value) (len : Nat) (oa : Option Addr) (cap2 : Nat) (f : Nat → Nat → Int) (h400 : len ≤ 400) (hown : w.ownsRow base 34 3 v 0 []) (hs : a.eval s = v)
    (hx : a.eval x = .slice oa len cap2) (hrec : len = 0 ∨ ∃ b o, oa = some ⟨b, o, none⟩ ∧ ∀ i, i < len → ∀ j, j < 3 → w0.cell? ⟨b, o + (i * 3 + j), none⟩ = some (.int .i64 (f i j)) ∧ (Lit.int .i64 (f i j)).wf = true)
    (hnil : oa = none → len = 0 ∧ cap2 = 0) (hw : Only [] w0 w) (hb0 : base = w0.heap.size)
    (h : ∀ v' w', w'.ownsRow base 34 3 v' len (deedCells f len) → Only [] w0 w' → wpList Try.prog ops Q rest (a.put o.dst v') w') : wpList Try.prog ops Q (o :: rest) a w := by
  obtain ⟨i9, hi9, hz9, hy9, hb9⟩ := info_parts infoDeed
  have hle : base ≤ w.heap.size := by rw [hb0]; exact hw.size
  have key : ∀ (ad : Addr), oa = some ad → (∀ j u, (deedCells f len)[j]? = some u → w.cell? (ad.add j) = some u) → wpList Try.prog ops Q (o :: rest) a w := fun ad ha hc => by
    subst ha
    refine wpList_append_own2 hgd s x 22 ho base 34 i9 _ 3 24 Try.underlying22 hi9 hz9 hy9 hb9 (by rfl) (by omega) v 0 [] hs hown ad len cap2 (deedCells f len) hx (deedCells_len _ _) hc ?_ (by simp only [maxLen]; omega) (by omega) hle ?_
    · intro u hu
      obtain ⟨j, hj, hu2⟩ := List.getElem_of_mem hu
      obtain ⟨i, r, _, _, _, rfl⟩ := deedCells_inv (f := f) (n := len) (j := j) (u := u) (by rw [List.getElem?_eq_getElem hj, hu2])
      rfl
    · intro v' w' h1 h2 _ _
      rw [Nat.zero_add, List.nil_append] at h1
      exact h v' w' h1 (hw.grown h2 (fun k hk => .inr (by have := (World.ownsRow.lt hown k hk).1; omega)))
  rcases hrec with h0 | ⟨bb, oo, rfl, hc⟩
  · cases oa with
    | some ad => exact key ad rfl (fun j u hu => by subst h0; simp [deedCells] at hu)
    | none =>
      obtain ⟨rfl, rfl⟩ := hnil rfl
      exact wpList_append_own_none hgd s x 22 ho base 34 i9 3 Try.underlying22 hi9 v 0 [] hs hown hx (h v w hown hw)
  · refine key _ rfl (fun j u hu => ?_)
    obtain ⟨i, r, h1, h2, rfl, rfl⟩ := deedCells_inv hu
    rw [addr_add]
    exact hw.cell (hc i h1 r h2).1 (by simp)
theorem grownO {w w' : World} (h : w.grownBy w' none) : Only [] w w' := (Only.refl [] w).grown h (fun k hk => by cases hk)

/-- What Play returns. -/
def playRes (a : Int) (f : Nat → Nat → Int) (len : Nat) : Int × List Int := if 1 ≤ a ∧ a ≤ 24 ∧ len ≤ 200 then (0, (playN a.toNat f len).2) else (1, [])
theorem playRes_len (a : Int) (f : Nat → Nat → Int) (len : Nat) : (playRes a f len).2.length ≤ len ∧ (playRes a f len).2.length ≤ 200 := by
  unfold playRes
  split
  · rename_i h; show (playN _ _ _).2.length ≤ _ ∧ (playN _ _ _).2.length ≤ _; rw [playN_len]; omega
  · simp
theorem playRes_long (a : Int) (f : Nat → Nat → Int) {len : Nat} (h : 200 < len) : playRes a f len = (1, []) := by unfold playRes; rw [if_neg (by omega)]
def PlayPost (w : World) (r : Int × List Int) (e : Ending) (w' : World) : Prop := ∃ v, e = .returned (.tuple #[v, .int .i64 r.1]) ∧ Ints w' w.heap.size v r.2 ∧ Only [] w w'
theorem bplay_any (w : World) (a0 : Int) (a : Option Addr) (len cap : Nat) (f : Nat → Nat → Int) (h : Recs 3 w a len f) :
    Calls Try.prog 22 #[.int .i64 a0, .slice a len cap] w (PlayPost w (playRes a0 f len)) := by
  unfold playRes
  split
  · rename_i hc
    obtain ⟨n, rfl⟩ : ∃ n : Nat, a0 = n := ⟨a0.toNat, by omega⟩
    exact (bplay_yes w n (by omega) (by omega) a len cap f h hc.2.2).mono fun e w' ⟨v, h1, h2, h3⟩ => ⟨v, h1, h2, h3⟩
  · rename_i hc
    by_cases hb : a0 < 1 ∨ 24 < a0
    · exact (bplay_no w a0 hb _).mono fun e w' ⟨h1, h3⟩ => ⟨_, h1, Ints.nil _ _, h3⟩
    · obtain ⟨n, rfl⟩ : ∃ n : Nat, a0 = n := ⟨a0.toNat, by omega⟩
      exact (bplay_long w n (by omega) (by omega) a len cap (by omega) h.1).mono fun e w' ⟨h1, h3⟩ => ⟨_, h1, Ints.nil _ _, h3⟩
theorem rplay_any (w : World) (a0 : Int) (a : Option Addr) (len cap : Nat) (f : Nat → Nat → Int) (h : Recs 3 w a len f) :
    Calls Try.prog 24 #[.int .i64 a0, .slice a len cap] w (PlayPost w (playRes a0 f len)) := by
  unfold playRes
  split
  · rename_i hc
    obtain ⟨n, rfl⟩ : ∃ n : Nat, a0 = n := ⟨a0.toNat, by omega⟩
    exact (rplay_yes w n (by omega) (by omega) a len cap f h hc.2.2).mono fun e w' ⟨v, h1, h2, h3⟩ => ⟨v, h1, h2, h3⟩
  · rename_i hc
    by_cases hb : a0 < 1 ∨ 24 < a0
    · exact (rplay_no w a0 hb _).mono fun e w' ⟨h1, h3⟩ => ⟨_, h1, Ints.nil _ _, h3⟩
    · obtain ⟨n, rfl⟩ : ∃ n : Nat, a0 = n := ⟨a0.toNat, by omega⟩
      exact (rplay_long w n (by omega) (by omega) a len cap (by omega) h.1).mono fun e w' ⟨h1, h3⟩ => ⟨_, h1, Ints.nil _ _, h3⟩
theorem rplay_over (w : World) (a0 : Int) (a : Option Addr) :
    Calls Try.prog 24 #[.int .i64 a0, .slice a 201 201] w (PlayPost w (1, [])) := by
  by_cases hb : a0 < 1 ∨ 24 < a0
  · exact (rplay_no w a0 hb _).mono fun e w' ⟨h1, h3⟩ => ⟨_, h1, Ints.nil _ _, h3⟩
  · obtain ⟨n, rfl⟩ : ∃ n : Nat, a0 = n := ⟨a0.toNat, by omega⟩
    exact (rplay_long w n (by omega) (by omega) a 201 201 (by omega) (by omega)).mono fun e w' ⟨h1, h3⟩ => ⟨_, h1, Ints.nil _ _, h3⟩
theorem DeedsAt.recs {w w0 : World} {base : Nat} {v : Value} {f : Nat → Nat → Int} {n len : Nat} {a0 : Option Addr} (h : DeedsAt w base v f n) (hr : Recs 3 w0 a0 len f) (hn : n ≤ len) : ∃ a cap, v = .slice a n cap ∧ Recs 3 w a n f := by
  have hl := hr.1
  rcases h with ⟨h1, h2⟩ | ⟨g, cap, hv, hg, hc⟩
  · exact ⟨none, 0, by rw [h2, h1], by omega, .inl h1⟩
  · refine ⟨_, cap, hv, by omega, .inr ⟨g, 0, rfl, fun i hi j hj => ?_⟩⟩
    rcases hr.2 with h0 | ⟨b, o, _, hc2⟩
    · omega
    · rw [Nat.zero_add]
      exact ⟨hc i hi j hj, (hc2 i (by omega) j hj).2⟩

theorem walk_BlockPlays (a0 : Int) (a1 : Option Addr) (len1 cap1 : Nat) (f1 : Nat → Nat → Int) (w : World) (w1 : Recc 3 w a1 len1 cap1 f1) :
    Calls Try.prog 4 #[.int .i64 a0, .slice a1 len1 cap1] w fun e w' => e = .returned (.bool true) ∧ Below w.heap.size w w' := by
  refine calls_abs fun R hR => ?_
  have HREC := Lib.hid w1.1
  have hl63 := w1.1.1
  have HNIL := Lib.hid w1.2
  clear w1
  by_cases h400 : 400 < len1
  · go_enter Try.func4, Try.ntmps4
    go_wp2_with fail
    refine (sane_any _).mono ?_
    rintro e w4 ⟨rfl, o4⟩
    go_wp2_with fail
    exact hR.out _ _ ⟨rfl, o4.below (Nat.le_refl _) (by simp)⟩
  obtain ⟨i0, hi, hz0, hz1, hz2⟩ := info_parts infoDeed
  have HZ0 := Lib.hid hz0
  have HZ1 := Lib.hid hz1
  have HZ2 := Lib.hid hz2
  have HI := Lib.hid hi
  clear hz0 hz1 hz2 hi
  go_enter Try.func4, Try.ntmps4
  go_wp2_with (at_make; refine wpList_make_own _ rfl _ _ 22 rfl w.heap.size 34 i0 _ 3 Try.underlying22 HI.out HZ0.out HZ1.out _ _ _ (len1 + 2) rfl rfl (by omega) (by rw [HZ2.out]; omega) (by simp only [maxLen]; omega) (Nat.le_refl _) ?_)
  intro wa hown hgrow
  go_wp2_with (at_builtin; refine append_deeds rfl _ _ rfl w.heap.size _ len1 _ _ f1 (by omega) hown rfl rfl HREC.out.2 HNIL.out (grownO hgrow) rfl ?_)
  intro v' w2 hown2 ho2
  clear hown hgrow
  obtain ⟨av, cv, rfl, hcells⟩ := own_deeds hown2
  have HO2 := Lib.hid ho2
  have HC := Lib.hid hcells
  have HR2 : Hid (Recs 3 w2 av len1 f1) := by
    refine ⟨hl63, ?_⟩
    rcases hcells with h0 | ⟨g, e1, hg, hc⟩
    · exact .inl h0
    · refine .inr ⟨g, 0, e1, fun i hi j hj => ⟨hc i hi j hj, ?_⟩⟩
      rcases HREC.out.2 with h0 | ⟨b, o, _, hc2⟩
      · omega
      · exact (hc2 i hi j hj).2
  clear hcells hown2 ho2
  go_wp2_with fail
  refine (bplay_any w2 a0 av len1 cv f1 HR2.out).mono ?_
  rintro e w3 ⟨v6, rfl, hv6, ho3⟩
  have HV6 := Lib.hid hv6
  have HO3 := Lib.hid (HO2.out.trans ho3 (by simp))
  have HC3 : Hid (len1 = 0 ∨ ∃ g, av = some ⟨g, 0, none⟩ ∧ w.heap.size ≤ g ∧ ∀ i, i < len1 → ∀ j, j < 3 → w3.cell? ⟨g, 0 + (i * 3 + j), none⟩ = some (.int .i64 (f1 i j))) := by
    rcases HC.out with h0 | ⟨g, e1, hg, hc⟩
    · exact .inl h0
    · exact .inr ⟨g, e1, hg, fun i hi j hj => ho3.cell (hc i hi j hj) (by simp)⟩
  have HR3 : Hid (Recs 3 w3 a1 len1 f1) := by
    refine ⟨hl63, ?_⟩
    rcases HREC.out.2 with h0 | ⟨b, o, e1, hc⟩
    · exact .inl h0
    · exact .inr ⟨b, o, e1, fun i hi j hj => ⟨HO3.out.cell (hc i hi j hj).1 (by simp), (hc i hi j hj).2⟩⟩
  clear hv6 ho3 HC HR2
  go_wp2_with fail
  refine (converted_of w3 a1 len1 cap1 f1 HR3.out).mono ?_
  rintro e w4 ⟨v8, rfl, hd4, ho4⟩
  have HV64 := Lib.hid (HV6.out.kept ho4 (by simp))
  have HO4 := Lib.hid (HO3.out.trans ho4 (by simp))
  have HC4 : Hid (len1 = 0 ∨ ∃ g, av = some ⟨g, 0, none⟩ ∧ w.heap.size ≤ g ∧ ∀ i, i < len1 → ∀ j, j < 3 → w4.cell? ⟨g, 0 + (i * 3 + j), none⟩ = some (.int .i64 (f1 i j))) := by
    rcases HC3.out with h0 | ⟨g, e1, hg, hc⟩
    · exact .inl h0
    · exact .inr ⟨g, e1, hg, fun i hi j hj => ho4.cell (hc i hi j hj) (by simp)⟩
  have HD4 := Lib.hid hd4
  clear hd4 ho4 HV6 HO3 HC3 HR3 HO2
  have hrl := playRes_len a0 f1 len1
  by_cases h2 : 200 < len1
  · have hr0 := playRes_long a0 f1 h2
    rw [hr0] at HV64 hrl ⊢
    obtain ⟨i5, hi5, hz5, hy5, hb5⟩ := info_parts infoRDeed
    have HI5 := Lib.hid hi5
    have HZ5 := Lib.hid hz5
    have HY5 := Lib.hid hy5
    have HB5 := Lib.hid hb5
    clear hr0 hi5 hz5 hy5 hb5
    obtain ⟨l, hl⟩ : ∃ l : List Int, l = [] := ⟨_, rfl⟩
    have HV4 : Hid (Ints w4 w2.heap.size v6 l) := by rw [hl]; exact HV64.out
    have HLN := Lib.hid hl
    have hrl : l.length ≤ len1 ∧ l.length ≤ 200 := by rw [hl]; simp
    clear hl HV64
    go_wp2_with (at_make; refine wpList_make_full _ rfl _ _ 42 rfl w4.heap.size 65 i5 _ 3 Try.underlying42 HI5.out HZ5.out HY5.out _ _ _ _ 201 rfl rfl rfl rfl (by rw [HB5.out]; omega) (by simp only [maxLen]; omega) (Nat.le_refl _) ?_)
    intro w5 hown5 hgrow5
    have ho5 := grownO hgrow5
    have HV65 := Lib.hid (HV4.out.kept ho5 (by simp))
    have HO5 := Lib.hid (HO4.out.trans ho5 (by simp))
    have HC5 : Hid (len1 = 0 ∨ ∃ g, av = some ⟨g, 0, none⟩ ∧ w.heap.size ≤ g ∧ ∀ i, i < len1 → ∀ j, j < 3 → w5.cell? ⟨g, 0 + (i * 3 + j), none⟩ = some (.int .i64 (f1 i j))) := by
      rcases HC4.out with h0 | ⟨g, e1, hg, hc⟩
      · exact .inl h0
      · exact .inr ⟨g, e1, hg, fun i hi j hj => ho5.cell (hc i hi j hj) (by simp)⟩
    clear hown5 hgrow5 ho5 HV4 HO4 HC4
    go_wp2_with fail
    have e5 := rplay_over w5 a0 (some ⟨w4.heap.size, 0, none⟩)
    rw [show ([] : List Int) = l from HLN.out.symm] at e5
    obtain ⟨er, her⟩ : ∃ er : Int, er = 1 := ⟨_, rfl⟩
    refine e5.mono ?_
    rintro e w6 ⟨v9, rfl, hv9, ho6⟩
    have HV66 := Lib.hid (HV65.out.kept ho6 (by simp))
    have HV9 := Lib.hid hv9
    have HO6 := Lib.hid (HO5.out.trans ho6 (by simp))
    have HC6 : Hid (len1 = 0 ∨ ∃ g, av = some ⟨g, 0, none⟩ ∧ w.heap.size ≤ g ∧ ∀ i, i < len1 → ∀ j, j < 3 → w6.cell? ⟨g, 0 + (i * 3 + j), none⟩ = some (.int .i64 (f1 i j))) := by
      rcases HC5.out with h0 | ⟨g, e1, hg, hc⟩
      · exact .inl h0
      · exact .inr ⟨g, e1, hg, fun i hi j hj => ho6.cell (hc i hi j hj) (by simp)⟩
    clear hv9 ho6 HV65 HO5 HC5
    obtain ⟨a6, c6, hf6⟩ := HV66.out.len
    obtain ⟨a9, c9, hf9⟩ := HV9.out.len
    obtain ⟨L, hL⟩ : ∃ L, L = l.length := ⟨_, rfl⟩
    rw [← hL] at hf6 hf9 hrl
    have HL := Lib.hid hL
    subst hf6
    subst hf9
    clear hL
    go_wp2_with fail
    go_loopw [11] (fun v wr => ∃ x : Nat, v = .int .i64 x ∧ x ≤ L ∧ ∃ n, wr = w6.drewN n) (fun v _ => L - (intOf v).toNat)
    case atStart => exact ⟨0, rfl, by omega, 0, rfl⟩
    case round =>
      obtain ⟨x, rfl, hx, n, rfl⟩ := hrel
      by_cases hlt : x < L
      · rcases HV66.out.form with ⟨e1, e2⟩ | ⟨b1, d1, e1, _, _, _, q1⟩
        · exfalso; have := HL.out; rw [e2] at this; simp at this; omega
        rcases HV9.out.form with ⟨e3, e4⟩ | ⟨b3, d3, e3, _, _, _, q3⟩
        · exfalso; have := HL.out; rw [e4] at this; simp at this; omega
        simp only [Value.slice.injEq] at e1 e3
        obtain ⟨rfl, ex1, rfl⟩ := e1
        obtain ⟨rfl, ex2, rfl⟩ := e3
        have m1 := q1 x (by have := HL.out; omega)
        have m3 := q3 x (by have := HL.out; omega)
        rcases HC6.out with h0 | ⟨g, rfl, hg, hc⟩
        · omega
        rcases HREC.out.2 with h0 | ⟨bb, oo, rfl, hc2⟩
        · omega
        have k0 := hc x (by omega) 0 (by omega)
        have k1 := hc x (by omega) 1 (by omega)
        have k2 := hc x (by omega) 2 (by omega)
        have c0 := HO6.out.cell (hc2 x (by omega) 0 (by omega)).1 (by simp)
        have c1 := HO6.out.cell (hc2 x (by omega) 1 (by omega)).1 (by simp)
        have c2 := HO6.out.cell (hc2 x (by omega) 2 (by omega)).1 (by simp)
        rw [Nat.zero_add] at k0 k1 k2
        rw [Nat.add_zero] at c0 k0
        rw [← Nat.add_assoc] at c1 c2
        have hne := deed_neq (f1 x 0) (f1 x 1) (f1 x 2)
        generalize f1 x 0 = z0 at *
        generalize f1 x 1 = z1 at *
        generalize f1 x 2 = z2 at *
        generalize gI l x = y at *
        clear q1 q3 ex1 ex2 hc hc2 hg
        go_wp2_with fail
        go_quiet (fail)
        go_wp2_with fail
        exact ⟨⟨x + 1, by go_num, by omega, drewN_n _ _⟩, by simp [intOf]; omega⟩
      · go_wp2_with fail
        refine (sane_any _).mono ?_
        rintro e w7 ⟨rfl, o7⟩
        go_wp2_with fail
        exact hR.out _ _ ⟨rfl, ((HO6.out.drewN _).trans o7 (by simp)).below (Nat.le_refl _) (by simp)⟩
  · rw [show min len1 200 = len1 by omega] at HD4
    obtain ⟨a8, c8, rfl, hr8⟩ := HD4.out.recs HREC.out (Nat.le_refl _)
    have e5 := rplay_any w4 a0 a8 len1 c8 f1 hr8
    generalize playRes a0 f1 len1 = r at *
    obtain ⟨er, l⟩ := r
    have hrl2 : l.length ≤ len1 ∧ l.length ≤ 200 := hrl
    have hrl := hrl2
    clear hrl2
    have HV65 : Hid (Ints w4 w2.heap.size v6 l) := HV64.out
    have HO5 := HO4
    have HC5 := HC4
    clear HV64 HO4 HC4 HD4 hr8
    go_wp2_with fail
    refine e5.mono ?_
    rintro e w6 ⟨v9, rfl, hv9, ho6⟩
    have HV66 := Lib.hid (HV65.out.kept ho6 (by simp))
    have HV9 := Lib.hid hv9
    have HO6 := Lib.hid (HO5.out.trans ho6 (by simp))
    have HC6 : Hid (len1 = 0 ∨ ∃ g, av = some ⟨g, 0, none⟩ ∧ w.heap.size ≤ g ∧ ∀ i, i < len1 → ∀ j, j < 3 → w6.cell? ⟨g, 0 + (i * 3 + j), none⟩ = some (.int .i64 (f1 i j))) := by
      rcases HC5.out with h0 | ⟨g, e1, hg, hc⟩
      · exact .inl h0
      · exact .inr ⟨g, e1, hg, fun i hi j hj => ho6.cell (hc i hi j hj) (by simp)⟩
    clear hv9 ho6 HV65 HO5 HC5
    obtain ⟨a6, c6, hf6⟩ := HV66.out.len
    obtain ⟨a9, c9, hf9⟩ := HV9.out.len
    obtain ⟨L, hL⟩ : ∃ L, L = l.length := ⟨_, rfl⟩
    rw [← hL] at hf6 hf9 hrl
    have HL := Lib.hid hL
    subst hf6
    subst hf9
    clear hL
    go_wp2_with fail
    go_loopw [11] (fun v wr => ∃ x : Nat, v = .int .i64 x ∧ x ≤ L ∧ ∃ n, wr = w6.drewN n) (fun v _ => L - (intOf v).toNat)
    case atStart => exact ⟨0, rfl, by omega, 0, rfl⟩
    case round =>
      obtain ⟨x, rfl, hx, n, rfl⟩ := hrel
      by_cases hlt : x < L
      · rcases HV66.out.form with ⟨e1, e2⟩ | ⟨b1, d1, e1, _, _, _, q1⟩
        · exfalso; have := HL.out; rw [e2] at this; simp at this; omega
        rcases HV9.out.form with ⟨e3, e4⟩ | ⟨b3, d3, e3, _, _, _, q3⟩
        · exfalso; have := HL.out; rw [e4] at this; simp at this; omega
        simp only [Value.slice.injEq] at e1 e3
        obtain ⟨rfl, ex1, rfl⟩ := e1
        obtain ⟨rfl, ex2, rfl⟩ := e3
        have m1 := q1 x (by have := HL.out; omega)
        have m3 := q3 x (by have := HL.out; omega)
        rcases HC6.out with h0 | ⟨g, rfl, hg, hc⟩
        · omega
        rcases HREC.out.2 with h0 | ⟨bb, oo, rfl, hc2⟩
        · omega
        have k0 := hc x (by omega) 0 (by omega)
        have k1 := hc x (by omega) 1 (by omega)
        have k2 := hc x (by omega) 2 (by omega)
        have c0 := HO6.out.cell (hc2 x (by omega) 0 (by omega)).1 (by simp)
        have c1 := HO6.out.cell (hc2 x (by omega) 1 (by omega)).1 (by simp)
        have c2 := HO6.out.cell (hc2 x (by omega) 2 (by omega)).1 (by simp)
        rw [Nat.zero_add] at k0 k1 k2
        rw [Nat.add_zero] at c0 k0
        rw [← Nat.add_assoc] at c1 c2
        have hne := deed_neq (f1 x 0) (f1 x 1) (f1 x 2)
        generalize f1 x 0 = z0 at *
        generalize f1 x 1 = z1 at *
        generalize f1 x 2 = z2 at *
        generalize gI l x = y at *
        clear q1 q3 ex1 ex2 hc hc2 hg
        go_wp2_with fail
        go_quiet (fail)
        go_wp2_with fail
        exact ⟨⟨x + 1, by go_num, by omega, drewN_n _ _⟩, by simp [intOf]; omega⟩
      · go_wp2_with fail
        refine (sane_any _).mono ?_
        rintro e w7 ⟨rfl, o7⟩
        go_wp2_with fail
        exact hR.out _ _ ⟨rfl, ((HO6.out.drewN _).trans o7 (by simp)).below (Nat.le_refl _) (by simp)⟩
end Go.Proofs.Ytngmiacekcmidaa
