/- Lemmas of this claim. -/
import Derived.Test.YtkacgbigeobncaaGreatTaCdB
import Derived.Test.YtkacgbigeobncaaGreatTaCdS
import Derived.Deep.DeepCutAuto
import Derived.Test.YtkacgbigeobncaaGreatTaLib
namespace Go.Proofs.YtkacgbigeobncaaGreat
open Go.RowKit Go.Maps
set_option maxHeartbeats 3200000
set_option maxRecDepth 100000
set_option linter.unusedVariables false
set_option linter.unusedSimpArgs false
theorem Ins.valid_op {i : Ins} (h : i.valid = true) : ∃ k : Nat, i.op = k ∧ k < 36 := by
  simp only [Ins.valid, known, Bool.and_eq_true, decide_eq_true_eq] at h
  exact ⟨i.op.toNat, by omega, by omega⟩
theorem valid_any (w : World) (i : Ins) : Calls Tryz.prog 123 #[i.val, .bool false] w (Ret w (.bool i.valid)) := by
  refine calls_abs fun R hR => ?_
  obtain ⟨op, a, b⟩ := i
  have H : Hid (∀ x w', x = Ins.valid ⟨op, a, b⟩ → Only [] w w' → R (.returned (.bool x)) w') := fun x w' hx ho => hR.out _ _ ⟨by rw [hx], ho⟩
  unfold Ins.val
  dsimp only
  by_cases hk : op < 0 ∨ 36 ≤ op
  · have HV := Lib.hid (show Ins.valid ⟨op, a, b⟩ = false by
      simp only [Ins.valid, known]
      rcases hk with hk | hk
      · rw [decide_eq_false (by omega : ¬ 0 ≤ op)]; rfl
      · rw [decide_eq_false (by omega : ¬ op < 36)]; simp)
    have c := fun w => known_no w op hk
    clear hR hk
    go_enter Tryz.func123, Tryz.ntmps123
    go_wp2_with fail
    refine (c _).mono ?_
    rintro e w1 ⟨ho, s, x, y, z, rfl⟩
    have HO := Lib.hid (((Only.refl [] w).alloc (.cells #[.int .i64 op, .int .i64 a, .int .i64 b] 64)).trans ho (by simp))
    go_wp2_with fail
    exact H.out _ _ HV.out.symm (HO.out.alloc _)
  · obtain ⟨k, rfl, hk36⟩ : ∃ k : Nat, op = k ∧ k < 36 := ⟨op.toNat, by omega, by omega⟩
    have hs := spec_range k
    obtain ⟨r1, h1, h15⟩ : ∃ r1 : Nat, (spec k).1 = r1 ∧ r1 < 15 := ⟨(spec k).1.toNat, by omega, by omega⟩
    obtain ⟨r2, h2, h25⟩ : ∃ r2 : Nat, (spec k).2.1 = r2 ∧ r2 < 15 := ⟨(spec k).2.1.toNat, by omega, by omega⟩
    have HV := Lib.hid (show Ins.valid ⟨k, a, b⟩ = (inR a r1 && inR b r2 && (decide ((k : Int) ≠ 12) || decide (a ≠ 3) || decide (b = 0))) by
      simp only [Ins.valid, known, h1, h2]
      rw [decide_eq_true (by omega : (0 : Int) ≤ k), decide_eq_true (by omega : (k : Int) < 36)]; rfl)
    have c := fun w => known_yes w k hk36
    simp only [h1, h2] at c
    have c1 := fun w => in_any w a r1 h15
    have c2 := fun w => in_any w b r2 h25
    clear hR hk hs h1 h2
    generalize (spec k).2.2 = cs at *
    generalize inR a r1 = b1 at *
    generalize inR b r2 = b2 at *
    go_enter Tryz.func123, Tryz.ntmps123
    go_wp2_with fail
    refine (c _).mono ?_
    rintro e w1 ⟨ho, s, rfl⟩
    have HO := Lib.hid (((Only.refl [] w).alloc (.cells #[.int .i64 (k : Int), .int .i64 a, .int .i64 b] 64)).trans ho (by simp))
    have hr := ho.row (Row.new w 64 [.int .i64 (k : Int), .int .i64 a, .int .i64 b]) (by simp)
    have hr2 := hr.alloc (.cells #[.string s, .int .i64 (r1 : Int), .int .i64 (r2 : Int), .int .i64 cs] 231)
    have m0 := hr2.cell 0 rfl
    have m1 := hr2.cell 1 rfl
    have m2 := hr2.cell 2 rfl
    clear c ho hr hr2
    cases b1
    · go_wp2_with fail
      refine (c1 _).mono ?_
      rintro e _ ⟨rfl, rfl⟩
      go_wp2_with fail
      exact H.out _ _ (by rw [HV.out]; rfl) (HO.out.alloc _)
    cases b2
    · go_wp2_with fail
      refine (c1 _).mono ?_
      rintro e _ ⟨rfl, rfl⟩
      go_wp2_with fail
      refine (c2 _).mono ?_
      rintro e _ ⟨rfl, rfl⟩
      go_wp2_with fail
      exact H.out _ _ (by rw [HV.out]; rfl) (HO.out.alloc _)
    · go_wp2_with fail
      refine (c1 _).mono ?_
      rintro e _ ⟨rfl, rfl⟩
      go_wp2_with fail
      refine (c2 _).mono ?_
      rintro e _ ⟨rfl, rfl⟩
      go_wp2_with fail
      all_goals (refine H.out _ _ ?_ (HO.out.alloc _); rw [HV.out, Bool.true_and, Bool.true_and]; clear H HV HO c1 c2; simp_all; try rfl)
theorem cost_any (w : World) (i : Ins) (hv : i.valid = true) : Calls Tryz.prog 86 #[i.val] w (Ret w (.tuple #[.int .i64 i.cost, .int .i64 0])) := by
  refine calls_abs fun R hR => ?_
  have cv := fun w => valid_any w i
  rw [hv] at cv
  obtain ⟨k, hk, hk36⟩ := i.valid_op hv
  obtain ⟨op, a, b⟩ := i
  dsimp only at hk
  subst hk
  have H : Hid (∀ x w', x = Ins.cost ⟨k, a, b⟩ → Only [] w w' → R (.returned (.tuple #[.int .i64 x, .int .i64 0])) w') := fun x w' hx ho => hR.out _ _ ⟨by rw [hx], ho⟩
  have HA := Lib.hid (show (k = 15 ∨ k = 16) → 0 ≤ a ∧ a ≤ 48 by
    intro hq
    simp only [Ins.valid, Bool.and_eq_true] at hv
    have h1 := hv.1.1.2
    rcases hq with rfl | rfl
    · simpa [inR, spec, specs, mostR, mosts] using h1
    · simpa [inR, spec, specs, mostR, mosts] using h1)
  have c := fun w => known_yes w k hk36
  have hs := spec_range k
  have HC := Lib.hid (show Ins.cost ⟨k, a, b⟩ = if (k : Int) = 15 ∨ (k : Int) = 16 then (spec k).2.2 + a else (spec k).2.2 from rfl)
  have hcs : 0 ≤ (spec k).2.2 ∧ (spec k).2.2 ≤ 12 := ⟨hs.2.2.2.2.1, hs.2.2.2.2.2⟩
  clear hR hv hs
  unfold Ins.val at *
  dsimp only at *
  generalize (spec k).1 = s1 at *
  generalize (spec k).2.1 = s2 at *
  generalize (spec k).2.2 = s3 at *
  have HCS := Lib.hid hcs
  clear hcs
  go_enter Tryz.func86, Tryz.ntmps86
  go_wp2_with fail
  have hr0 := Row.new w 64 [.int .i64 (k : Int), .int .i64 a, .int .i64 b]
  have HO0 := Lib.hid ((Only.refl [] w).alloc (.cells #[.int .i64 (k : Int), .int .i64 a, .int .i64 b] 64))
  refine (cv _).mono ?_
  rintro e w1 ⟨rfl, ho⟩
  have hr1 := ho.row hr0 (by simp)
  have m0 := hr1.cell 0 rfl
  have HO1 := Lib.hid (HO0.out.trans ho (by simp))
  clear cv ho hr0
  go_wp2_with fail
  refine (c _).mono ?_
  rintro e w2 ⟨ho, s, rfl⟩
  have hr := ho.row hr1 (by simp)
  have hr2 := hr.alloc (.cells #[.string s, .int .i64 s1, .int .i64 s2, .int .i64 s3] 231)
  have HO2 := Lib.hid (HO1.out.trans ho (by simp))
  replace m0 := hr2.cell 0 rfl
  have m1 := hr2.cell 1 rfl
  clear c ho hr hr1 hr2
  by_cases hq : k = 15 ∨ k = 16
  · have hb := HA.out hq
    obtain ⟨q1, q2⟩ := HCS.out
    obtain ⟨q3, q4⟩ := hb
    rcases hq with rfl | rfl
    all_goals
      go_wp2_with fail
      exact H.out _ _ (by rw [HC.out]; simp) (HO2.out.alloc _)
  · have h15 : ¬ ((k : Int) = 15) := by omega
    have h16 : ¬ ((k : Int) = 16) := by omega
    have HN := Lib.hid (show ¬ ((k : Int) = 15 ∨ (k : Int) = 16) by omega)
    go_wp2_with fail
    · rename_i hx
      exact absurd hx (by have := HN.out; simp; omega)
    · exact H.out _ _ (by rw [HC.out, if_neg HN.out]) (HO2.out.alloc _)
end Go.Proofs.YtkacgbigeobncaaGreat
namespace Go.Proofs.YtkacgbigeobncaaGreat
open Go.RowKit Go.Maps
set_option maxHeartbeats 3200000
set_option maxRecDepth 100000
set_option linter.unusedVariables false
set_option linter.unusedSimpArgs false
theorem mk_intsC (n : Nat) (hn : n ≤ 1000) : ∃ C : Array Value, C.toList = List.replicate n (.int .i64 0) ∧ ∀ wx : World, (Instr.makeSlice 22 (.int .i64 (n : Int)) (.int .i64 (n : Int))).run Tryz.prog wx = .ok (.slice (some ⟨wx.heap.size, 0, none⟩) n n) (wx.alloc (.cells C 3)) := by
  obtain ⟨i0, hi0, hz0, hz1, hz2⟩ := info_parts infoInt
  refine ⟨madeCells (Value.int .i64 0).cells (n * 1), by rw [made_ints], fun wx => ?_⟩
  rw [run_makeSlice (P := Tryz.prog) (w := wx) 22 3 i0 _ Tryz.underlying22 hi0 hz0 .i64 .i64 _ _ (by omega) (by omega) (by rw [hz1]; omega) (by rw [hz2]; omega) (by omega), hz1]
  rfl
def Rd {α : Type} (row : α → List Value) (z : Nat) (w : World) (v : Value) (l : List α) : Prop :=
  (∃ b o c, v = .slice (some ⟨b, o, none⟩) l.length c ∧ (l.length ≤ c ∧ c ≤ 9223372036854775807) ∧ ∀ i x, l[i]? = some x → ∀ r y, (row x)[r]? = some y → w.cell? ⟨b, o + i * z + r, none⟩ = some y) ∨ (∃ oa c, v = .slice oa 0 c ∧ l = [] ∧ (oa = none → c = 0))
section
variable {α : Type} {row : α → List Value} {z : Nat} {w w' : World} {v : Value} {l : List α}
theorem Rd.len (h : Rd row z w v l) : ∃ a c, v = .slice a l.length c := by
  rcases h with ⟨b, o, c, h, _, _⟩ | ⟨oa, c, h, e, _⟩
  · exact ⟨_, _, h⟩
  · exact ⟨oa, c, by rw [h, e]; rfl⟩
theorem Rd.only (h : Rd row z w v l) (ho : Only [] w w') : Rd row z w' v l := by
  rcases h with ⟨b, o, c, h, hc, h2⟩ | h
  · exact .inl ⟨b, o, c, h, hc, fun i x hx r y hy => ho.cell (h2 i x hx r y hy) (by simp)⟩
  · exact .inr h
theorem Rd.nil : Rd row z w (.slice none 0 0) [] := .inr ⟨none, 0, rfl, rfl, fun _ => rfl⟩
theorem Rd.cap {a : Option Addr} {n c : Nat} (h : Rd row z w (.slice a n c) l) : n ≤ c := by
  rcases h with ⟨b, o, d, h, hc, _⟩ | ⟨oa, d, h, e, _⟩
  · simp only [Value.slice.injEq] at h; omega
  · simp only [Value.slice.injEq] at h; omega
def NilOk (v : Value) : Prop := ∀ c, v = .slice none 0 c → c = 0
theorem Rd.nilOk (h : Rd row z w v l) : NilOk v := by
  intro c e
  rcases h with ⟨b, o, d, h, hc, _⟩ | ⟨oa, d, h, _, h2⟩
  · rw [h] at e; simp at e
  · rw [h] at e
    simp only [Value.slice.injEq] at e
    obtain ⟨rfl, _, rfl⟩ := e
    exact h2 rfl
theorem Rd.max (h : Rd row z w v l) : l.length ≤ 9223372036854775807 := by
  rcases h with ⟨b, o, d, h, hc, _⟩ | ⟨oa, d, h, rfl, _⟩
  · omega
  · simp
theorem Rd.take {a : Option Addr} {n c m : Nat} (h : Rd row z w (.slice a n c) l) (hm : m ≤ l.length) : Rd row z w (.slice a m c) (l.take m) := by
  rcases h with ⟨b, o, d, h, hc, h2⟩ | ⟨oa, d, h, rfl, h2⟩
  · simp only [Value.slice.injEq] at h
    obtain ⟨rfl, _, rfl⟩ := h
    refine .inl ⟨b, o, c, by rw [List.length_take, Nat.min_eq_left hm], ⟨by rw [List.length_take]; omega, hc.2⟩, fun i x hx r y hy => h2 i x ?_ r y hy⟩
    rw [List.getElem?_take] at hx
    split at hx
    · exact hx
    · cases hx
  · simp only [Value.slice.injEq] at h
    obtain ⟨rfl, _, rfl⟩ := h
    obtain rfl : m = 0 := by simpa using hm
    exact .inr ⟨_, _, rfl, rfl, h2⟩
theorem Rd.at {a : Option Addr} {n c : Nat} (h : Rd row z w (.slice a n c) l) (hl : 0 < l.length) : ∃ b o, a = some ⟨b, o, none⟩ ∧ ∀ wr, Only [] w wr → ∀ i x, l[i]? = some x → ∀ r y, (row x)[r]? = some y → wr.cell? ⟨b, o + i * z + r, none⟩ = some y := by
  rcases h with ⟨b, o, d, h, _, h2⟩ | ⟨oa, d, h, rfl, _⟩
  · simp only [Value.slice.injEq] at h
    exact ⟨b, o, h.1, fun wr ho i x hx r y hy => ho.cell (h2 i x hx r y hy) (by simp)⟩
  · simp at hl
end
def Ins.row (i : Ins) : List Value := [.int .i64 i.op, .int .i64 i.a, .int .i64 i.b]
abbrev RdI (w : World) (v : Value) (l : List Ins) : Prop := Rd Ins.row 3 w v l
theorem getI (l : List Ins) {k : Nat} (h : k < l.length) : l[k]? = some (l.getD k default) := by simp [h]
def nmV (n : Nat) (f : Nat → Int) : List Value := (nums n f).map (Value.int .i64)
theorem nmV_set (n : Nat) (f : Nat → Int) (k : Nat) (v : Int) : (nmV n f).set k (.int .i64 v) = nmV n (setI f k v) := by
  unfold nmV; rw [← List.map_set, nums_set]
theorem nmV_at {n : Nat} (f : Nat → Int) {k : Nat} (h : k < n) : (nmV n f)[k]? = some (.int .i64 (f k)) := by
  unfold nmV; rw [List.getElem?_map, nums_at f h]; rfl
structure ShA (w : World) (B n s o e x d : Nat) (F : Shp) : Prop where
  hs : Row w s 186 [.slice (some ⟨o, 0, none⟩) n n, .slice (some ⟨e, 0, none⟩) n n, .slice (some ⟨x, 0, none⟩) n n, .slice (some ⟨d, 0, none⟩) n n, .int .i64 F.deep, .bool true]
  ho : Row w o 3 (nmV n F.op)
  he : Row w e 3 (nmV n F.el)
  hx : Row w x 3 (nmV n F.en)
  hd : Row w d 3 (nmV n F.dp)
  ne : s ≠ o ∧ s ≠ e ∧ s ≠ x ∧ s ≠ d ∧ o ≠ e ∧ o ≠ x ∧ o ≠ d ∧ e ≠ x ∧ e ≠ d ∧ x ≠ d
  ge : B ≤ s ∧ B ≤ o ∧ B ≤ e ∧ B ≤ x ∧ B ≤ d
section
variable {w w' : World} {B n s o e x d : Nat} {F : Shp}
theorem ShA.setOp (h : ShA w B n s o e x d F) (k : Nat) (v : Int) : ShA (w.setCell ⟨o, k, none⟩ (.int .i64 v)) B n s o e x d { F with op := setI F.op k v } := by
  obtain ⟨hs, ho, he, hx, hd, ne, ge⟩ := h
  exact ⟨hs.other (a := ⟨o, k, none⟩) (fun q => by simp at q; omega) _, by have := ho.set k (.int .i64 v); rwa [nmV_set] at this, he.other (a := ⟨o, k, none⟩) (fun q => by simp at q; omega) _, hx.other (a := ⟨o, k, none⟩) (fun q => by simp at q; omega) _, hd.other (a := ⟨o, k, none⟩) (fun q => by simp at q; omega) _, ne, ge⟩
theorem ShA.setEl (h : ShA w B n s o e x d F) (k : Nat) (v : Int) : ShA (w.setCell ⟨e, k, none⟩ (.int .i64 v)) B n s o e x d { F with el := setI F.el k v } := by
  obtain ⟨hs, ho, he, hx, hd, ne, ge⟩ := h
  exact ⟨hs.other (a := ⟨e, k, none⟩) (fun q => by simp at q; omega) _, ho.other (a := ⟨e, k, none⟩) (fun q => by simp at q; omega) _, by have := he.set k (.int .i64 v); rwa [nmV_set] at this, hx.other (a := ⟨e, k, none⟩) (fun q => by simp at q; omega) _, hd.other (a := ⟨e, k, none⟩) (fun q => by simp at q; omega) _, ne, ge⟩
theorem ShA.setEn (h : ShA w B n s o e x d F) (k : Nat) (v : Int) : ShA (w.setCell ⟨x, k, none⟩ (.int .i64 v)) B n s o e x d { F with en := setI F.en k v } := by
  obtain ⟨hs, ho, he, hx, hd, ne, ge⟩ := h
  exact ⟨hs.other (a := ⟨x, k, none⟩) (fun q => by simp at q; omega) _, ho.other (a := ⟨x, k, none⟩) (fun q => by simp at q; omega) _, he.other (a := ⟨x, k, none⟩) (fun q => by simp at q; omega) _, by have := hx.set k (.int .i64 v); rwa [nmV_set] at this, hd.other (a := ⟨x, k, none⟩) (fun q => by simp at q; omega) _, ne, ge⟩
theorem ShA.setDp (h : ShA w B n s o e x d F) (k : Nat) (v : Int) : ShA (w.setCell ⟨d, k, none⟩ (.int .i64 v)) B n s o e x d { F with dp := setI F.dp k v } := by
  obtain ⟨hs, ho, he, hx, hd, ne, ge⟩ := h
  exact ⟨hs.other (a := ⟨d, k, none⟩) (fun q => by simp at q; omega) _, ho.other (a := ⟨d, k, none⟩) (fun q => by simp at q; omega) _, he.other (a := ⟨d, k, none⟩) (fun q => by simp at q; omega) _, hx.other (a := ⟨d, k, none⟩) (fun q => by simp at q; omega) _, by have := hd.set k (.int .i64 v); rwa [nmV_set] at this, ne, ge⟩
theorem ShA.setDeep (h : ShA w B n s o e x d F) (v : Nat) : ShA (w.setCell ⟨s, 4, none⟩ (.int .i64 v)) B n s o e x d { F with deep := v } := by
  obtain ⟨hs, ho, he, hx, hd, ne, ge⟩ := h
  exact ⟨hs.set 4 _, ho.other (a := ⟨s, 4, none⟩) (fun q => by simp at q; omega) _, he.other (a := ⟨s, 4, none⟩) (fun q => by simp at q; omega) _, hx.other (a := ⟨s, 4, none⟩) (fun q => by simp at q; omega) _, hd.other (a := ⟨s, 4, none⟩) (fun q => by simp at q; omega) _, ne, ge⟩
theorem ShA.open (h : ShA w B n s o e x d F) (l : List Nat) : ShA w B n s o e x d { F with open_ := l } := ⟨h.hs, h.ho, h.he, h.hx, h.hd, h.ne, h.ge⟩
theorem ShA.only {G : List Nat} (h : ShA w B n s o e x d F) (hg : Only G w w') (hG : ∀ k ∈ G, k ≠ s ∧ k ≠ o ∧ k ≠ e ∧ k ≠ x ∧ k ≠ d) : ShA w' B n s o e x d F := by
  obtain ⟨hs, ho, he, hx, hd, ne, ge⟩ := h
  exact ⟨hg.row hs (fun q => (hG _ q).1 rfl), hg.row ho (fun q => (hG _ q).2.1 rfl), hg.row he (fun q => (hG _ q).2.2.1 rfl), hg.row hx (fun q => (hG _ q).2.2.2.1 rfl), hg.row hd (fun q => (hG _ q).2.2.2.2 rfl), ne, ge⟩
theorem ShA.cells (h : ShA w B n s o e x d F) : w.cell? ⟨s, 0, none⟩ = some (.slice (some ⟨o, 0, none⟩) n n) ∧ w.cell? ⟨s, 1, none⟩ = some (.slice (some ⟨e, 0, none⟩) n n) ∧ w.cell? ⟨s, 2, none⟩ = some (.slice (some ⟨x, 0, none⟩) n n) ∧ w.cell? ⟨s, 3, none⟩ = some (.slice (some ⟨d, 0, none⟩) n n) ∧ w.cell? ⟨s, 4, none⟩ = some (.int .i64 F.deep) ∧ w.cell? ⟨s, 5, none⟩ = some (.bool true) :=
  ⟨h.hs.cell 0 rfl, h.hs.cell 1 rfl, h.hs.cell 2 rfl, h.hs.cell 3 rfl, h.hs.cell 4 rfl, h.hs.cell 5 rfl⟩
theorem ShA.free (h : ShA w B n s o e x d F) : (∀ k, w.frozen? ⟨s, k, none⟩ = false) ∧ (∀ k, w.frozen? ⟨o, k, none⟩ = false) ∧ (∀ k, w.frozen? ⟨e, k, none⟩ = false) ∧ (∀ k, w.frozen? ⟨x, k, none⟩ = false) ∧ (∀ k, w.frozen? ⟨d, k, none⟩ = false) :=
  ⟨h.hs.free, h.ho.free, h.he.free, h.hx.free, h.hd.free⟩
theorem ShA.at (h : ShA w B n s o e x d F) {k : Nat} (hk : k < n) : w.cell? ⟨o, k, none⟩ = some (.int .i64 (F.op k)) ∧ w.cell? ⟨e, k, none⟩ = some (.int .i64 (F.el k)) ∧ w.cell? ⟨x, k, none⟩ = some (.int .i64 (F.en k)) ∧ w.cell? ⟨d, k, none⟩ = some (.int .i64 (F.dp k)) :=
  ⟨h.ho.cell k (nmV_at _ hk), h.he.cell k (nmV_at _ hk), h.hx.cell k (nmV_at _ hk), h.hd.cell k (nmV_at _ hk)⟩
end
theorem setI_setI (f : Nat → Int) (k : Nat) (a b : Int) : setI (setI f k a) k b = setI f k b := by
  funext j; unfold setI; by_cases h : j = k <;> simp [h]
abbrev opn (l : List Nat) : List Int := l.map fun (y : Nat) => (y : Int)
theorem opn_top {l : List Nat} {m : Nat} (hm : m = l.length) (h0 : 0 < m) : gI (opn l) (m - 1) = topN l := by
  subst hm
  unfold gI topN
  rw [List.getElem?_map, List.getLastD_eq_getLast?, List.getLast?_eq_getElem?]
  cases h : l[l.length - 1]? with
  | none => rw [List.getElem?_eq_none_iff] at h; omega
  | some y => rfl
theorem Only.set6 {F : List Nat} {a w : World} (h : Only F a w) {b : Nat} (hb : a.heap.size ≤ b) (v0 v1 v2 v3 v4 v5 : Value) :
    Only F a ((((((w.setCell ⟨b, 0, none⟩ v0).setCell ⟨b, 1, none⟩ v1).setCell ⟨b, 2, none⟩ v2).setCell ⟨b, 3, none⟩ v3).setCell ⟨b, 4, none⟩ v4).setCell ⟨b, 5, none⟩ v5) :=
  (((((h.set (p := ⟨b, 0, none⟩) (.inr hb) _).set (p := ⟨b, 1, none⟩) (.inr hb) _).set (p := ⟨b, 2, none⟩) (.inr hb) _).set (p := ⟨b, 3, none⟩) (.inr hb) _).set (p := ⟨b, 4, none⟩) (.inr hb) _).set (p := ⟨b, 5, none⟩) (.inr hb) _
end Go.Proofs.YtkacgbigeobncaaGreat
namespace Go.Proofs.YtkacgbigeobncaaGreat
open Go.RowKit
set_option linter.unusedVariables false
set_option linter.unusedSimpArgs false
section
variable {P : Program} {ops : Array Oper} {Q : Exit → Act → World → Prop} {md : Region.Mode}
def leftN (ops : Array Oper) (listed : Array Bool) : Nat := ((List.range ops.size).filter fun i => !listed.getD i true).length
theorem ready_left {listed : Array Bool} (h : leftN ops listed = 0) : Region.ready md ops listed = [] := by
  unfold leftN at h
  have h1 := List.eq_nil_of_length_eq_zero h
  unfold Region.ready
  rw [List.filter_eq_nil_iff] at h1 ⊢
  intro i hi
  have := h1 i hi
  rw [Bool.not_eq_true] at this
  rw [this, Bool.false_and]
  simp
theorem left_less {listed : Array Bool} {i : Nat} (h : i ∈ Region.ready md ops listed) : leftN ops (listed.setIfInBounds i true) < leftN ops listed := by
  unfold Region.ready at h
  rw [List.mem_filter] at h
  obtain ⟨h1, h2⟩ := h
  simp only [Bool.and_eq_true] at h2
  have h3 := h2.1
  have hs : i < listed.size := by
    by_cases hs : i < listed.size
    · exact hs
    · rw [Array.getD_eq_getD_getElem?, Array.getElem?_eq_none (by omega)] at h3
      simp at h3
  unfold leftN
  have hsub : ((List.range ops.size).filter fun j => !(listed.setIfInBounds i true).getD j true) = (((List.range ops.size).filter fun j => !listed.getD j true).filter fun j => decide (j ≠ i)) := by
    rw [List.filter_filter]
    apply List.filter_congr
    intro j hj
    by_cases e : j = i
    · subst e
      simp [Array.getD_eq_getD_getElem?, Array.getElem?_setIfInBounds, hs]
    · simp [Array.getD_eq_getD_getElem?, Array.getElem?_setIfInBounds, e, Ne.symm e]
  rw [hsub]
  refine List.length_filter_lt_length_iff_exists.2 ⟨i, ?_, by simp⟩
  rw [List.mem_filter]
  exact ⟨h1, h3⟩
theorem wpAny_inv (Inv : Array Bool → Act → World → Prop)
    (hstep : ∀ listed a w i o, Inv listed a w → i ∈ Region.ready md ops listed → ops[i]? = some o → ∀ K : Act → World → Prop, (∀ a' w', Inv (listed.setIfInBounds i true) a' w' → K a' w') → if Region.wanted o (yielded ops a.tmps) = true then Oper.wp P o a w K Q else K (a.put o.dst undef) w)
    (hdone : ∀ listed a w, Inv listed a w → Region.ready md ops listed = [] → Q .normal a w) :
    ∀ (fuel : Nat) (listed : Array Bool) (a : Act) (w : World), leftN ops listed ≤ fuel → Inv listed a w → wpAny P md ops Q fuel listed a w
  | 0, listed, a, w, hf, hI => ⟨ready_left (by omega), hdone _ _ _ hI (ready_left (by omega))⟩
  | fuel + 1, listed, a, w, hf, hI => by
    refine ⟨fun hr => hdone _ _ _ hI hr, fun i hi => ?_⟩
    obtain ⟨o, ho⟩ : ∃ o, ops[i]? = some o := by
      unfold Region.ready at hi
      rw [List.mem_filter] at hi
      have := hi.1
      rw [List.mem_range] at this
      exact ⟨_, Array.getElem?_eq_getElem this⟩
    refine wpOp_step ho fun K' hK => hstep listed a w i o hI hi ho K' fun a' w' hI' => hK a' w' ?_
    exact wpAny_inv Inv hstep hdone fuel _ a' w' (by have := left_less hi; omega) hI'
end
end Go.Proofs.YtkacgbigeobncaaGreat
